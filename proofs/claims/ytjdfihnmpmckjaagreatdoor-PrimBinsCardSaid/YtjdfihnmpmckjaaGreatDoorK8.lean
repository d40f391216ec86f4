import Derived.Test.YtjdfihnmpmckjaaGreatDoorK7
import Derived.Test.YtjdfihnmpmckjaaGreatDoorK1
set_option linter.unusedVariables false
set_option linter.unusedSimpArgs false
namespace Go.EX
section
variable {sz by_:Nat} {M:Mem} {ms:List IV}
theorem znj(hms:ms.length=sz):elems (M++[.flat ms false]) sz (.osl M.length 0 sz 1 (some 1))=some (1,ms):=by
 simp only[elems,zg7]
 rw[zdv _ (by omega)];rfl
theorem znk(hms:ms.length=sz):elemsR (M++[.flat ms false]) sz (.osl M.length 0 sz 1 (some 1))=some (1,ms.map .imm):=by
 simp only[elemsR,zg7]
 rw[zdv _ (by omega)];rfl
theorem apn_in(hms:ms.length=sz){rid l c:Nat}{ob:AObj}{cells:List AV}(ho:M[rid]?=some ob)(hr:RowO cells ob)(hl:l<c)(hc:(l+1)*sz≤cells.length):
  ∃o',RowO (setAll cells (l*sz) (ms.map .imm)) o'∧∀(K:Nat) (e:Env),exAppendN ⟨K,e,M++[.flat ms false]⟩ sz by_ (.osl rid 0 sz l (some c)) (.osl M.length 0 sz 1 (some 1))=some (.osl rid 0 sz (l+1) (some c),⟨K,e,M.set rid o'++[.flat ms false]⟩):=by
 have hrl:rid<M.length:=(List.getElem?_eq_some_iff.1 ho).1
 have hg:(M++[.flat ms false])[rid]?=some ob:=by rw[List.getElem?_append_left hrl];exact ho
 have hs:∀o,(M++[AObj.flat ms false]).set rid o=M.set rid o++[.flat ms false]:=fun o=>List.set_append_left _ _ hrl
 have h1:l+1≤c:=hl
 rcases hr with rfl|⟨cs,rfl,rfl⟩
 ·refine⟨.rich (setAll cells (l*sz) (ms.map .imm)),.inl rfl,fun K e=>?_⟩
  simp only[exAppendN,AV.isOpen,Bool.false_eq_true,if_false,exAppendX,exAppend,znj hms,hg,if_true,exAppendR,znk hms,richOf]
  simp[h1,hc,hs]
 ·rw[List.length_map]at hc
  refine⟨.flat (setAll cs (l*sz) ms) false,.inr ⟨_,rfl,zs6 ms cs _⟩,fun K e=>?_⟩
  simp only[exAppendN,AV.isOpen,Bool.false_eq_true,if_false,exAppendX,exAppend,znj hms,hg,if_true]
  simp[h1,hc,hs]
theorem zaz(hms:ms.length=sz){rid c:Nat}{ob:AObj}{cells:List AV}(ho:M[rid]?=some ob)(hr:RowO cells ob)(hc:cells.length=c*sz)(hb:(c+1)*by_≤140737488355328):
  ∃o',RowO (cells++ms.map .imm) o'∧∀(K:Nat) (e:Env),exAppendN ⟨K,e,M++[.flat ms false]⟩ sz by_ (.osl rid 0 sz c (some c)) (.osl M.length 0 sz 1 (some 1))=some (.osl (M.length+1) 0 sz (c+1) none,⟨K,e,M++[.flat ms false,o']⟩):=by
 have hrl:rid<M.length:=(List.getElem?_eq_some_iff.1 ho).1
 have hg:(M++[.flat ms false])[rid]?=some ob:=by rw[List.getElem?_append_left hrl];exact ho
 have h1:¬c+1≤c:=by omega
 rcases hr with rfl|⟨cs,rfl,rfl⟩
 ·refine⟨.rich (cells++ms.map .imm),.inl rfl,fun K e=>?_⟩
  have h2:elemsR (M++[.flat ms false]) sz (.osl rid 0 sz c (some c))=some (c,cells):=by
   simp only[elemsR,hg]
   rw[zdv _ hc];rfl
  simp only[exAppendN,AV.isOpen,Bool.false_eq_true,if_false,exAppendX,exAppend,znj hms,hg,if_true,exAppendR,znk hms,h2]
  simp[h1,hb]
 ·rw[List.length_map]at hc
  refine⟨.flat (cs++ms) false,.inr ⟨_,rfl,by simp⟩,fun K e=>?_⟩
  have h2:cut cs 0 (c*sz)=some cs:=zdv _ hc
  simp only[exAppendN,AV.isOpen,Bool.false_eq_true,if_false,exAppendX,exAppend,znj hms,hg,if_true,h2]
  simp[h1,hb]
theorem za0(hms:ms.length=sz){x:AV}(hx:x=nilS∨∃row off,x=.imm (.slice row off 0 (some 0)))(hb:by_≤140737488355328)(K:Nat)(e:Env):
  exAppendN ⟨K,e,M++[.flat ms false]⟩ sz by_ x (.osl M.length 0 sz 1 (some 1))=some (.osl (M.length+1) 0 sz 1 none,⟨K,e,M++[.flat ms false,.flat ms false]⟩):=by
 rcases hx with rfl|⟨row,off,rfl⟩
 ·simp only[exAppendN,AV.isOpen,Bool.false_eq_true,if_false,exAppendX,exAppend,znj hms]
  simp[hb]
 ·have h2:cut row off 0=some []:=by simp[cut]
  simp only[exAppendN,AV.isOpen,Bool.false_eq_true,if_false,exAppendX,exAppend,znj hms,Nat.zero_mul,h2]
  simp[hb]
theorem za1(hms:ms.length=sz){nid l:Nat}{ob:AObj}{cells:List AV}(ho:M[nid]?=some ob)(hr:RowO cells ob)(hc:cells.length=l*sz)(hb:(l+1)*by_≤140737488355328)(K:Nat)(e:Env):
  exAppendN ⟨K,e,M++[.flat ms false]⟩ sz by_ (.osl nid 0 sz l none) (.osl M.length 0 sz 1 (some 1))=some (.osl (M.length+1) 0 sz (l+1) none,⟨K,e,M.set nid .dead++[.flat ms false,.rich (cells++ms.map .imm)]⟩):=by
 have hrl:nid<M.length:=(List.getElem?_eq_some_iff.1 ho).1
 have hg:(M++[.flat ms false])[nid]?=some ob:=by rw[List.getElem?_append_left hrl];exact ho
 have hs:∀o,(M++[AObj.flat ms false]).set nid o=M.set nid o++[.flat ms false]:=fun o=>List.set_append_left _ _ hrl
 have h2:elemsR (M++[.flat ms false]) sz (.osl nid 0 sz l none)=some (l,cells):=zrc hg hr hc
 simp only[exAppendN,AV.isOpen,if_true,exAppendR,znk hms,h2]
 simp[hb,hs]
def GL(B:Nat)(M:Mem)(sz:Nat)(mi:List AV)(x:AV)(len:Nat)(lg:AV)(j:Nat):Prop:=
 (j=0∧lg=x)∨(j=1∧∃rid ob,x=.osl rid 0 sz len (some (len+1))∧lg=.osl rid 0 sz (len+1) (some (len+1))∧M[rid]?=some ob∧RowO (copies (len+1) mi) ob)∨
 (0<j∧∃nid ob,lg=.osl nid 0 sz (len+j) none∧B≤nid∧M[nid]?=some ob∧RowO (copies (len+j) mi) ob)
theorem zhd(hms:ms.length=sz)(hb0:by_≤1000){B len j:Nat}{x lg:AV}{rest:List AV}(hB:B≤M.length)(hlen:len≤1000000000)(hj:j≤100)(hk:KX M sz x len (copies len (ms.map .imm)++rest))(hx:∀id∈x.refs,id<B)(hg:GL B M sz (ms.map .imm) x len lg j):
  ∃lg' M' rest',(∀(K:Nat) (e:Env),exAppendN ⟨K,e,M++[.flat ms false]⟩ sz by_ lg (.osl M.length 0 sz 1 (some 1))=some (lg',⟨K,e,M'⟩))∧M.length<M'.length∧(∀id,id<B→id ∉ x.refs→M'[id]?=M[id]?)∧KX M' sz x len (copies len (ms.map .imm)++rest')∧GL B M' sz (ms.map .imm) x len lg' (j+1):=by
 have hmi:(ms.map AV.imm).length=sz:=by rw[List.length_map,hms]
 have hcl:∀n,(copies n (ms.map AV.imm)).length=n*sz:=fun n=>by rw[zdr,hmi]
 have hbb:∀n,n≤1000000200→(n+1)*by_≤140737488355328:=fun n hn=>by
  have:(n+1)*by_≤(n+1)*1000:=Nat.mul_le_mul_left _ hb0
  omega
 have hfresh:∀(A o':AObj) (id:Nat),id<M.length→(M++[A,o'])[id]?=M[id]?:=fun A o' id h=>List.getElem?_append_left h
 have hnew:∀(N:Mem) (A o':AObj),N.length=M.length→(N++[A,o'])[M.length+1]?=some o':=fun N A o' h=>by
  rw[List.getElem?_append_right (by omega),h];simp
 rcases hg with⟨rfl,rfl⟩|⟨rfl,rid,ob,rfl,rfl,ho,hr⟩|⟨hj0,nid,ob,rfl,hnB,ho,hr⟩
 ·rcases hk with⟨rid,c,ob,rfl,ho,hr,hc,hlc,hc2⟩|⟨rfl,hcells,hx0⟩
  ·have hrB:=hx rid (by simp[AV.refs])
   have hrl:rid<M.length:=(List.getElem?_eq_some_iff.1 ho).1
   rcases Nat.lt_or_ge len c with hlt|hge
   ·have:c=len+1:=by omega
    subst this
    have hrs:rest.length=sz:=by
     rw[List.length_append,hcl]at hc
     have:(len+1)*sz=len*sz+sz:=by rw[Nat.add_mul,Nat.one_mul]
     omega
    obtain⟨o',hr',hap⟩:=apn_in (by_:=by_) hms ho hr hlt (by rw[hc];exact Nat.le_refl _)
    have hset:setAll (copies len (ms.map AV.imm)++rest) (len*sz) (ms.map .imm)=copies (len+1) (ms.map .imm):=by
     have:=ztc (copies len (ms.map AV.imm)) rest [] (ms.map .imm) (by rw[hrs,hmi]) (hcl len)
     rw[List.append_nil,List.append_nil]at this
     rw[this,zdt]
    rw[hset]at hr'
    have hg':(M.set rid o'++[AObj.flat ms false])[rid]?=some o':=by
     rw[List.getElem?_append_left (by rw[List.length_set];omega)]
     exact List.getElem?_set_self (by omega)
    refine⟨_,_,ms.map .imm,hap,by simp,fun id h1 h2=>?_,.inl ⟨rid,len+1,o',rfl,hg',by rw[zdt];exact hr',by rw[zdt,hcl],by omega,by omega⟩,.inr (.inl ⟨rfl,rid,o',rfl,rfl,hg',hr'⟩)⟩
    rw[List.getElem?_append_left (by rw[List.length_set];omega),List.getElem?_set_ne (fun e=>h2 (by simp[AV.refs,e]))]
   ·have:c=len:=by omega
    subst this
    have hrest:rest=[]:=by
     rw[List.length_append,hcl]at hc
     exact List.eq_nil_of_length_eq_zero (by omega)
    subst hrest
    rw[List.append_nil]at hr hc
    obtain⟨o',hr',hap⟩:=zaz (by_:=by_) hms ho hr hc (hbb _ (by omega))
    rw[zdt]at hr'
    refine⟨_,_,[],hap,by simp,fun id h1 h2=>hfresh _ _ id (by omega),.inl ⟨rid,c,ob,rfl,by rw[hfresh _ _ rid hrl];exact ho,by rw[List.append_nil];exact hr,by rw[List.append_nil,hcl],by omega,by omega⟩,.inr (.inr ⟨by omega,M.length+1,o',rfl,by omega,hnew M _ _ rfl,hr'⟩)⟩
  ·have hap:=za0 (by_:=by_) (M:=M) hms hx0 (by omega)
   refine⟨_,_,rest,hap,by simp,fun id h1 h2=>hfresh _ _ id (by omega),.inr ⟨rfl,hcells,hx0⟩,.inr (.inr ⟨by omega,M.length+1,.flat ms false,rfl,by omega,hnew M _ _ rfl,.inr ⟨ms,rfl,by simp[copies]⟩⟩)⟩
 ·have hrl:rid<M.length:=(List.getElem?_eq_some_iff.1 ho).1
  obtain⟨o',hr',hap⟩:=zaz (by_:=by_) hms ho hr (hcl _) (hbb _ (by omega))
  rw[zdt]at hr'
  refine⟨_,_,rest,hap,by simp,fun id h1 h2=>hfresh _ _ id (by omega),zis hk fun id hid=>hfresh _ _ id (kx_lt hk id hid),.inr (.inr ⟨by omega,M.length+1,o',rfl,by omega,hnew M _ _ rfl,hr'⟩)⟩
 ·have hnl:nid<M.length:=(List.getElem?_eq_some_iff.1 ho).1
  have hap:=za1 (by_:=by_) hms ho hr (hcl _) (hbb _ (by omega))
  have hsame:∀id,id<B→(M.set nid .dead++[.flat ms false,.rich (copies (len+j) (ms.map AV.imm)++ms.map .imm)])[id]?=M[id]?:=fun id h1=>by
   rw[List.getElem?_append_left (by simp;omega),List.getElem?_set_ne (by omega)]
  refine⟨_,_,rest,hap,by simp,fun id h1 h2=>hsame id h1,zis hk fun id hid=>hsame id (hx id hid),.inr (.inr ⟨by omega,M.length+1,_,rfl,by omega,hnew _ _ _ (by simp),?_⟩)⟩
  rw[zdt]
  exact .inl rfl
end
end Go.EX


namespace Go.EX
theorem zrl{M:Mem}{id off:Nat}{o:AObj}{cells vs:List AV}(hM:M[id]?=some o)(h:RowO cells o)(hl:off+vs.length≤cells.length):
  ∃o',RowO (setAll cells off vs) o'∧storeAt M (.optr id off) vs=some (M.set id o'):=by
 cases him:imms vs with
 |some xs=>
  have:=zhu _ _ him
  subst this
  rw[List.length_map]at hl
  exact zrk hM h hl
 |none=>
  rcases h with rfl|⟨cs,rfl,rfl⟩
  ·exact⟨_,.inl rfl,by simp only[storeAt,hM];rw[if_pos hl]⟩
  ·rw[List.length_map]at hl
   exact⟨_,.inl rfl,by simp[storeAt,hM,him,hl]⟩
theorem ze0:∀(E:List KE) (i:Nat) (e:KE) (lg:AV),E[i]?=some e→(entC E).set (i*3+1) lg=entC (E.set i { e with lg:=lg })
 |[],i,e,lg,h=>by simp at h
 |p::r,0,e,lg,h=>by
  simp at h;subst h
  rfl
 |p::r,i+1,e,lg,h=>by
  have h1:=ze0 r i e lg (by simpa using h)
  have hr:∀(p:KE) r,entC (p::r)=p.c3++entC r:=fun _ _=>rfl
  rw[hr,List.set_append_right _ _ (by simp[KE.c3];omega),List.set_cons_succ,hr,←h1]
  congr 2
  simp[KE.c3];omega
def GrownE(B:Nat)(M:Mem)(sz:Nat)(mi:Int→List IV)(e e':KE):Prop:=
 e'.x=e.x∧e'.n=e.n∧e'.len=e.len∧(∃rest,KX M sz e.x e.len (copies e.len ((mi e.n).map .imm)++rest))∧∃nid ob,e'.lg=.osl nid 0 sz (e.len+40) none∧B≤nid∧M[nid]?=some ob∧RowO (copies (e.len+40) ((mi e.n).map .imm)) ob
section
variable {code:Nat→Option XFun} {ext:Calls'}
theorem zhb{sz by_ f mk:Nat}{zs:List Value}{n:Int}{ms:List IV}(hb0:by_≤1000)(hz:zs.length=sz)(hmk:∀s,exView (callW code ext) s mk [int64 n]=some (.agg (ms.map .imm),s))(hms:ms.length=sz){K b h len:Nat}{i:Int}{M:Mem}{x lg:AV}{rest:List AV}
  (hh:M[h]?=some (.rich [x,lg,int64 n])) (hhx:h ∉ x.refs) (hk:KX M sz x len (copies len (ms.map .imm)++rest)) (hlen:len≤1000000000) {s:St}
  (hst:s.tidy [1000000,0,2,3,4,5]=⟨K,[(1000000,.junk),(0,.optr b 0),(2,int64 i),(3,.optr h 0),(4,x),(5,int64 0)],M⟩):
  ∃e s',den code ext (.loop [1000000,0,2,3,4,5] (growBL1 sz by_ zs f mk)) s=some (e,s')∧e≠ .normal∧
   (e=.exit 2∧∃M' lg' rest',s'=⟨K,[(0,.optr b 0),(2,int64 i),(3,.optr h 0),(4,lg'),(5,int64 40),(25,avb false)],M'⟩∧M.length≤M'.length∧(∀id,id<M.length→id ∉ x.refs→M'[id]?=M[id]?)∧KX M' sz x len (copies len (ms.map .imm)++rest')∧GL M.length M' sz (ms.map .imm) x len lg' 40):=by
 refine zjp (fun m s=>∃(j:Nat) (Mj:Mem) (lgj:AV) (restj:List AV),j+m=40∧s.tidy [1000000,0,2,3,4,5]=⟨K,[(1000000,.junk),(0,.optr b 0),(2,int64 i),(3,.optr h 0),(4,lgj),(5,int64 (j:Nat))],Mj⟩∧M.length≤Mj.length∧(∀id,id<M.length→id ∉ x.refs→Mj[id]?=M[id]?)∧
  KX Mj sz x len (copies len (ms.map .imm)++restj)∧GL M.length Mj sz (ms.map .imm) x len lgj j) _ ?_ 40 _ ⟨0,M,x,rest,by simp,by simpa using hst,Nat.le_refl _,fun _ _ _=>rfl,hk,.inl ⟨rfl,rfl⟩⟩
 clear hst
 rintro m s ⟨j,Mj,lgj,restj,hj,hst,hl,hsame,hkj,hgj⟩
 rw[hst]
 have hhl:h<M.length:=(List.getElem?_eq_some_iff.1 hh).1
 have hMh:Mj[h]?=some (.rich [x,lg,int64 n]):=by rw[hsame h hhl hhx];exact hh
 have l2:loadAt Mj none (.optr h 2)=some (int64 n):=by simp only[loadAt,hMh];rfl
 by_cases hlt:j<40
 ·have e1:IntKind.wrap .i64 ((j:Int)+1)=(j:Int)+1:=wrapI64 (by omega) (by omega)
  have hlt':(j:Int)<40:=by omega
  obtain⟨lg',M',rest',hap,q1,q2,q3,q4⟩:=zhd hms hb0 hl hlen (by omega) hkj (fun id hid=>kx_lt hk id hid) hgj
  have hc1:copies 1 zs=zs:=by simp[copies]
  have hfa:fillAll (imZ zs) [(0,sz,.agg (ms.map .imm))]=some (ms.map .imm):=by
   simp only[fillAll,AV.cells,List.length_map,hms,imZ,hz,Nat.zero_add,Nat.le_refl,and_self,if_true]
   rw[zs8 _ _ (by simp[hz,hms])]
  refine⟨.normal,⟨K,[(0,.optr b 0),(2,int64 i),(3,.optr h 0),(4,lg'),(5,int64 ((j:Int)+1))],M'⟩,?_,.inl ⟨rfl,m-1,by omega,j+1,M',lg',rest',by omega,by simp -implicitDefEqProofs [],by omega,fun id h1 h2=>?_,q3,q4⟩⟩
  ·simp -implicitDefEqProofs [growBL1,l2,-loadAt,hlt,hlt',hmk,-exView,hc1,hfa,-fillAll,-imZ,hap,e1]
  ·rw[q2 id h1 h2];exact hsame id h1 h2
 ·have:j=40:=by omega
  subst this
  refine⟨.exit 2,⟨K,[(0,.optr b 0),(2,int64 i),(3,.optr h 0),(4,lgj),(5,int64 40),(25,avb false)],Mj⟩,?_,.inr ⟨by simp,rfl,Mj,lgj,restj,rfl,hl,hsame,hkj,hgj⟩⟩
  simp -implicitDefEqProofs [growBL1]
theorem zhc{g sz by_ f mk:Nat}{zs:List Value}(hg:code g=some (growB sz by_ zs f mk))(hb0:by_≤1000)(hz:zs.length=sz){mi:Int→List IV}{R:Int→Prop}(hmk:∀s n,R n→exView (callW code ext) s mk [int64 n]=some (.agg ((mi n).map .imm),s))(hms:∀n,(mi n).length=sz)
  {M:Mem} {b:Nat} {vx:AV} {E:List KE} (hk:HoldK M b f vx E) (hbl:b<M.length) (hE:E.length≤1000000000) (hEn:∀e∈E,R e.n) (hx:∀e∈E,(∃rest,KX M sz e.x e.len (copies e.len ((mi e.n).map .imm)++rest))∧e.len≤1000000000) (hvl:∀id∈vx.refs,id<M.length∧id≠b):
  ∃M' E',callW code ext g [.optr b 0] M=some (.tup [],M')∧M.length≤M'.length∧(∀id,id<M.length→id ∉ refsE E→id ∉ vx.refs→M'[id]?=M[id]?)∧HeldAt M' vx (entC E') E.length∧E'.length=E.length∧∀(j:Nat) e,E[j]?=some e→∃e',E'[j]?=some e'∧GrownE M.length M' sz mi e e':=by
 have hloop:∃e s',den code ext (.loop [1000000,0,2] (growBL2 sz by_ zs f mk)) ⟨M.length,[(0,.optr b 0),(2,int64 0)],M⟩=some (e,s')∧e≠ .normal∧
   (e=.exit 0∧∃M' E',s'=⟨M.length,[(0,.optr b 0),(2,int64 E.length),(12,avb false)],M'⟩∧M.length≤M'.length∧(∀id,id<M.length→id ∉ refsE E→id ∉ vx.refs→M'[id]?=M[id]?)∧HeldAt M' vx (entC E') E.length∧E'.length=E.length∧∀(j:Nat) e,E[j]?=some e→∃e',E'[j]?=some e'∧GrownE M.length M' sz mi e e'):=by
  refine zjp (fun m s=>∃(i:Nat) (Mi:Mem) (Ei:List KE),i+m=E.length∧s.tidy [1000000,0,2]=⟨M.length,[(1000000,.junk),(0,.optr b 0),(2,int64 (i:Nat))],Mi⟩∧M.length≤Mi.length∧(∀id,id<M.length→id ∉ refsE (E.take i)→id ∉ vx.refs→Mi[id]?=M[id]?)∧
   HeldAt Mi vx (entC Ei) E.length∧Ei.length=E.length∧(∀(j:Nat) e,j<i→E[j]?=some e→∃e',Ei[j]?=some e'∧GrownE M.length Mi sz mi e e')∧∀j,i≤j→Ei[j]?=E[j]?) _ ?_ E.length _ ⟨0,M,E,by simp,by simp -implicitDefEqProofs [],Nat.le_refl _,fun _ _ _ _=>rfl,hk.h,rfl,fun j e h=>by omega,fun _ _=>rfl⟩
  rintro m s ⟨i,Mi,Ei,hi,hst,hlen,hsame,hheld,hEl,hdone,hrest⟩
  rw[hst]
  have hsub:∀id∈refsE (E.take i),id∈refsE E:=fun id hid=>by
   obtain⟨e,he,hid⟩:=List.mem_flatMap.1 hid
   exact List.mem_flatMap.2 ⟨e,List.mem_of_mem_take he,hid⟩
  obtain⟨B,hB0,hBf⟩:=hk.B
  have hB:Mi[b]?=some (.rich B):=by rw[hsame b hbl (fun hm=>(hk.own b (hsub b hm)).1 rfl) fun hm=>(hvl b hm).2 rfl];exact hB0
  have lb:loadAt Mi none (.optr b f)=some vx:=by simp only[loadAt,hB];exact hBf
  have hlx:=zho hheld
  by_cases hlt:i<E.length
  ·have hlt':(i:Int)<E.length:=by omega
   have e1:IntKind.wrap .i64 ((i:Int)+1)=(i:Int)+1:=wrapI64 (by omega) (by omega)
   have hgi:=List.getElem?_eq_getElem hlt
   have hmke:=fun s=>hmk s _ (hEn _ (List.getElem_mem hlt))
   have hgE:Ei[i]?=some E[i]:=by rw[hrest i (Nat.le_refl _)];exact hgi
   obtain⟨⟨rest,hxi⟩,hle⟩:=hx _ (List.getElem_mem hlt)
   have htk:E.take (i+1)=E.take i++[E[i]]:=by rw[List.take_add_one,hgi];rfl
   have hcut:=zey Ei i _ hgE
   have hset:=fun lg=>ze0 Ei i _ lg hgE
   have hnd:∀id∈(E[i]).x.refs,id ∉ refsE (E.take i):=by
    have h1:=hk.nd
    rw[←List.take_append_drop (i+1) E,htk]at h1
    unfold refsE at h1
    simp only[List.flatMap_append,List.flatMap_cons,List.flatMap_nil,List.append_nil,List.append_assoc]at h1
    rw[List.nodup_append]at h1
    intro id hid hm
    exact h1.2.2 id hm id (List.mem_append_left _ hid) rfl
   have hown:∀id∈(E[i]).x.refs,id≠b∧id ∉ vx.refs:=fun id hid=>hk.own id (List.mem_flatMap.2 ⟨E[i],List.getElem_mem hlt,hid⟩)
   generalize E[i]=e at hmke hxi hle htk hcut hnd hown hset hgE hgi
   obtain⟨x,lg,n,len,cells⟩:=e
   dsimp only at hmke
   simp only[KE.c3]at hcut hxi hle hnd hown hset
   rcases hheld with⟨_,_,h0⟩|⟨vid,vo,rfl,hvo,hvr,hvc,_⟩
   ·omega
   obtain⟨hvidl,hvidb⟩:=hvl vid (by simp[AV.refs])
   have lv:=zrd hvo hvr hcut
   have hxlt:∀id∈x.refs,id<M.length:=kx_lt hxi
   have hx':KX Mi sz x len (copies len ((mi n).map .imm)++rest):=zis hxi fun id hid=>hsame id (hxlt id hid) (hnd id hid) (hown id hid).2
   have hst3:storeAt (Mi++[.rich [nilS,nilS,int64 0]]) (.optr Mi.length 0) [x,lg,int64 n]=some (Mi++[.rich [x,lg,int64 n]]):=by
    simp[storeAt,setAll]
   have hh:(Mi++[.rich [x,lg,int64 n]])[Mi.length]?=some (.rich [x,lg,int64 n]):=zg7 _ _
   have lh0:loadAt (Mi++[.rich [x,lg,int64 n]]) none (.optr Mi.length 0)=some x:=by simp only[loadAt,hh];rfl
   have hold:∀id,id<Mi.length→(Mi++[.rich [x,lg,int64 n]])[id]?=Mi[id]?:=fun id h=>List.getElem?_append_left h
   obtain⟨e,s',h1,_,rfl,M2,lg',rest',rfl,q1,q2,q3,q4⟩:=zhb (K:=M.length) (b:=b) (i:=(i:Int)) (zs:=zs) (f:=f) hb0 hz hmke (hms n) hh (fun hm=>by have:=hxlt _ hm;omega) (zis hx' fun id hid=>hold id (kx_lt hx' id hid)) hle
    (s:=⟨M.length,[(0,.optr b 0),(2,int64 (i:Nat)),(3,.optr Mi.length 0),(4,x),(5,int64 0)],Mi++[.rich [x,lg,int64 n]]⟩) (by simp -implicitDefEqProofs [])
   simp only[List.length_append,List.length_cons,List.length_nil,Nat.zero_add]at q1 q2 q4
   rcases q4 with⟨h0,_⟩|⟨h0,_⟩|⟨_,nid,nob,rfl,hnB,hno,hnr⟩
   ·omega
   ·omega
   have h2same:∀id,id<Mi.length→id ∉ x.refs→M2[id]?=Mi[id]?:=fun id h3 h4=>by rw[q2 id (by omega) h4];exact hold id h3
   have hvx:vid ∉ x.refs:=fun hm=>(hown vid hm).2 (by simp[AV.refs])
   have hbx:b ∉ x.refs:=fun hm=>(hown b hm).1 rfl
   have hB2:M2[b]?=some (.rich B):=by rw[h2same b (by omega) hbx];exact hB
   have lb2:loadAt M2 none (.optr b f)=some (.osl vid 0 3 E.length none):=by simp only[loadAt,hB2];exact hBf
   have hvo2:M2[vid]?=some vo:=by rw[h2same vid (by omega) hvx];exact hvo
   obtain⟨o',hr',hs'⟩:=zrl (vs:=[.osl nid 0 sz (len+40) none]) (off:=i*3+1) hvo2 hvr (by simp only[List.length_cons,List.length_nil];omega)
   have hset':setAll (entC Ei) (i*3+1) [.osl nid 0 sz (len+40) none]=entC (Ei.set i ⟨x,.osl nid 0 sz (len+40) none,n,len,cells⟩):=hset _
   rw[hset']at hr'
   have h3same:∀id,id<Mi.length→id ∉ x.refs→id≠vid→(M2.set vid o')[id]?=Mi[id]?:=fun id h3 h4 h5=>by rw[List.getElem?_set_ne (fun e=>h5 e.symm)];exact h2same id h3 h4
   refine⟨.normal,⟨M.length,[(0,.optr b 0),(2,int64 ((i:Int)+1))],M2.set vid o'⟩,?_,.inl ⟨rfl,m-1,by omega,i+1,M2.set vid o',Ei.set i ⟨x,.osl nid 0 sz (len+40) none,n,len,cells⟩,by omega,by simp -implicitDefEqProofs [],by simp;omega,fun id q1 q2 q3=>?_,
    .inr ⟨vid,o',rfl,by rw[List.getElem?_set_self (by omega)],hr',by rw[zez];simp[hEl],by omega⟩,by simp[hEl],fun j e hj he=>?_,fun j hj=>?_⟩⟩
   ·simp -implicitDefEqProofs [growBL2,lb,-loadAt,hlt,hlt',lv,hst3,-storeAt,lh0,h1,lb2,hs',e1]
   ·rw[htk,zp0,List.mem_append,not_or]at q2
    rw[h3same id (by omega) q2.2 fun e=>q3 (by simp[AV.refs,e])]
    exact hsame id q1 q2.1 q3
   ·rcases Nat.lt_or_ge j i with hji|hji
    ·obtain⟨e',he',g1,g2,g3,⟨rst,g4⟩,nid2,ob2,g5,g6,g7,g8⟩:=hdone j e hji he
     have hej:e∈E.take i:=List.mem_of_getElem? (i:=j) (by rw[List.getElem?_take,if_pos hji];exact he)
     refine⟨e',by rw[List.getElem?_set_ne (by omega)];exact he',g1,g2,g3,⟨rst,zis g4 fun id hid=>?_⟩,nid2,ob2,g5,g6,?_,g8⟩
     ·have hid2:id∈refsE (E.take i):=List.mem_flatMap.2 ⟨e,hej,hid⟩
      exact h3same id (kx_lt g4 id hid) (fun hm=>hnd id hm hid2) fun e=>(hk.own id (hsub id hid2)).2 (by simp[AV.refs,e])
     ·have hl2:nid2<Mi.length:=(List.getElem?_eq_some_iff.1 g7).1
      rw[h3same nid2 hl2 (fun hm=>by have:=hxlt _ hm;omega) (by omega)]
      exact g7
    ·have:j=i:=by omega
     subst this
     rw[hgi]at he
     cases he
     refine⟨⟨x,.osl nid 0 sz (len+40) none,n,len,cells⟩,by rw[List.getElem?_set_self (by omega)],rfl,rfl,rfl,⟨rest',zis q3 fun id hid=>?_⟩,nid,nob,rfl,by omega,?_,hnr⟩
     ·rw[List.getElem?_set_ne]
      intro e
      exact hvx (by rw[e];exact hid)
     ·rw[List.getElem?_set_ne (by omega)];exact hno
   ·rw[List.getElem?_set_ne (by omega)];exact hrest j (by omega)
  ·have:i=E.length:=by omega
   subst this
   rw[List.take_length]at hsame
   refine⟨.exit 0,⟨M.length,[(0,.optr b 0),(2,int64 E.length),(12,avb false)],Mi⟩,?_,.inr ⟨by simp,rfl,Mi,Ei,rfl,hlen,hsame,hheld,hEl,fun j e he=>hdone j e ((List.getElem?_eq_some_iff.1 he).1) he⟩⟩
   simp -implicitDefEqProofs [growBL2,lb,-loadAt,hlx]
 obtain⟨e,s',h1,_,rfl,M',E',rfl,h2,h3,h4,h5,h6⟩:=hloop
 refine⟨M',E',?_,h2,h3,h4,h5,h6⟩
 rw[zb5 code ext hg]
 simp -implicitDefEqProofs [growB,h1]
end
end Go.EX


namespace Go.EX
theorem zdw{β:Type}(l rest:List β):∀(n k:Nat),k<n→cut (copies n l++rest) (k*l.length) l.length=some l
 |0,k,h=>by omega
 |n+1,0,h=>by
  rw[copies,Nat.zero_mul,List.append_assoc]
  unfold cut
  simp
 |n+1,k+1,h=>by
  have h1:=zdw l rest n k (by omega)
  have e:(k+1)*l.length=l.length+k*l.length:=by rw[Nat.add_mul,Nat.one_mul,Nat.add_comm]
  unfold cut at *
  rw[copies,List.append_assoc,e,List.drop_append,List.drop_eq_nil_of_le (by omega),List.nil_append,Nat.add_sub_cancel_left]
  exact h1
section
variable {code:Nat→Option XFun} {ext:Calls'}
theorem zjk{sz f isn:Nat}{n:Int}{ms:List IV}(his:∀s,exView (callW code ext) s isn [.agg (ms.map .imm),int64 n]=some (avb true,s))(hms:ms.length=sz){K b h len nid:Nat}{i:Int}{M:Mem}{x:AV}{rest:List AV}{nob:AObj}
  (hh:M[h]?=some (.rich [x,.osl nid 0 sz (len+40) none,int64 n])) (hk:KX M sz x len (copies len (ms.map .imm)++rest)) (hno:M[nid]?=some nob) (hnr:RowO (copies (len+40) (ms.map .imm)) nob) (hlen:len≤1000000000) {s:St}
  (hst:s.tidy [1000000,0,3,4,5]=⟨K,[(1000000,.junk),(0,.optr b 0),(3,int64 i),(4,.optr h 0),(5,int64 0)],M⟩):
  ∃e s',den code ext (.loop [1000000,0,3,4,5] (lookBL1 sz f isn)) s=some (e,s')∧e≠ .normal∧
   (e=.exit 2∧s'=⟨K,[(0,.optr b 0),(3,int64 i),(4,.optr h 0),(5,int64 (len+40:Nat)),(34,avb false)],M⟩):=by
 have hmi:(ms.map AV.imm).length=sz:=by rw[List.length_map,hms]
 have l0:loadAt M none (.optr h 0)=some x:=by simp only[loadAt,hh];rfl
 have l1:loadAt M none (.optr h 1)=some (.osl nid 0 sz (len+40) none):=by simp only[loadAt,hh];rfl
 have l2:loadAt M none (.optr h 2)=some (int64 n):=by simp only[loadAt,hh];rfl
 have hlx:=kx_len hk
 refine zjp (fun m s=>∃(k:Nat),k+m=len+40∧s.tidy [1000000,0,3,4,5]=⟨K,[(1000000,.junk),(0,.optr b 0),(3,int64 i),(4,.optr h 0),(5,int64 (k:Nat))],M⟩) _ ?_ (len+40) _ ⟨0,by simp,by simpa using hst⟩
 clear hst
 rintro m s ⟨k,hm,hst⟩
 rw[hst]
 by_cases hlt:k<len+40
 ·have hlt':(k:Int)<(len:Int)+40:=by omega
  have e1:IntKind.wrap .i64 ((k:Int)+1)=(k:Int)+1:=wrapI64 (by omega) (by omega)
  have hc1:=zdw (ms.map AV.imm) [] (len+40) k hlt
  rw[List.append_nil,hmi]at hc1
  have lk:=zrd hno hnr hc1
  refine⟨.normal,⟨K,[(0,.optr b 0),(3,int64 i),(4,.optr h 0),(5,int64 ((k:Int)+1))],M⟩,?_,.inl ⟨rfl,m-1,by omega,k+1,by omega,by simp -implicitDefEqProofs []⟩⟩
  by_cases hkl:k<len
  ·have hkl':(k:Int)<len:=by omega
   rcases hk with⟨rid,c,ob,rfl,ho,hr,hc,hlc,hc2⟩|⟨rfl,_⟩
   ·have hc3:=zdw (ms.map AV.imm) rest len k hkl
    rw[hmi]at hc3
    have lr:=zrd ho hr hc3
    simp -implicitDefEqProofs [lookBL1,l0,l1,l2,-loadAt,hlt,hlt',lk,his,-exView,hkl,hkl',lr,e1]
   ·omega
  ·have hkl':¬(k:Int)<len:=by omega
   simp -implicitDefEqProofs [lookBL1,l0,l1,l2,-loadAt,hlt,hlt',lk,his,-exView,hkl,hkl',hlx,e1]
 ·have:k=len+40:=by omega
  subst this
  refine⟨.exit 2,⟨K,[(0,.optr b 0),(3,int64 i),(4,.optr h 0),(5,int64 (len+40:Nat)),(34,avb false)],M⟩,?_,.inr ⟨by simp,rfl,rfl⟩⟩
  simp -implicitDefEqProofs [lookBL1,l1,-loadAt]
theorem zjl{g sz f isn:Nat}(hg:code g=some (lookB sz f isn)){mi:Int→List IV}{R:Int→Prop}(his:∀s n,R n→exView (callW code ext) s isn [.agg ((mi n).map .imm),int64 n]=some (avb true,s))(hms:∀n,(mi n).length=sz)
  {M:Mem} {b:Nat} {vx:AV} {E:List KE} (hB:∃B,M[b]?=some (.rich B)∧B[f]?=some vx) (hh:HeldAt M vx (entC E) E.length) (hE:E.length≤1000000000) (hEn:∀e∈E,R e.n)
  (hx:∀e∈E,e.len≤1000000000∧(∃rest,KX M sz e.x e.len (copies e.len ((mi e.n).map .imm)++rest))∧∃nid ob,e.lg=.osl nid 0 sz (e.len+40) none∧M[nid]?=some ob∧RowO (copies (e.len+40) ((mi e.n).map .imm)) ob):
  ∃G,callW code ext g [.optr b 0] M=some (avb true,M++G):=by
 obtain⟨B,hB,hBf⟩:=hB
 have hbl:b<M.length:=(List.getElem?_eq_some_iff.1 hB).1
 have hloop:∃e s',den code ext (.loop [1000000,0,3] (lookBL2 sz f isn)) ⟨M.length,[(0,.optr b 0),(3,int64 0)],M⟩=some (e,s')∧e≠ .normal∧
   (e=.exit 0∧∃G,s'=⟨M.length,[(0,.optr b 0),(3,int64 E.length),(12,avb false)],M++G⟩):=by
  refine zjp (fun m s=>∃(i:Nat) (Mi:Mem),i+m=E.length∧(∃G,Mi=M++G)∧s.tidy [1000000,0,3]=⟨M.length,[(1000000,.junk),(0,.optr b 0),(3,int64 (i:Nat))],Mi⟩) _ ?_ E.length _ ⟨0,M,by simp,⟨[],by simp⟩,by simp -implicitDefEqProofs []⟩
  rintro m s ⟨i,Mi,hi,hG,hst⟩
  rw[hst]
  have hold:∀id,id<M.length→Mi[id]?=M[id]?:=fun id h=>by
   obtain⟨G,rfl⟩:=hG
   exact List.getElem?_append_left h
  have hMl:M.length≤Mi.length:=by obtain⟨G,rfl⟩:=hG;simp
  have lb:loadAt Mi none (.optr b f)=some vx:=by simp only[loadAt,hold b hbl,hB];exact hBf
  have hlx:=zho hh
  by_cases hlt:i<E.length
  ·have hlt':(i:Int)<E.length:=by omega
   have e1:IntKind.wrap .i64 ((i:Int)+1)=(i:Int)+1:=wrapI64 (by omega) (by omega)
   have hgi:=List.getElem?_eq_getElem hlt
   have hmke:=fun s=>his s _ (hEn _ (List.getElem_mem hlt))
   have hcut:=zey E i _ hgi
   obtain⟨hle,⟨rest,hxi⟩,nid,nob,hlg,hno,hnr⟩:=hx _ (List.getElem_mem hlt)
   generalize E[i]=e at hmke hxi hle hcut hlg hno hnr
   obtain⟨x,lg,n,len,cells⟩:=e
   dsimp only at hmke
   simp only[KE.c3]at hcut hxi hle hlg hno hnr
   subst hlg
   rcases hh with⟨_,_,h0⟩|⟨vid,vo,rfl,hvo,hvr,hvc,_⟩
   ·omega
   have hvl:vid<M.length:=(List.getElem?_eq_some_iff.1 hvo).1
   have lv:=zrd (by rw[hold vid hvl];exact hvo) hvr hcut
   have hst3:storeAt (Mi++[.rich [nilS,nilS,int64 0]]) (.optr Mi.length 0) [x,.osl nid 0 sz (len+40) none,int64 n]=some (Mi++[.rich [x,.osl nid 0 sz (len+40) none,int64 n]]):=by
    simp[storeAt,setAll]
   have hH:(Mi++[.rich [x,.osl nid 0 sz (len+40) none,int64 n]])[Mi.length]?=some (.rich [x,.osl nid 0 sz (len+40) none,int64 n]):=zg7 _ _
   have l0:loadAt (Mi++[.rich [x,.osl nid 0 sz (len+40) none,int64 n]]) none (.optr Mi.length 0)=some x:=by simp only[loadAt,hH];rfl
   have l1:loadAt (Mi++[.rich [x,.osl nid 0 sz (len+40) none,int64 n]]) none (.optr Mi.length 1)=some (.osl nid 0 sz (len+40) none):=by simp only[loadAt,hH];rfl
   have hold2:∀id,id<M.length→(Mi++[.rich [x,.osl nid 0 sz (len+40) none,int64 n]])[id]?=M[id]?:=fun id h=>by rw[List.getElem?_append_left (by omega)];exact hold id h
   have hlen:=kx_len hxi
   have e40:IntKind.wrap .i64 ((len:Int)+40)=(len:Int)+40:=wrapI64 (by omega) (by omega)
   obtain⟨e,s',h1,_,rfl,rfl⟩:=zjk (K:=M.length) (b:=b) (i:=(i:Int)) (f:=f) hmke (hms n) hH (zis hxi fun id hid=>hold2 id (kx_lt hxi id hid)) (by rw[hold2 nid (List.getElem?_eq_some_iff.1 hno).1];exact hno) hnr hle
    (s:=⟨M.length,[(0,.optr b 0),(3,int64 (i:Nat)),(4,.optr Mi.length 0),(5,int64 0)],Mi++[.rich [x,.osl nid 0 sz (len+40) none,int64 n]]⟩) (by simp -implicitDefEqProofs [])
   refine⟨.normal,⟨M.length,[(0,.optr b 0),(3,int64 ((i:Int)+1))],Mi++[.rich [x,.osl nid 0 sz (len+40) none,int64 n]]⟩,?_,.inl ⟨rfl,m-1,by omega,i+1,Mi++[.rich [x,.osl nid 0 sz (len+40) none,int64 n]],by omega,?_,by simp -implicitDefEqProofs []⟩⟩
   ·simp -implicitDefEqProofs [lookBL2,lb,-loadAt,hlt,hlt',lv,hst3,-storeAt,l0,l1,hlen,h1,e1,e40]
   ·obtain⟨G,rfl⟩:=hG
    exact⟨G++[_],by rw[List.append_assoc]⟩
  ·have:i=E.length:=by omega
   subst this
   obtain⟨G,rfl⟩:=hG
   refine⟨.exit 0,⟨M.length,[(0,.optr b 0),(3,int64 E.length),(12,avb false)],M++G⟩,?_,.inr ⟨by simp,rfl,G,rfl⟩⟩
   simp -implicitDefEqProofs [lookBL2,lb,-loadAt,hlx]
 obtain⟨e,s',h1,_,rfl,G,rfl⟩:=hloop
 refine⟨G,?_⟩
 rw[zb5 code ext hg]
 simp -implicitDefEqProofs [lookB,h1]
end
end Go.EX


namespace Go.EX
structure BookFns (code:Nat→Option XFun):Prop where
 c1:code 1=some x1W
 c9:code 9=some x9W
 c10:code 10=some x10W
 c12:code 12=some x12W
 c14:code 14=some x14W
 c62:code 62=some x62W
 c64:code 64=some x64W
 c25:code 25=some x25W
 c29:code 29=some x29W
 c33:code 33=some x33W
 c34:code 34=some x34W
 c28:code 28=some x28W
 c24:code 24=some x24W
 c18:code 18=some x18W
 c17:code 17=some x17W
 c23:code 23=some x23W
 c22:code 22=some x22W
 c21:code 21=some x21W
 c32:code 32=some x32W
 c35:code 35=some x35W
 c30:code 30=some x30W
 c26:code 26=some x26W
 c20:code 20=some x20W
 c19:code 19=some x19W
 c27:code 27=some x27W
 c16:code 16=some x16W
 c31:code 31=some x31W
 c45:code 45=some x45W
 c49:code 49=some x49W
 c53:code 53=some x53W
 c54:code 54=some x54W
 c48:code 48=some x48W
 c44:code 44=some x44W
 c38:code 38=some x38W
 c37:code 37=some x37W
 c43:code 43=some x43W
 c42:code 42=some x42W
 c41:code 41=some x41W
 c52:code 52=some x52W
 c55:code 55=some x55W
 c50:code 50=some x50W
 c46:code 46=some x46W
 c40:code 40=some x40W
 c39:code 39=some x39W
 c47:code 47=some x47W
 c36:code 36=some x36W
 c51:code 51=some x51W
 c75:code 75=some x75W
 c79:code 79=some x79W
 c83:code 83=some x83W
 c84:code 84=some x84W
 c78:code 78=some x78W
 c74:code 74=some x74W
 c68:code 68=some x68W
 c67:code 67=some x67W
 c73:code 73=some x73W
 c72:code 72=some x72W
 c71:code 71=some x71W
 c82:code 82=some x82W
 c85:code 85=some x85W
 c80:code 80=some x80W
 c76:code 76=some x76W
 c70:code 70=some x70W
 c69:code 69=some x69W
 c77:code 77=some x77W
 c66:code 66=some x66W
 c81:code 81=some x81W
section
variable {code:Nat→Option XFun} {ext:Calls'}
set_option maxHeartbeats 4000000 in
set_option maxRecDepth 100000 in
theorem zax (c:BookFns code) {b:Nat} {B:List AV} (hn:∀j,1≤j→j<21→j≠4→j≠5→B[j]?=some nilS) {M M1 M2 M3 M4 M5 M6:Mem} (hbM:M[b]?=some (.rich B)) (hbM1:M1[b]?=some (.rich B)) (hbM2:M2[b]?=some (.rich B)) (hbM3:M3[b]?=some (.rich B)) (hbM4:M4[b]?=some (.rich B)) (hbM5:M5[b]?=some (.rich B)) (hbM6:M6[b]?=some (.rich B))
  (c34:callW code ext 34 [.optr b 0] M=some (.tup [],M1)) (c28:callW code ext 28 [.optr b 0] M1=some (.tup [],M2)) (c54:callW code ext 54 [.optr b 0] M2=some (.tup [],M3)) (c48:callW code ext 48 [.optr b 0] M3=some (.tup [],M4))
  (c84:callW code ext 84 [.optr b 0] M4=some (avb true,M5)) (c78:callW code ext 78 [.optr b 0] M5=some (avb true,M6)):callW code ext 1 [.optr b 0] M=some (avb true,M6):=by
 have c25:=zk8 (ext:=ext) c.c25 hbM (hn 1 (by decide) (by decide) (by decide) (by decide))
 have c29:=zlb (ext:=ext) c.c29 hbM (hn 2 (by decide) (by decide) (by decide) (by decide))
 have c33:=zlf (ext:=ext) c.c33 hbM (hn 3 (by decide) (by decide) (by decide) (by decide))
 have c24:=zk7 (ext:=ext) c.c24 hbM2 (hn 6 (by decide) (by decide) (by decide) (by decide))
 have c18:=zk1 (ext:=ext) c.c18 hbM2 (hn 7 (by decide) (by decide) (by decide) (by decide))
 have c17:=zk0 (ext:=ext) c.c17 hbM2 (hn 8 (by decide) (by decide) (by decide) (by decide))
 have c23:=zk6 (ext:=ext) c.c23 hbM2 (hn 9 (by decide) (by decide) (by decide) (by decide))
 have c22:=zk5 (ext:=ext) c.c22 hbM2 (hn 10 (by decide) (by decide) (by decide) (by decide))
 have c21:=zk4 (ext:=ext) c.c21 hbM2 (hn 11 (by decide) (by decide) (by decide) (by decide))
 have c32:=zle (ext:=ext) c.c32 hbM2 (hn 12 (by decide) (by decide) (by decide) (by decide))
 have c35:=zlg (ext:=ext) c.c35 hbM2 (hn 13 (by decide) (by decide) (by decide) (by decide))
 have c30:=zlc (ext:=ext) c.c30 hbM2 (hn 14 (by decide) (by decide) (by decide) (by decide))
 have c26:=zk9 (ext:=ext) c.c26 hbM2 (hn 15 (by decide) (by decide) (by decide) (by decide))
 have c20:=zk3 (ext:=ext) c.c20 hbM2 (hn 16 (by decide) (by decide) (by decide) (by decide))
 have c19:=zk2 (ext:=ext) c.c19 hbM2 (hn 17 (by decide) (by decide) (by decide) (by decide))
 have c27:=zla (ext:=ext) c.c27 hbM2 (hn 18 (by decide) (by decide) (by decide) (by decide))
 have c16:=zkz (ext:=ext) c.c16 hbM2 (hn 19 (by decide) (by decide) (by decide) (by decide))
 have c31:=zld (ext:=ext) c.c31 hbM2 (hn 20 (by decide) (by decide) (by decide) (by decide))
 have c45:=zlq (ext:=ext) c.c45 hbM2 (hn 1 (by decide) (by decide) (by decide) (by decide))
 have c49:=zlt (ext:=ext) c.c49 hbM2 (hn 2 (by decide) (by decide) (by decide) (by decide))
 have c53:=zlx (ext:=ext) c.c53 hbM2 (hn 3 (by decide) (by decide) (by decide) (by decide))
 have c44:=zlp (ext:=ext) c.c44 hbM4 (hn 6 (by decide) (by decide) (by decide) (by decide))
 have c38:=zlj (ext:=ext) c.c38 hbM4 (hn 7 (by decide) (by decide) (by decide) (by decide))
 have c37:=zli (ext:=ext) c.c37 hbM4 (hn 8 (by decide) (by decide) (by decide) (by decide))
 have c43:=zlo (ext:=ext) c.c43 hbM4 (hn 9 (by decide) (by decide) (by decide) (by decide))
 have c42:=zln (ext:=ext) c.c42 hbM4 (hn 10 (by decide) (by decide) (by decide) (by decide))
 have c41:=zlm (ext:=ext) c.c41 hbM4 (hn 11 (by decide) (by decide) (by decide) (by decide))
 have c52:=zlw (ext:=ext) c.c52 hbM4 (hn 12 (by decide) (by decide) (by decide) (by decide))
 have c55:=zly (ext:=ext) c.c55 hbM4 (hn 13 (by decide) (by decide) (by decide) (by decide))
 have c50:=zlu (ext:=ext) c.c50 hbM4 (hn 14 (by decide) (by decide) (by decide) (by decide))
 have c46:=zlr (ext:=ext) c.c46 hbM4 (hn 15 (by decide) (by decide) (by decide) (by decide))
 have c40:=zll (ext:=ext) c.c40 hbM4 (hn 16 (by decide) (by decide) (by decide) (by decide))
 have c39:=zlk (ext:=ext) c.c39 hbM4 (hn 17 (by decide) (by decide) (by decide) (by decide))
 have c47:=zls (ext:=ext) c.c47 hbM4 (hn 18 (by decide) (by decide) (by decide) (by decide))
 have c36:=zlh (ext:=ext) c.c36 hbM4 (hn 19 (by decide) (by decide) (by decide) (by decide))
 have c51:=zlv (ext:=ext) c.c51 hbM4 (hn 20 (by decide) (by decide) (by decide) (by decide))
 have c75:=zl8 (ext:=ext) c.c75 hbM4 (hn 1 (by decide) (by decide) (by decide) (by decide))
 have c79:=zmb (ext:=ext) c.c79 hbM4 (hn 2 (by decide) (by decide) (by decide) (by decide))
 have c83:=zmf (ext:=ext) c.c83 hbM4 (hn 3 (by decide) (by decide) (by decide) (by decide))
 have c74:=zl7 (ext:=ext) c.c74 hbM6 (hn 6 (by decide) (by decide) (by decide) (by decide))
 have c68:=zl1 (ext:=ext) c.c68 hbM6 (hn 7 (by decide) (by decide) (by decide) (by decide))
 have c67:=zl0 (ext:=ext) c.c67 hbM6 (hn 8 (by decide) (by decide) (by decide) (by decide))
 have c73:=zl6 (ext:=ext) c.c73 hbM6 (hn 9 (by decide) (by decide) (by decide) (by decide))
 have c72:=zl5 (ext:=ext) c.c72 hbM6 (hn 10 (by decide) (by decide) (by decide) (by decide))
 have c71:=zl4 (ext:=ext) c.c71 hbM6 (hn 11 (by decide) (by decide) (by decide) (by decide))
 have c82:=zme (ext:=ext) c.c82 hbM6 (hn 12 (by decide) (by decide) (by decide) (by decide))
 have c85:=zmg (ext:=ext) c.c85 hbM6 (hn 13 (by decide) (by decide) (by decide) (by decide))
 have c80:=zmc (ext:=ext) c.c80 hbM6 (hn 14 (by decide) (by decide) (by decide) (by decide))
 have c76:=zl9 (ext:=ext) c.c76 hbM6 (hn 15 (by decide) (by decide) (by decide) (by decide))
 have c70:=zl3 (ext:=ext) c.c70 hbM6 (hn 16 (by decide) (by decide) (by decide) (by decide))
 have c69:=zl2 (ext:=ext) c.c69 hbM6 (hn 17 (by decide) (by decide) (by decide) (by decide))
 have c77:=zma (ext:=ext) c.c77 hbM6 (hn 18 (by decide) (by decide) (by decide) (by decide))
 have c66:=zlz (ext:=ext) c.c66 hbM6 (hn 19 (by decide) (by decide) (by decide) (by decide))
 have c81:=zmd (ext:=ext) c.c81 hbM6 (hn 20 (by decide) (by decide) (by decide) (by decide))
 have hmb:(AObj.rich B).moved=false:=rfl
 rw[zb5 code ext c.c1]
 simp -implicitDefEqProofs [x1W,hmb,-AObj.moved,hbM,hbM1,hbM2,hbM3,hbM4,hbM5,hbM6,c25,c29,c33,c34,c28,c24,c18,c17,c23,c22,c21,c32,c35,c30,c26,c20,c19,c27,c16,c31,c45,c49,c53,c54,c48,c44,c38,c37,c43,c42,c41,c52,c55,c50,c46,c40,c39,c47,c36,c51,c75,c79,c83,c84,c78,c74,c68,c67,c73,c72,c71,c82,c85,c80,c76,c70,c69,c77,c66,c81]
end
end Go.EX


namespace Go.EX
structure KL where
 x:AV
 len:Nat
 cells:List AV
def entE:Int→List KL→List KE
 |_,[]=>[]
 |n,p::r=>⟨p.x,nilS,n+1,p.len,p.cells⟩::entE (n+1) r
def refsL(P:List KL):List Nat:=P.flatMap fun p=>p.x.refs
theorem entE_c:∀(P:List KL) (n:Int),entC (entE n P)=heldC n (P.map (·.x))
 |[],n=>rfl
 |p::r,n=>by
  have h:=entE_c r (n+1)
  have hr:entC (entE n (p::r))=[p.x,nilS,int64 (n+1)]++entC (entE (n+1) r):=rfl
  rw[hr,h];rfl
theorem ze1:∀(P:List KL) (n:Int),(entE n P).length=P.length
 |[],n=>rfl
 |p::r,n=>by simp[entE,ze1 r]
theorem ze3:∀(P:List KL) (n:Int),refsE (entE n P)=refsL P
 |[],n=>rfl
 |p::r,n=>by
  have h:=ze3 r (n+1)
  have hr:refsE (entE n (p::r))=p.x.refs++refsE (entE (n+1) r):=rfl
  rw[hr,h];rfl
theorem ze2:∀(P:List KL) (n:Int) (e:KE),e∈entE n P→(∃p∈P,e.x=p.x∧e.len=p.len∧e.cells=p.cells)∧n<e.n∧e.n≤n+P.length
 |[],n,e,h=>by simp[entE]at h
 |p::r,n,e,h=>by
  rcases List.mem_cons.1 h with rfl|h
  ·exact⟨⟨p,List.mem_cons_self ..,rfl,rfl,rfl⟩,by dsimp only;omega,by simp;omega⟩
  ·obtain⟨⟨q,hq,h1⟩,h2,h3⟩:=ze2 r (n+1) e h
   exact⟨⟨q,List.mem_cons_of_mem _ hq,h1⟩,by omega,by simp;omega⟩
theorem zex(A B:List KE):entC (A++B)=entC A++entC B:=by simp[entC]
theorem zp1(A B:List KE):refsE (A++B)=refsE A++refsE B:=by simp[refsE]
def MarksK(code:Nat→Option XFun)(ext:Calls')(sz mk isn:Nat)(mi:Int→List IV):Prop:=
 (∀n,(mi n).length=sz)∧(∀s n,(0≤n∧n≤1000000000)→exView (callW code ext) s mk [int64 n]=some (.agg ((mi n).map .imm),s))∧
 (∀s n,(0≤n∧n≤1000000000)→exView (callW code ext) s isn [.agg ((mi n).map .imm),int64 n]=some (avb true,s))
section
variable {code:Nat→Option XFun} {ext:Calls'}
theorem zp6{E:List KE}{e:KE}(he:e∈E){id:Nat}(h:id∈e.x.refs):id∈refsE E:=List.mem_flatMap.2 ⟨e,he,h⟩
theorem zav(c:BookFns code){miV miO:Int→List IV}(mV:MarksK code ext 2 420 400 miV)(mO:MarksK code ext 5 414 394 miO){M:Mem}{b:Nat}{n:Int}{vx ox:AV}{EV EO:List KE}(k:Bk M b n vx (entC EV) EV.length ox (entC EO) EO.length)
  (hV:EV.length≤1000000000) (hO:EO.length≤1000000000) (nV:∀e∈EV,0≤e.n∧e.n≤1000000000) (nO:∀e∈EO,0≤e.n∧e.n≤1000000000)
  (xV:∀e∈EV,KX M 2 e.x e.len e.cells∧e.len≤1000000000) (xO:∀e∈EO,KX M 5 e.x e.len e.cells∧e.len≤1000000000)
  (dV:(refsE EV).Nodup) (dO:(refsE EO).Nodup) (dd:∀id∈refsE EV,id ∉ refsE EO) (fV:∀id∈refsE EV,id≠b∧id ∉ vx.refs∧id ∉ ox.refs) (fO:∀id∈refsE EO,id≠b∧id ∉ vx.refs∧id ∉ ox.refs):
  ∃M',callW code ext 1 [.optr b 0] M=some (avb true,M')∧M.length≤M'.length:=by
 obtain⟨mV1,mV2,mV3⟩:=mV
 obtain⟨mO1,mO2,mO3⟩:=mO
 obtain⟨B,hB,hBl,hB0,hB4,hB5,hBn⟩:=k.B
 have hbl:b<M.length:=(List.getElem?_eq_some_iff.1 hB).1
 have ltV:∀id∈refsE EV,id<M.length:=fun id hid=>by
  obtain⟨e,he,hid⟩:=List.mem_flatMap.1 hid
  exact kx_lt (xV e he).1 id hid
 have ltO:∀id∈refsE EO,id<M.length:=fun id hid=>by
  obtain⟨e,he,hid⟩:=List.mem_flatMap.1 hid
  exact kx_lt (xO e he).1 id hid
 obtain⟨M1,c34,l1,s1,x1⟩:=zf9 (ext:=ext) (c.c34.trans (congrArg some zwl)) (R:=fun n=>0≤n∧n≤1000000000) mV2 mV1 (f:=4) (vx:=vx) (E:=EV) ⟨⟨B,hB,hB4⟩,k.v,fun id h=>⟨(fV id h).1,(fV id h).2.1⟩,dV⟩ hbl hV nV xV (fun id h=>(k.vr id h).1)
 have hB1:M1[b]?=some (.rich B):=by rw[s1 b hbl fun h=>(fV b h).1 rfl];exact hB
 have ox1:∀id∈ox.refs,M1[id]?=M[id]?:=fun id h=>s1 id (k.or id h).1 fun hm=>(fV id hm).2.2 h
 have vx1:∀id∈vx.refs,M1[id]?=M[id]?:=fun id h=>s1 id (k.vr id h).1 fun hm=>(fV id hm).2.1 h
 have xO1:∀e∈EO,KX M1 5 e.x e.len e.cells∧e.len≤1000000000:=fun e he=>⟨zis (xO e he).1 fun id h=>s1 id (kx_lt (xO e he).1 id h) fun hm=>dd id hm (zp6 he h),(xO e he).2⟩
 obtain⟨M2,c28,l2,s2,x2⟩:=zf9 (ext:=ext) (c.c28.trans (congrArg some zwk)) (R:=fun n=>0≤n∧n≤1000000000) mO2 mO1 (f:=5) (vx:=ox) (E:=EO) ⟨⟨B,hB1,hB5⟩,zhp k.o ox1,fun id h=>⟨(fO id h).1,(fO id h).2.2⟩,dO⟩ (by omega) hO nO xO1 (fun id h=>by have:=(k.or id h).1;omega)
 have hB2:M2[b]?=some (.rich B):=by rw[s2 b (by omega) fun h=>(fO b h).1 rfl];exact hB1
 have vx2:∀id∈vx.refs,M2[id]?=M[id]?:=fun id h=>by rw[s2 id (by have:=(k.vr id h).1;omega) fun hm=>(fO id hm).2.1 h];exact vx1 id h
 have ox2:∀id∈ox.refs,M2[id]?=M[id]?:=fun id h=>by rw[s2 id (by have:=(k.or id h).1;omega) fun hm=>(fO id hm).2.2 h];exact ox1 id h
 have xV2:∀e∈EV,(∃rest,KX M2 2 e.x e.len (copies e.len ((miV e.n).map .imm)++rest))∧e.len≤1000000000:=fun e he=>⟨⟨_,zis (x1 e he) fun id h=>s2 id (by have:=ltV id (zp6 he h);omega) fun hm=>dd id (zp6 he h) hm⟩,(xV e he).2⟩
 obtain⟨M3,EV3,c54,l3,s3,h3,e3,g3⟩:=zhc (ext:=ext) (c.c54.trans (congrArg some zwn)) (by decide) rfl (R:=fun n=>0≤n∧n≤1000000000) mV2 mV1 (f:=4) (vx:=vx) (E:=EV) ⟨⟨B,hB2,hB4⟩,zhp k.v vx2,fun id h=>⟨(fV id h).1,(fV id h).2.1⟩,dV⟩ (by omega) hV nV xV2 (fun id h=>⟨by have:=(k.vr id h).1;omega,(k.vr id h).2⟩)
 have hB3:M3[b]?=some (.rich B):=by rw[s3 b (by omega) (fun h=>(fV b h).1 rfl) fun h=>(k.vr b h).2 rfl];exact hB2
 have ox3:∀id∈ox.refs,M3[id]?=M[id]?:=fun id h=>by rw[s3 id (by have:=(k.or id h).1;omega) (fun hm=>(fV id hm).2.2 h) fun hm=>k.vo id hm h];exact ox2 id h
 have xO3:∀e∈EO,(∃rest,KX M3 5 e.x e.len (copies e.len ((miO e.n).map .imm)++rest))∧e.len≤1000000000:=fun e he=>⟨⟨_,zis (x2 e he) fun id h=>s3 id (by have:=ltO id (zp6 he h);omega) (fun hm=>dd id hm (zp6 he h)) fun hm=>(fO id (zp6 he h)).2.1 hm⟩,(xO e he).2⟩
 obtain⟨M4,EO4,c48,l4,s4,h4,e4,g4⟩:=zhc (ext:=ext) (c.c48.trans (congrArg some zwm)) (by decide) rfl (R:=fun n=>0≤n∧n≤1000000000) mO2 mO1 (f:=5) (vx:=ox) (E:=EO) ⟨⟨B,hB3,hB5⟩,zhp k.o ox3,fun id h=>⟨(fO id h).1,(fO id h).2.2⟩,dO⟩ (by omega) hO nO xO3 (fun id h=>⟨by have:=(k.or id h).1;omega,(k.or id h).2⟩)
 have hB4':M4[b]?=some (.rich B):=by rw[s4 b (by omega) (fun h=>(fO b h).1 rfl) fun h=>(k.or b h).2 rfl];exact hB3
 have vx4:∀id∈vx.refs,M4[id]?=M3[id]?:=fun id h=>s4 id (by have:=(k.vr id h).1;omega) (fun hm=>(fO id hm).2.1 h) fun hm=>k.vo id h hm
 have lookV:∀e∈EV3,e.len≤1000000000∧(∃rest,KX M4 2 e.x e.len (copies e.len ((miV e.n).map .imm)++rest))∧∃nid ob,e.lg=.osl nid 0 2 (e.len+40) none∧M4[nid]?=some ob∧RowO (copies (e.len+40) ((miV e.n).map .imm)) ob:=fun e he=>by
  obtain⟨j,hj⟩:=List.getElem?_of_mem he
  have hjl:=(List.getElem?_eq_some_iff.1 hj).1
  have hje:=List.getElem?_eq_getElem (l:=EV) (i:=j) (by omega)
  obtain⟨e',q1,q2⟩:=g3 j _ hje
  have hm:=List.getElem_mem (l:=EV) (n:=j) (by omega)
  generalize EV[j]=u at q2 hm hje
  rw[hj]at q1;cases q1
  obtain⟨p1,p2,p3,⟨rest,p4⟩,nid,ob,p5,p6,p7,p8⟩:=q2
  rw[p1,p2,p3]
  refine⟨(xV u hm).2,⟨rest,zis p4 fun id h=>s4 id (kx_lt p4 id h) (fun hq=>dd id (zp6 hm h) hq) fun hq=>(fV id (zp6 hm h)).2.2 hq⟩,nid,ob,p5,?_,p8⟩
  rw[s4 nid (List.getElem?_eq_some_iff.1 p7).1 (fun hq=>by have:=ltO nid hq;omega) fun hq=>by have:=(k.or nid hq).1;omega]
  exact p7
 have nV3:∀e∈EV3,0≤e.n∧e.n≤1000000000:=fun e he=>by
  obtain⟨j,hj⟩:=List.getElem?_of_mem he
  have hjl:=(List.getElem?_eq_some_iff.1 hj).1
  obtain⟨e',q1,q2⟩:=g3 j _ (List.getElem?_eq_getElem (l:=EV) (i:=j) (by omega))
  rw[hj]at q1;cases q1
  rw[q2.2.1]
  exact nV _ (List.getElem_mem _)
 have nO4:∀e∈EO4,0≤e.n∧e.n≤1000000000:=fun e he=>by
  obtain⟨j,hj⟩:=List.getElem?_of_mem he
  have hjl:=(List.getElem?_eq_some_iff.1 hj).1
  obtain⟨e',q1,q2⟩:=g4 j _ (List.getElem?_eq_getElem (l:=EO) (i:=j) (by omega))
  rw[hj]at q1;cases q1
  rw[q2.2.1]
  exact nO _ (List.getElem_mem _)
 obtain⟨G5,c84⟩:=zjl (ext:=ext) (c.c84.trans (congrArg some zwp)) (R:=fun n=>0≤n∧n≤1000000000) mV3 mV1 (f:=4) (vx:=vx) (E:=EV3) ⟨B,hB4',hB4⟩ (by rw[e3];exact zhp h3 vx4) (by omega) nV3 lookV
 have hold:∀id,id<M4.length→(M4++G5)[id]?=M4[id]?:=fun id h=>List.getElem?_append_left h
 have lookO:∀e∈EO4,e.len≤1000000000∧(∃rest,KX (M4++G5) 5 e.x e.len (copies e.len ((miO e.n).map .imm)++rest))∧∃nid ob,e.lg=.osl nid 0 5 (e.len+40) none∧(M4++G5)[nid]?=some ob∧RowO (copies (e.len+40) ((miO e.n).map .imm)) ob:=fun e he=>by
  obtain⟨j,hj⟩:=List.getElem?_of_mem he
  have hjl:=(List.getElem?_eq_some_iff.1 hj).1
  have hje:=List.getElem?_eq_getElem (l:=EO) (i:=j) (by omega)
  obtain⟨e',q1,q2⟩:=g4 j _ hje
  have hm:=List.getElem_mem (l:=EO) (n:=j) (by omega)
  generalize EO[j]=u at q2 hm hje
  rw[hj]at q1;cases q1
  obtain⟨p1,p2,p3,⟨rest,p4⟩,nid,ob,p5,p6,p7,p8⟩:=q2
  rw[p1,p2,p3]
  exact⟨(xO u hm).2,⟨rest,zis p4 fun id h=>hold id (kx_lt p4 id h)⟩,nid,ob,p5,by rw[hold nid (List.getElem?_eq_some_iff.1 p7).1];exact p7,p8⟩
 have oxl:∀id∈ox.refs,id<M4.length:=fun id h=>by have:=(k.or id h).1;omega
 obtain⟨G6,c78⟩:=zjl (ext:=ext) (c.c78.trans (congrArg some zwo)) (R:=fun n=>0≤n∧n≤1000000000) mO3 mO1 (f:=5) (vx:=ox) (E:=EO4) ⟨B,by rw[hold b (by omega)];exact hB4',hB5⟩ (by rw[e4];exact zhp h4 fun id h=>hold id (oxl id h)) (by omega) nO4 lookO
 refine⟨_,zax c hBn hB hB1 hB2 hB3 hB4' (by rw[hold b (by omega)];exact hB4') (by rw[List.getElem?_append_left (by simp;omega),hold b (by omega)];exact hB4') c34 c28 c54 c48 c84 c78,by simp;omega⟩
end
end Go.EX


namespace Go.EX
def x377:XFun:=
 ⟨[.tmp 2],(.seq (.region [0] [o0 2 (.mv (.c (.slice none 0 0)))]) (.seq (.region [2] [o0 3 (.mv (.t 0)),
 o0 4 (.call .own 373 [.t 3]),
 o0 2 (.mv (.t 4))]) .ret))⟩
def x379L1:XCode:=
 (.seq (.seq (.region [0,3,4,12] [o0 9 (.mv (.t 4)),
 o0 10 (.mv (.t 0)),
 o0 11 (.len (.t 10)),
 o0 12 (.bin .lss (.t 9) (.t 11))]) (.cond (.t 12) .skip (.exit 0))) (.seq (.block 1 (.region [0,3,4] [o0 15 (.mv (.t 3)),
 o0 16 (.mv (.t 0)),
 o0 17 (.mv (.t 4)),
 o0 18 (.idxA 2 (.t 16) (.t 17)),
 o0 19 (.load (some 2) (.t 18)),
 o0 20 (.buildSlice 2 [(.int .u8 0),(.int .i64 0)] 1 [(0,2,(.t 19))]),
 o0 21 (.append 2 16 (.t 15) (.t 20)),
 o0 3 (.mv (.t 21))])) (.region [0,3,4] [o0 13 (.mv (.t 4)),
 o0 14 (.bin .add (.t 13) (.c (.int .i64 1))),
 o0 4 (.mv (.t 14))])))
def x379:XFun:=
 ⟨[.tmp 2],(.seq (.region [0] [o0 2 (.mv (.c (.slice none 0 0)))]) (.seq (.region [0,3] [o0 5 (.mv (.t 0)),
 o0 6 (.len (.t 5)),
 o0 7 (.bin .add (.t 6) (.c (.int .i64 1))),
 o0 8 (.makeSlice 2 16 [(.int .u8 0),(.int .i64 0)] (.c (.int .i64 0)) (.t 7)),
 o0 3 (.mv (.t 8))]) (.seq (.seq (.region [0,3,4] [o0 4 (.mv (.c (.int .i64 0)))]) (.block 0 (.loop [0,3,4] x379L1))) (.seq (.region [2] [o0 22 (.mv (.t 3)),
 o0 23 (.build [(.int .u8 0),(.int .i64 0)] [(1,1,(.c (.int .i64 7777)))]),
 o0 24 (.buildSlice 2 [(.int .u8 0),(.int .i64 0)] 1 [(0,2,(.t 23))]),
 o0 25 (.append 2 16 (.t 22) (.t 24)),
 o0 26 (.mv (.t 0)),
 o0 27 (.len (.t 26)),
 o0 28 (.slice 2 (.t 25) none (some (.t 27))),
 o0 2 (.mv (.t 28))]) .ret))))⟩
def x334:XFun:=
 ⟨[.tmp 4],(.seq (.region [0,1] [o0 4 (.mv (.c (.bool false)))]) (.seq (.region [4] [o0 5 (.mv (.t 0)),
 o0 6 (.mv (.t 1)),
 o0 7 (.call .view 330 [(.t 5),(.t 6)]),
 o0 4 (.mv (.t 7))]) .ret))⟩
def x336L1:XCode:=
 (.seq (.seq (.region [0,1,5,22] [o0 19 (.mv (.t 5)),
 o0 20 (.mv (.t 1)),
 o0 21 (.len (.t 20)),
 o0 22 (.bin .lss (.t 19) (.t 21))]) (.cond (.t 22) .skip (.exit 0))) (.seq (.block 1 (.seq (.region [0,1,5,33] [o0 25 (.mv (.t 0)),
 o0 26 (.mv (.t 5)),
 o0 27 (.idxA 2 (.t 25) (.t 26)),
 o0 28 (.load (some 2) (.t 27)),
 o0 29 (.mv (.t 1)),
 o0 30 (.mv (.t 5)),
 o0 31 (.idxA 2 (.t 29) (.t 30)),
 o0 32 (.load (some 2) (.t 31)),
 o0 33 (.eqCells true [0,0] (.t 28) (.t 32))]) (.cond (.t 33) (.seq (.region [4] [o0 4 (.mv (.c (.bool false)))]) .ret) .skip))) (.region [0,1,5] [o0 23 (.mv (.t 5)),
 o0 24 (.bin .add (.t 23) (.c (.int .i64 1))),
 o0 5 (.mv (.t 24))])))
def x336:XFun:=
 ⟨[.tmp 4],(.seq (.region [0,1] [o0 4 (.mv (.c (.bool false)))]) (.seq (.seq (.region [0,1,18] [o0 7 (.mv (.t 0)),
 o0 8 (.len (.t 7)),
 o0 9 (.mv (.t 1)),
 o0 10 (.len (.t 9)),
 o0 11 (.bin .neq (.t 8) (.t 10)),
 o0 12 (.mv (.t 11)),
 o1 13 12 false (.mv (.t 0)),
 o1 14 12 false (.cap (.t 13)),
 o1 15 12 false (.mv (.t 1)),
 o1 16 12 false (.len (.t 15)),
 o1 17 12 false (.bin .leq (.t 14) (.t 16)),
 o0 18 (.pick (.t 12) (.c (.bool true)) (.t 17))]) (.cond (.t 18) (.seq (.region [4] [o0 4 (.mv (.c (.bool false)))]) .ret) .skip)) (.seq (.seq (.region [0,1,5] [o0 5 (.mv (.c (.int .i64 0)))]) (.block 0 (.loop [0,1,5] x336L1))) (.seq (.region [6] [o0 34 (.mv (.t 0)),
 o0 35 (.mv (.t 1)),
 o0 36 (.len (.t 35)),
 o0 37 (.bin .add (.t 36) (.c (.int .i64 1))),
 o0 38 (.slice 2 (.t 34) none (some (.t 37))),
 o0 39 (.mv (.t 1)),
 o0 40 (.len (.t 39)),
 o0 41 (.idxA 2 (.t 38) (.t 40)),
 o0 42 (.load (some 2) (.t 41)),
 o0 6 (.alloc [(.int .u8 0),(.int .i64 0)]),
 o2 (.store 2 (.t 6) (.t 42))]) (.seq (.region [4] [o0 43 (.fieldA 1 (.t 6)),
 o0 44 (.load none (.t 43)),
 o0 45 (.bin .eql (.t 44) (.c (.int .i64 7777))),
 o0 4 (.mv (.t 45))]) .ret)))))⟩
def x646:XFun:=
 ⟨[.tmp 4],(.seq (.region [2,3] [o0 2 (.box 1 (.t 0)),
 o0 3 (.box 2 (.t 1)),
 o0 4 (.mv (.c (.bool false)))]) (.seq (.region [4] [o0 5 (.load none (.t 2)),
 o0 6 (.load (some 2) (.t 3)),
 o0 7 (.call .share 656 [(.t 5),(.t 6)]),
 o0 8 (.mv (.t 7)),
 o1 9 8 true (.load none (.t 2)),
 o1 10 8 true (.load (some 2) (.t 3)),
 o1 11 8 true (.buildSlice 2 [(.int .u8 0),(.int .i64 0)] 1 [(0,2,(.t 10))]),
 o1 12 8 true (.call .share 654 [(.t 9),(.t 11)]),
 o1 13 8 true (.mkClo 647 [.t 2]),
 o1 14 8 true (.call .share 745 [(.t 12),(.t 13)]),
 o1 15 8 true (.un .not (.t 14)),
 o0 16 (.pick (.t 8) (.t 15) (.c (.bool false))),
 o0 4 (.mv (.t 16))]) .ret))⟩
def x500L1:XCode:=
 (.seq (.seq (.region [0,5,6,18] [o0 15 (.mv (.t 6)),
 o0 16 (.mv (.t 5)),
 o0 17 (.len (.t 16)),
 o0 18 (.bin .lss (.t 15) (.t 17))]) (.cond (.t 18) .skip (.exit 0))) (.seq (.block 1 (.seq (.region [0,5,6,33] [o0 21 (.mv (.t 5)),
 o0 22 (.mv (.t 6)),
 o0 23 (.idxA 1 (.t 21) (.t 22)),
 o0 24 (.load none (.t 23)),
 o0 25 (.mv (.t 24)),
 o1 26 25 true (.mv (.t 0)),
 o1 27 25 true (.mv (.t 0)),
 o1 28 25 true (.mv (.t 6)),
 o1 29 25 true (.idxA 5 (.t 27) (.t 28)),
 o1 30 25 true (.load (some 5) (.t 29)),
 o1 31 25 true (.call .view 508 [(.t 26),(.t 30)]),
 o1 32 25 true (.un .not (.t 31)),
 o0 33 (.pick (.t 25) (.t 32) (.c (.bool false)))]) (.cond (.t 33) (.seq (.region [4] [o0 4 (.mv (.c (.bool false)))]) .ret) .skip))) (.region [0,5,6] [o0 19 (.mv (.t 6)),
 o0 20 (.bin .add (.t 19) (.c (.int .i64 1))),
 o0 6 (.mv (.t 20))])))
def x500:XFun:=
 ⟨[.tmp 4],(.seq (.region [0,3] [o0 3 (.box 2 (.t 1)),
 o0 4 (.mv (.c (.bool false)))]) (.seq (.seq (.region [0,3,10] [o0 7 (.mv (.t 0)),
 o0 8 (.load (some 2) (.t 3)),
 o0 9 (.call .view 510 [(.t 7),(.t 8)]),
 o0 10 (.un .not (.t 9))]) (.cond (.t 10) (.seq (.region [4] [o0 4 (.mv (.c (.bool false)))]) .ret) .skip)) (.seq (.region [0,5] [o0 11 (.mv (.t 0)),
 o0 12 (.load (some 2) (.t 3)),
 o0 13 (.buildSlice 2 [(.int .u8 0),(.int .i64 0)] 1 [(0,2,(.t 12))]),
 o0 14 (.call .own 509 [(.t 11),(.t 13)]),
 o0 5 (.mv (.t 14))]) (.seq (.seq (.region [0,5,6] [o0 6 (.mv (.c (.int .i64 0)))]) (.block 0 (.loop [0,5,6] x500L1))) (.seq (.region [4] [o0 4 (.mv (.c (.bool true)))]) .ret)))))⟩
def x361:XFun:=
 ⟨[.tmp 2],(.seq (.region [0] [o0 2 (.mv (.c (.int .i64 0)))]) (.seq (.region [2] [o0 3 (.mv (.t 0)),
 o0 4 (.call .view 339 [.t 3]),
 o0 2 (.mv (.t 4))]) .ret))⟩
def x373L1:XCode:=
 (.seq (.seq (.region [0,3,4,12] [o0 9 (.mv (.t 4)),
 o0 10 (.mv (.t 0)),
 o0 11 (.len (.t 10)),
 o0 12 (.bin .lss (.t 9) (.t 11))]) (.cond (.t 12) .skip (.exit 0))) (.seq (.block 1 (.region [0,3,4] [o0 15 (.mv (.t 3)),
 o0 16 (.mv (.t 0)),
 o0 17 (.mv (.t 4)),
 o0 18 (.idxA 5 (.t 16) (.t 17)),
 o0 19 (.load (some 5) (.t 18)),
 o0 20 (.call .view 372 [.t 19]),
 o0 21 (.buildSlice 5 [(.int .u8 0),(.string .empty),(.slice none 0 0),(.int .i64 0),(.int .i64 0)] 1 [(0,5,(.t 20))]),
 o0 22 (.append 5 64 (.t 15) (.t 21)),
 o0 3 (.mv (.t 22))])) (.region [0,3,4] [o0 13 (.mv (.t 4)),
 o0 14 (.bin .add (.t 13) (.c (.int .i64 1))),
 o0 4 (.mv (.t 14))])))
def x373:XFun:=
 ⟨[.tmp 2],(.seq (.region [0] [o0 2 (.mv (.c (.slice none 0 0)))]) (.seq (.region [0,3] [o0 5 (.mv (.t 0)),
 o0 6 (.len (.t 5)),
 o0 7 (.bin .add (.t 6) (.c (.int .i64 1))),
 o0 8 (.makeSlice 5 64 [(.int .u8 0),(.string .empty),(.slice none 0 0),(.int .i64 0),(.int .i64 0)] (.c (.int .i64 0)) (.t 7)),
 o0 3 (.mv (.t 8))]) (.seq (.seq (.region [0,3,4] [o0 4 (.mv (.c (.int .i64 0)))]) (.block 0 (.loop [0,3,4] x373L1))) (.seq (.region [2] [o0 23 (.mv (.t 3)),
 o0 24 (.build [(.int .u8 0),(.string .empty),(.slice none 0 0),(.int .i64 0),(.int .i64 0)] [(1,1,(.c (.string ⟨#[115,112,97,114,101]⟩)))]),
 o0 25 (.buildSlice 5 [(.int .u8 0),(.string .empty),(.slice none 0 0),(.int .i64 0),(.int .i64 0)] 1 [(0,5,(.t 24))]),
 o0 26 (.append 5 64 (.t 23) (.t 25)),
 o0 27 (.mv (.t 0)),
 o0 28 (.len (.t 27)),
 o0 29 (.slice 5 (.t 26) none (some (.t 28))),
 o0 2 (.mv (.t 29))]) .ret))))⟩
def x654L1:XCode:=
 (.seq (.seq (.region [4,6,7,16] [o0 13 (.mv (.t 7)),
 o0 14 (.load none (.t 4)),
 o0 15 (.len (.t 14)),
 o0 16 (.bin .lss (.t 13) (.t 15))]) (.cond (.t 16) .skip (.exit 0))) (.seq (.block 1 (.region [4,6,7] [o0 19 (.mv (.t 6)),
 o0 20 (.load none (.t 4)),
 o0 21 (.mv (.t 7)),
 o0 22 (.idxA 1 (.t 20) (.t 21)),
 o0 23 (.load none (.t 22)),
 o0 24 (.nilCheck (.t 23)),
 o0 25 (.fieldA 2 (.t 24)),
 o0 26 (.load none (.t 25)),
 o0 27 (.callV (.t 19) [.t 26])])) (.region [4,6,7] [o0 17 (.mv (.t 7)),
 o0 18 (.bin .add (.t 17) (.c (.int .i64 1))),
 o0 7 (.mv (.t 18))])))
def x654:XFun:=
 ⟨[.cell 4 none],(.seq (.region [1,2,4] [o0 2 (.box 1 (.t 0)),
 o0 4 (.alloc [(.slice none 0 0)])]) (.seq (.region [1,2,4,5] [o0 8 (.makeMap none),
 o0 5 (.alloc [(.map none)]),
 o2 (.store 1 (.t 5) (.t 8))]) (.seq (.region [1,4,6] [o0 9 (.mkClo 655 [(.t 2),(.t 5),(.t 4)]),
 o0 6 (.mv (.t 9))]) (.seq (.region [4,6] [o0 10 (.mv (.t 6)),
 o0 11 (.mv (.t 1)),
 o0 12 (.callV (.t 10) [.t 11])]) (.seq (.seq (.region [4,6,7] [o0 7 (.mv (.c (.int .i64 0)))]) (.block 0 (.loop [4,6,7] x654L1))) (.seq (.region [4] [o0 28 (.load none (.t 4)),
 o2 (.store 1 (.t 4) (.t 28))]) .ret))))))⟩
def x509L1:XCode:=
 (.seq (.seq (.region [0,5,6,16] [o0 14 (.mv (.t 6)),
 o0 15 (.len (.t 14)),
 o0 16 (.bin .gtr (.t 15) (.c (.int .i64 0)))]) (.cond (.t 16) .skip (.exit 0))) (.block 1 (.seq (.region [0,5,6,7] [o0 17 (.mv (.t 0)),
 o0 18 (.mv (.t 6)),
 o0 19 (.mv (.t 6)),
 o0 20 (.len (.t 19)),
 o0 21 (.bin .sub (.t 20) (.c (.int .i64 1))),
 o0 22 (.idxA 2 (.t 18) (.t 21)),
 o0 23 (.load (some 2) (.t 22)),
 o0 24 (.call .view 502 [(.t 17),(.t 23)]),
 o0 7 (.mv (.t 24))]) (.seq (.region [0,5,6,7] [o0 25 (.mv (.t 6)),
 o0 26 (.mv (.t 6)),
 o0 27 (.len (.t 26)),
 o0 28 (.bin .sub (.t 27) (.c (.int .i64 1))),
 o0 29 (.slice 2 (.t 25) none (some (.t 28))),
 o0 6 (.mv (.t 29))]) (.seq (.region [0,5,6,7,38] [o0 30 (.mv (.t 7)),
 o0 31 (.bin .geq (.t 30) (.c (.int .i64 0))),
 o0 32 (.mv (.t 31)),
 o1 33 32 true (.mv (.t 5)),
 o1 34 32 true (.mv (.t 7)),
 o1 35 32 true (.idxA 1 (.t 33) (.t 34)),
 o1 36 32 true (.load none (.t 35)),
 o1 37 32 true (.un .not (.t 36)),
 o0 38 (.pick (.t 32) (.t 37) (.c (.bool false)))]) (.cond (.t 38) (.seq (.region [0,5,6,7] [o0 39 (.mv (.t 5)),
 o0 40 (.mv (.t 7)),
 o0 41 (.idxA 1 (.t 39) (.t 40)),
 o2 (.store 1 (.t 41) (.c (.bool true)))]) (.region [0,5,6] [o0 42 (.mv (.t 6)),
 o0 43 (.mv (.t 0)),
 o0 44 (.mv (.t 7)),
 o0 45 (.idxA 5 (.t 43) (.t 44)),
 o0 46 (.fieldA 2 (.t 45)),
 o0 47 (.load none (.t 46)),
 o0 48 (.append 2 16 (.t 42) (.t 47)),
 o0 6 (.mv (.t 48))])) .skip))))))
def x509:XFun:=
 ⟨[.tmp 4],(.seq (.region [0,1] [o0 4 (.mv (.c (.slice none 0 0)))]) (.seq (.region [0,1,5] [o0 8 (.mv (.t 0)),
 o0 9 (.len (.t 8)),
 o0 10 (.makeSlice 1 1 [(.bool false)] (.t 9) (.t 9)),
 o0 5 (.mv (.t 10))]) (.seq (.region [0,1,5,6] [o0 6 (.mv (.c (.slice none 0 0)))]) (.seq (.region [0,5,6] [o0 11 (.mv (.t 6)),
 o0 12 (.mv (.t 1)),
 o0 13 (.append 2 16 (.t 11) (.t 12)),
 o0 6 (.mv (.t 13))]) (.seq (.block 0 (.loop [0,5,6] x509L1)) (.seq (.region [4] [o0 49 (.mv (.t 5)),
 o0 4 (.mv (.t 49))]) .ret))))))⟩
def x330L1:XCode:=
 (.seq (.seq (.region [0,1,5,22] [o0 19 (.mv (.t 5)),
 o0 20 (.mv (.t 1)),
 o0 21 (.len (.t 20)),
 o0 22 (.bin .lss (.t 19) (.t 21))]) (.cond (.t 22) .skip (.exit 0))) (.seq (.block 1 (.seq (.region [0,1,5,34] [o0 25 (.mv (.t 0)),
 o0 26 (.mv (.t 5)),
 o0 27 (.idxA 5 (.t 25) (.t 26)),
 o0 28 (.load (some 5) (.t 27)),
 o0 29 (.mv (.t 1)),
 o0 30 (.mv (.t 5)),
 o0 31 (.idxA 5 (.t 29) (.t 30)),
 o0 32 (.load (some 5) (.t 31)),
 o0 33 (.call .view 329 [(.t 28),(.t 32)]),
 o0 34 (.un .not (.t 33))]) (.cond (.t 34) (.seq (.region [4] [o0 4 (.mv (.c (.bool false)))]) .ret) .skip))) (.region [0,1,5] [o0 23 (.mv (.t 5)),
 o0 24 (.bin .add (.t 23) (.c (.int .i64 1))),
 o0 5 (.mv (.t 24))])))
def x330:XFun:=
 ⟨[.tmp 4],(.seq (.region [0,1] [o0 4 (.mv (.c (.bool false)))]) (.seq (.seq (.region [0,1,18] [o0 7 (.mv (.t 0)),
 o0 8 (.len (.t 7)),
 o0 9 (.mv (.t 1)),
 o0 10 (.len (.t 9)),
 o0 11 (.bin .neq (.t 8) (.t 10)),
 o0 12 (.mv (.t 11)),
 o1 13 12 false (.mv (.t 0)),
 o1 14 12 false (.cap (.t 13)),
 o1 15 12 false (.mv (.t 1)),
 o1 16 12 false (.len (.t 15)),
 o1 17 12 false (.bin .leq (.t 14) (.t 16)),
 o0 18 (.pick (.t 12) (.c (.bool true)) (.t 17))]) (.cond (.t 18) (.seq (.region [4] [o0 4 (.mv (.c (.bool false)))]) .ret) .skip)) (.seq (.seq (.region [0,1,5] [o0 5 (.mv (.c (.int .i64 0)))]) (.block 0 (.loop [0,1,5] x330L1))) (.seq (.region [6] [o0 35 (.mv (.t 0)),
 o0 36 (.mv (.t 1)),
 o0 37 (.len (.t 36)),
 o0 38 (.bin .add (.t 37) (.c (.int .i64 1))),
 o0 39 (.slice 5 (.t 35) none (some (.t 38))),
 o0 40 (.mv (.t 1)),
 o0 41 (.len (.t 40)),
 o0 42 (.idxA 5 (.t 39) (.t 41)),
 o0 43 (.load (some 5) (.t 42)),
 o0 6 (.alloc [(.int .u8 0),(.string .empty),(.slice none 0 0),(.int .i64 0),(.int .i64 0)]),
 o2 (.store 5 (.t 6) (.t 43))]) (.seq (.region [4] [o0 44 (.fieldA 1 (.t 6)),
 o0 45 (.load none (.t 44)),
 o0 46 (.bin .eql (.t 45) (.c (.string ⟨#[115,112,97,114,101]⟩))),
 o0 4 (.mv (.t 46))]) .ret)))))⟩
def x656:XFun:=
 ⟨[.tmp 4],(.seq (.region [0,3] [o0 3 (.box 2 (.t 1)),
 o0 4 (.mv (.c (.bool false)))]) (.seq (.seq (.region [0,3,6] [o0 5 (.fieldA 0 (.t 3)),
 o0 6 (.load none (.t 5))]) (.block 0 (.seq (.region [0,3,6,7] [o0 8 (.bin .eql (.t 6) (.c (.int .u8 0))),
 o0 7 (.mv (.t 8))]) (.cond (.t 7) (.seq (.region [4] [o0 9 (.fieldA 1 (.t 3)),
 o0 10 (.load none (.t 9)),
 o0 11 (.bin .eql (.t 10) (.c (.int .i64 0))),
 o0 4 (.mv (.t 11))]) .ret) (.seq (.region [0,3,6,12] [o0 13 (.bin .eql (.t 6) (.c (.int .u8 1))),
 o0 12 (.mv (.t 13))]) (.cond (.t 12) (.seq (.region [4] [o0 14 (.fieldA 1 (.t 3)),
 o0 15 (.load none (.t 14)),
 o0 16 (.bin .eql (.t 15) (.c (.int .i64 0))),
 o0 17 (.mv (.t 16)),
 o1 18 17 false (.fieldA 1 (.t 3)),
 o1 19 17 false (.load none (.t 18)),
 o1 20 17 false (.bin .eql (.t 19) (.c (.int .i64 1))),
 o0 21 (.pick (.t 17) (.c (.bool true)) (.t 20)),
 o0 4 (.mv (.t 21))]) .ret) (.seq (.region [0,3,22] [o0 23 (.bin .eql (.t 6) (.c (.int .u8 2))),
 o0 22 (.mv (.t 23))]) (.cond (.t 22) (.seq (.region [4] [o0 4 (.mv (.c (.bool true)))]) .ret) .skip)))))))) (.seq (.region [4] [o0 24 (.mv (.t 0)),
 o0 25 (.load (some 2) (.t 3)),
 o0 26 (.call .share 651 [(.t 24),(.t 25)]),
 o0 27 (.eqNil true 1 (.t 26)),
 o0 4 (.mv (.t 27))]) .ret)))⟩
def x745:XFun:=
 ⟨[.tmp 4],(.seq (.region [0,1] [o0 4 (.mv (.c (.bool false)))]) (.seq (.region [4] [o0 5 (.mv (.t 0)),
 o0 6 (.mv (.t 1)),
 o0 7 (.call .share 755 [(.t 5),(.t 6)]),
 o0 8 (.bin .geq (.t 7) (.c (.int .i64 0))),
 o0 4 (.mv (.t 8))]) .ret))⟩
def x647:XFun:=
 ⟨[.tmp 3],(.seq (.region [0,1] [o0 3 (.mv (.c (.bool false)))]) (.seq (.region [3] [o0 4 (.load none (.t 1)),
 o0 5 (.mv (.t 0)),
 o0 6 (.call .share 652 [(.t 4),(.t 5)]),
 o0 7 (.un .not (.t 6)),
 o0 3 (.mv (.t 7))]) .ret))⟩
def x652:XFun:=
 ⟨[.tmp 4],(.seq (.region [2,3] [o0 2 (.box 1 (.t 0)),
 o0 3 (.box 1 (.t 1)),
 o0 4 (.mv (.c (.bool false)))]) (.seq (.region [2,3,5] [o0 7 (.load none (.t 3)),
 o0 8 (.nilCheck (.t 7)),
 o0 9 (.fieldA 2 (.t 8)),
 o0 10 (.load none (.t 9)),
 o0 11 (.len (.t 10)),
 o0 5 (.mv (.t 11))]) (.seq (.region [2,3,5,6] [o0 12 (.load none (.t 3)),
 o0 13 (.nilCheck (.t 12)),
 o0 14 (.fieldA 1 (.t 13)),
 o0 15 (.load none (.t 14)),
 o0 16 (.bin .eql (.t 15) (.c (.string .empty))),
 o0 17 (.mv (.t 16)),
 o1 18 17 true (.load none (.t 3)),
 o1 19 17 true (.nilCheck (.t 18)),
 o1 20 17 true (.fieldA 4 (.t 19)),
 o1 21 17 true (.load none (.t 20)),
 o1 22 17 true (.bin .eql (.t 21) (.c (.int .i64 0))),
 o0 23 (.pick (.t 17) (.t 22) (.c (.bool false))),
 o0 24 (.mv (.t 23)),
 o1 25 24 true (.load none (.t 3)),
 o1 26 24 true (.nilCheck (.t 25)),
 o1 27 24 true (.fieldA 3 (.t 26)),
 o1 28 24 true (.load none (.t 27)),
 o1 29 24 true (.mv (.t 5)),
 o1 30 24 true (.bin .geq (.t 28) (.t 29)),
 o0 31 (.pick (.t 24) (.t 30) (.c (.bool false))),
 o0 32 (.mv (.t 31)),
 o1 33 32 true (.load none (.t 3)),
 o1 34 32 true (.nilCheck (.t 33)),
 o1 35 32 true (.fieldA 3 (.t 34)),
 o1 36 32 true (.load none (.t 35)),
 o1 37 32 true (.bin .leq (.t 36) (.c (.int .i64 262144))),
 o0 38 (.pick (.t 32) (.t 37) (.c (.bool false))),
 o0 6 (.mv (.t 38))]) (.seq (.seq (.region [2,3,5,6,44] [o0 39 (.load none (.t 3)),
 o0 40 (.nilCheck (.t 39)),
 o0 41 (.fieldA 2 (.t 40)),
 o0 42 (.load none (.t 41)),
 o0 43 (.mkClo 653 [(.t 2),(.t 3)]),
 o0 44 (.call .share 749 [(.t 42),(.t 43)])]) (.cond (.t 44) (.seq (.region [4] [o0 4 (.mv (.c (.bool false)))]) .ret) .skip)) (.seq (.seq (.region [2,3,5,6,48] [o0 45 (.load none (.t 3)),
 o0 46 (.nilCheck (.t 45)),
 o0 47 (.fieldA 0 (.t 46)),
 o0 48 (.load none (.t 47))]) (.block 0 (.seq (.region [2,3,5,6,48,49] [o0 50 (.bin .eql (.t 48) (.c (.int .u8 3))),
 o0 49 (.mv (.t 50))]) (.cond (.t 49) (.seq (.region [4] [o0 51 (.load none (.t 3)),
 o0 52 (.nilCheck (.t 51)),
 o0 53 (.fieldA 1 (.t 52)),
 o0 54 (.load none (.t 53)),
 o0 55 (.lenS (.t 54)),
 o0 56 (.bin .leq (.t 55) (.c (.int .i64 4096))),
 o0 57 (.mv (.t 56)),
 o1 58 57 true (.mv (.t 5)),
 o1 59 57 true (.bin .eql (.t 58) (.c (.int .i64 0))),
 o0 60 (.pick (.t 57) (.t 59) (.c (.bool false))),
 o0 61 (.mv (.t 60)),
 o1 62 61 true (.load none (.t 3)),
 o1 63 61 true (.nilCheck (.t 62)),
 o1 64 61 true (.fieldA 3 (.t 63)),
 o1 65 61 true (.load none (.t 64)),
 o1 66 61 true (.bin .eql (.t 65) (.c (.int .i64 0))),
 o0 67 (.pick (.t 61) (.t 66) (.c (.bool false))),
 o0 68 (.mv (.t 67)),
 o1 69 68 true (.load none (.t 3)),
 o1 70 68 true (.nilCheck (.t 69)),
 o1 71 68 true (.fieldA 4 (.t 70)),
 o1 72 68 true (.load none (.t 71)),
 o1 73 68 true (.bin .eql (.t 72) (.c (.int .i64 0))),
 o0 74 (.pick (.t 68) (.t 73) (.c (.bool false))),
 o0 4 (.mv (.t 74))]) .ret) (.seq (.region [2,3,5,6,48,75] [o0 76 (.bin .eql (.t 48) (.c (.int .u8 4))),
 o0 75 (.mv (.t 76))]) (.cond (.t 75) (.seq (.region [4] [o0 77 (.mv (.t 6)),
 o0 78 (.mv (.t 77)),
 o1 79 78 true (.mv (.t 5)),
 o1 80 78 true (.bin .leq (.t 79) (.c (.int .i64 65536))),
 o0 81 (.pick (.t 78) (.t 80) (.c (.bool false))),
 o0 4 (.mv (.t 81))]) .ret) (.seq (.region [2,3,5,6,48,82] [o0 83 (.bin .eql (.t 48) (.c (.int .u8 5))),
 o0 82 (.mv (.t 83))]) (.cond (.t 82) (.seq (.region [4] [o0 84 (.mv (.t 6)),
 o0 85 (.mv (.t 84)),
 o1 86 85 true (.mv (.t 5)),
 o1 87 85 true (.bin .rem (.t 86) (.c (.int .i64 2))),
 o1 88 85 true (.bin .eql (.t 87) (.c (.int .i64 0))),
 o0 89 (.pick (.t 85) (.t 88) (.c (.bool false))),
 o0 90 (.mv (.t 89)),
 o1 91 90 true (.mv (.t 5)),
 o1 92 90 true (.bin .leq (.t 91) (.c (.int .i64 131072))),
 o0 93 (.pick (.t 90) (.t 92) (.c (.bool false))),
 o0 94 (.mv (.t 93)),
 o1 95 94 true (.load none (.t 2)),
 o1 96 94 true (.load none (.t 3)),
 o1 97 94 true (.nilCheck (.t 96)),
 o1 98 94 true (.fieldA 2 (.t 97)),
 o1 99 94 true (.load none (.t 98)),
 o1 100 94 true (.call .share 650 [(.t 95),(.t 99)]),
 o0 101 (.pick (.t 94) (.t 100) (.c (.bool false))),
 o0 4 (.mv (.t 101))]) .ret) (.seq (.region [3,5,102] [o0 103 (.bin .eql (.t 48) (.c (.int .u8 6))),
 o0 102 (.mv (.t 103))]) (.cond (.t 102) (.seq (.region [4] [o0 104 (.load none (.t 3)),
 o0 105 (.nilCheck (.t 104)),
 o0 106 (.fieldA 1 (.t 105)),
 o0 107 (.load none (.t 106)),
 o0 108 (.bin .eql (.t 107) (.c (.string .empty))),
 o0 109 (.mv (.t 108)),
 o1 110 109 true (.load none (.t 3)),
 o1 111 109 true (.nilCheck (.t 110)),
 o1 112 109 true (.fieldA 3 (.t 111)),
 o1 113 109 true (.load none (.t 112)),
 o1 114 109 true (.bin .eql (.t 113) (.c (.int .i64 0))),
 o0 115 (.pick (.t 109) (.t 114) (.c (.bool false))),
 o0 116 (.mv (.t 115)),
 o1 117 116 true (.load none (.t 3)),
 o1 118 116 true (.nilCheck (.t 117)),
 o1 119 116 true (.fieldA 4 (.t 118)),
 o1 120 116 true (.load none (.t 119)),
 o1 121 116 true (.bin .geq (.t 120) (.c (.int .i64 0))),
 o0 122 (.pick (.t 116) (.t 121) (.c (.bool false))),
 o0 123 (.mv (.t 122)),
 o1 124 123 true (.load none (.t 3)),
 o1 125 123 true (.nilCheck (.t 124)),
 o1 126 123 true (.fieldA 4 (.t 125)),
 o1 127 123 true (.load none (.t 126)),
 o1 128 123 true (.bin .lss (.t 127) (.c (.int .i64 256))),
 o0 129 (.pick (.t 123) (.t 128) (.c (.bool false))),
 o0 4 (.mv (.t 129))]) .ret) .skip)))))))))) (.seq (.region [4] [o0 130 (.load none (.t 3)),
 o0 131 (.nilCheck (.t 130)),
 o0 132 (.fieldA 1 (.t 131)),
 o0 133 (.load none (.t 132)),
 o0 134 (.bin .eql (.t 133) (.c (.string .empty))),
 o0 135 (.mv (.t 134)),
 o1 136 135 true (.load none (.t 3)),
 o1 137 135 true (.nilCheck (.t 136)),
 o1 138 135 true (.fieldA 3 (.t 137)),
 o1 139 135 true (.load none (.t 138)),
 o1 140 135 true (.bin .eql (.t 139) (.c (.int .i64 0))),
 o0 141 (.pick (.t 135) (.t 140) (.c (.bool false))),
 o0 142 (.mv (.t 141)),
 o1 143 142 true (.load none (.t 3)),
 o1 144 142 true (.nilCheck (.t 143)),
 o1 145 142 true (.fieldA 4 (.t 144)),
 o1 146 142 true (.load none (.t 145)),
 o1 147 142 true (.bin .eql (.t 146) (.c (.int .i64 0))),
 o0 148 (.pick (.t 142) (.t 147) (.c (.bool false))),
 o0 149 (.mv (.t 148)),
 o1 150 149 true (.mv (.t 5)),
 o1 151 149 true (.bin .eql (.t 150) (.c (.int .i64 1))),
 o0 152 (.pick (.t 149) (.t 151) (.c (.bool false))),
 o0 4 (.mv (.t 152))]) .ret))))))⟩
def x510:XFun:=
 ⟨[.tmp 4],(.seq (.region [0,3] [o0 3 (.box 2 (.t 1)),
 o0 4 (.mv (.c (.bool false)))]) (.seq (.seq (.region [0,3,6] [o0 5 (.fieldA 0 (.t 3)),
 o0 6 (.load none (.t 5))]) (.block 0 (.seq (.region [0,3,6,7] [o0 8 (.bin .eql (.t 6) (.c (.int .u8 0))),
 o0 7 (.mv (.t 8))]) (.cond (.t 7) (.seq (.region [4] [o0 9 (.fieldA 1 (.t 3)),
 o0 10 (.load none (.t 9)),
 o0 11 (.bin .eql (.t 10) (.c (.int .i64 0))),
 o0 4 (.mv (.t 11))]) .ret) (.seq (.region [0,3,6,12] [o0 13 (.bin .eql (.t 6) (.c (.int .u8 1))),
 o0 12 (.mv (.t 13))]) (.cond (.t 12) (.seq (.region [4] [o0 14 (.fieldA 1 (.t 3)),
 o0 15 (.load none (.t 14)),
 o0 16 (.bin .eql (.t 15) (.c (.int .i64 0))),
 o0 17 (.mv (.t 16)),
 o1 18 17 false (.fieldA 1 (.t 3)),
 o1 19 17 false (.load none (.t 18)),
 o1 20 17 false (.bin .eql (.t 19) (.c (.int .i64 1))),
 o0 21 (.pick (.t 17) (.c (.bool true)) (.t 20)),
 o0 4 (.mv (.t 21))]) .ret) (.seq (.region [0,3,22] [o0 23 (.bin .eql (.t 6) (.c (.int .u8 2))),
 o0 22 (.mv (.t 23))]) (.cond (.t 22) (.seq (.region [4] [o0 4 (.mv (.c (.bool true)))]) .ret) .skip)))))))) (.seq (.region [4] [o0 24 (.mv (.t 0)),
 o0 25 (.load (some 2) (.t 3)),
 o0 26 (.call .view 502 [(.t 24),(.t 25)]),
 o0 27 (.bin .geq (.t 26) (.c (.int .i64 0))),
 o0 4 (.mv (.t 27))]) .ret)))⟩
def x508:XFun:=
 ⟨[.tmp 4],(.seq (.region [0,3] [o0 3 (.box 5 (.t 1)),
 o0 4 (.mv (.c (.bool false)))]) (.seq (.region [0,3,5] [o0 6 (.fieldA 2 (.t 3)),
 o0 7 (.load none (.t 6)),
 o0 8 (.len (.t 7)),
 o0 5 (.mv (.t 8))]) (.seq (.seq (.region [0,3,5,10] [o0 9 (.fieldA 0 (.t 3)),
 o0 10 (.load none (.t 9))]) (.block 0 (.seq (.region [0,3,5,10,11] [o0 12 (.bin .eql (.t 10) (.c (.int .u8 3))),
 o0 11 (.mv (.t 12))]) (.cond (.t 11) (.seq (.region [4] [o0 13 (.fieldA 1 (.t 3)),
 o0 14 (.load none (.t 13)),
 o0 15 (.lenS (.t 14)),
 o0 16 (.bin .leq (.t 15) (.c (.int .i64 4096))),
 o0 17 (.mv (.t 16)),
 o1 18 17 true (.mv (.t 5)),
 o1 19 17 true (.bin .eql (.t 18) (.c (.int .i64 0))),
 o0 20 (.pick (.t 17) (.t 19) (.c (.bool false))),
 o0 21 (.mv (.t 20)),
 o1 22 21 true (.fieldA 3 (.t 3)),
 o1 23 21 true (.load none (.t 22)),
 o1 24 21 true (.bin .eql (.t 23) (.c (.int .i64 0))),
 o0 25 (.pick (.t 21) (.t 24) (.c (.bool false))),
 o0 26 (.mv (.t 25)),
 o1 27 26 true (.fieldA 4 (.t 3)),
 o1 28 26 true (.load none (.t 27)),
 o1 29 26 true (.bin .eql (.t 28) (.c (.int .i64 0))),
 o0 30 (.pick (.t 26) (.t 29) (.c (.bool false))),
 o0 4 (.mv (.t 30))]) .ret) (.seq (.region [0,3,5,10,31] [o0 32 (.bin .eql (.t 10) (.c (.int .u8 4))),
 o0 31 (.mv (.t 32))]) (.cond (.t 31) (.seq (.region [4] [o0 33 (.fieldA 1 (.t 3)),
 o0 34 (.load none (.t 33)),
 o0 35 (.bin .eql (.t 34) (.c (.string .empty))),
 o0 36 (.mv (.t 35)),
 o1 37 36 true (.fieldA 4 (.t 3)),
 o1 38 36 true (.load none (.t 37)),
 o1 39 36 true (.bin .eql (.t 38) (.c (.int .i64 0))),
 o0 40 (.pick (.t 36) (.t 39) (.c (.bool false))),
 o0 41 (.mv (.t 40)),
 o1 42 41 true (.mv (.t 5)),
 o1 43 41 true (.bin .leq (.t 42) (.c (.int .i64 65536))),
 o0 44 (.pick (.t 41) (.t 43) (.c (.bool false))),
 o0 45 (.mv (.t 44)),
 o1 46 45 true (.fieldA 3 (.t 3)),
 o1 47 45 true (.load none (.t 46)),
 o1 48 45 true (.mv (.t 5)),
 o1 49 45 true (.bin .geq (.t 47) (.t 48)),
 o0 50 (.pick (.t 45) (.t 49) (.c (.bool false))),
 o0 51 (.mv (.t 50)),
 o1 52 51 true (.fieldA 3 (.t 3)),
 o1 53 51 true (.load none (.t 52)),
 o1 54 51 true (.bin .leq (.t 53) (.c (.int .i64 262144))),
 o0 55 (.pick (.t 51) (.t 54) (.c (.bool false))),
 o0 56 (.mv (.t 55)),
 o1 57 56 true (.mv (.t 0)),
 o1 58 56 true (.fieldA 2 (.t 3)),
 o1 59 56 true (.load none (.t 58)),
 o1 60 56 true (.call .view 506 [(.t 57),(.t 59),(.c (.bool false))]),
 o0 61 (.pick (.t 56) (.t 60) (.c (.bool false))),
 o0 4 (.mv (.t 61))]) .ret) (.seq (.region [0,3,5,10,62] [o0 63 (.bin .eql (.t 10) (.c (.int .u8 5))),
 o0 62 (.mv (.t 63))]) (.cond (.t 62) (.seq (.region [4] [o0 64 (.fieldA 1 (.t 3)),
 o0 65 (.load none (.t 64)),
 o0 66 (.bin .eql (.t 65) (.c (.string .empty))),
 o0 67 (.mv (.t 66)),
 o1 68 67 true (.fieldA 4 (.t 3)),
 o1 69 67 true (.load none (.t 68)),
 o1 70 67 true (.bin .eql (.t 69) (.c (.int .i64 0))),
 o0 71 (.pick (.t 67) (.t 70) (.c (.bool false))),
 o0 72 (.mv (.t 71)),
 o1 73 72 true (.mv (.t 5)),
 o1 74 72 true (.bin .rem (.t 73) (.c (.int .i64 2))),
 o1 75 72 true (.bin .eql (.t 74) (.c (.int .i64 0))),
 o0 76 (.pick (.t 72) (.t 75) (.c (.bool false))),
 o0 77 (.mv (.t 76)),
 o1 78 77 true (.mv (.t 5)),
 o1 79 77 true (.bin .leq (.t 78) (.c (.int .i64 131072))),
 o0 80 (.pick (.t 77) (.t 79) (.c (.bool false))),
 o0 81 (.mv (.t 80)),
 o1 82 81 true (.fieldA 3 (.t 3)),
 o1 83 81 true (.load none (.t 82)),
 o1 84 81 true (.mv (.t 5)),
 o1 85 81 true (.bin .geq (.t 83) (.t 84)),
 o0 86 (.pick (.t 81) (.t 85) (.c (.bool false))),
 o0 87 (.mv (.t 86)),
 o1 88 87 true (.fieldA 3 (.t 3)),
 o1 89 87 true (.load none (.t 88)),
 o1 90 87 true (.bin .leq (.t 89) (.c (.int .i64 262144))),
 o0 91 (.pick (.t 87) (.t 90) (.c (.bool false))),
 o0 92 (.mv (.t 91)),
 o1 93 92 true (.mv (.t 0)),
 o1 94 92 true (.fieldA 2 (.t 3)),
 o1 95 92 true (.load none (.t 94)),
 o1 96 92 true (.call .view 506 [(.t 93),(.t 95),(.c (.bool false))]),
 o0 97 (.pick (.t 92) (.t 96) (.c (.bool false))),
 o0 98 (.mv (.t 97)),
 o1 99 98 true (.mv (.t 0)),
 o1 100 98 true (.fieldA 2 (.t 3)),
 o1 101 98 true (.load none (.t 100)),
 o1 102 98 true (.call .view 507 [(.t 99),(.t 101)]),
 o0 103 (.pick (.t 98) (.t 102) (.c (.bool false))),
 o0 4 (.mv (.t 103))]) .ret) (.seq (.region [0,3,5,104] [o0 105 (.bin .eql (.t 10) (.c (.int .u8 6))),
 o0 104 (.mv (.t 105))]) (.cond (.t 104) (.seq (.region [4] [o0 106 (.fieldA 1 (.t 3)),
 o0 107 (.load none (.t 106)),
 o0 108 (.bin .eql (.t 107) (.c (.string .empty))),
 o0 109 (.mv (.t 108)),
 o1 110 109 true (.fieldA 3 (.t 3)),
 o1 111 109 true (.load none (.t 110)),
 o1 112 109 true (.bin .eql (.t 111) (.c (.int .i64 0))),
 o0 113 (.pick (.t 109) (.t 112) (.c (.bool false))),
 o0 114 (.mv (.t 113)),
 o1 115 114 true (.fieldA 4 (.t 3)),
 o1 116 114 true (.load none (.t 115)),
 o1 117 114 true (.bin .geq (.t 116) (.c (.int .i64 0))),
 o0 118 (.pick (.t 114) (.t 117) (.c (.bool false))),
 o0 119 (.mv (.t 118)),
 o1 120 119 true (.fieldA 4 (.t 3)),
 o1 121 119 true (.load none (.t 120)),
 o1 122 119 true (.bin .lss (.t 121) (.c (.int .i64 256))),
 o0 123 (.pick (.t 119) (.t 122) (.c (.bool false))),
 o0 124 (.mv (.t 123)),
 o1 125 124 true (.mv (.t 0)),
 o1 126 124 true (.fieldA 2 (.t 3)),
 o1 127 124 true (.load none (.t 126)),
 o1 128 124 true (.call .view 506 [(.t 125),(.t 127),(.c (.bool true))]),
 o0 129 (.pick (.t 124) (.t 128) (.c (.bool false))),
 o0 4 (.mv (.t 129))]) .ret) .skip)))))))))) (.seq (.region [4] [o0 130 (.fieldA 1 (.t 3)),
 o0 131 (.load none (.t 130)),
 o0 132 (.bin .eql (.t 131) (.c (.string .empty))),
 o0 133 (.mv (.t 132)),
 o1 134 133 true (.fieldA 3 (.t 3)),
 o1 135 133 true (.load none (.t 134)),
 o1 136 133 true (.bin .eql (.t 135) (.c (.int .i64 0))),
 o0 137 (.pick (.t 133) (.t 136) (.c (.bool false))),
 o0 138 (.mv (.t 137)),
 o1 139 138 true (.fieldA 4 (.t 3)),
 o1 140 138 true (.load none (.t 139)),
 o1 141 138 true (.bin .eql (.t 140) (.c (.int .i64 0))),
 o0 142 (.pick (.t 138) (.t 141) (.c (.bool false))),
 o0 143 (.mv (.t 142)),
 o1 144 143 true (.mv (.t 5)),
 o1 145 143 true (.bin .eql (.t 144) (.c (.int .i64 1))),
 o0 146 (.pick (.t 143) (.t 145) (.c (.bool false))),
 o0 147 (.mv (.t 146)),
 o1 148 147 true (.mv (.t 0)),
 o1 149 147 true (.fieldA 2 (.t 3)),
 o1 150 147 true (.load none (.t 149)),
 o1 151 147 true (.call .view 506 [(.t 148),(.t 150),(.c (.bool false))]),
 o0 152 (.pick (.t 147) (.t 151) (.c (.bool false))),
 o0 4 (.mv (.t 152))]) .ret))))⟩
def x339L1:XCode:=
 (.seq (.seq (.region [0,3,4,14] [o0 7 (.mv (.t 4)),
 o0 8 (.mv (.t 0)),
 o0 9 (.len (.t 8)),
 o0 10 (.bin .lss (.t 7) (.t 9)),
 o0 11 (.mv (.t 10)),
 o1 12 11 true (.mv (.t 3)),
 o1 13 11 true (.bin .leq (.t 12) (.c (.int .i64 1048576))),
 o0 14 (.pick (.t 11) (.t 13) (.c (.bool false)))]) (.cond (.t 14) .skip (.exit 0))) (.seq (.block 1 (.region [0,3,4] [o0 17 (.mv (.t 3)),
 o0 18 (.mv (.t 0)),
 o0 19 (.mv (.t 4)),
 o0 20 (.idxA 5 (.t 18) (.t 19)),
 o0 21 (.load (some 5) (.t 20)),
 o0 22 (.call .view 338 [.t 21]),
 o0 23 (.bin .add (.t 17) (.t 22)),
 o0 3 (.mv (.t 23))])) (.region [0,3,4] [o0 15 (.mv (.t 4)),
 o0 16 (.bin .add (.t 15) (.c (.int .i64 1))),
 o0 4 (.mv (.t 16))])))
def x339:XFun:=
 ⟨[.tmp 2],(.seq (.region [0] [o0 2 (.mv (.c (.int .i64 0)))]) (.seq (.region [0,3] [o0 5 (.mv (.t 0)),
 o0 6 (.len (.t 5)),
 o0 3 (.mv (.t 6))]) (.seq (.seq (.region [0,3,4] [o0 4 (.mv (.c (.int .i64 0)))]) (.block 0 (.loop [0,3,4] x339L1))) (.seq (.region [2] [o0 24 (.mv (.t 3)),
 o0 2 (.mv (.t 24))]) .ret))))⟩
def x372:XFun:=
 ⟨[.cell 2 (some 5)],(.seq (.region [1,2] [o0 1 (.box 5 (.t 0)),
 o0 2 (.alloc [(.int .u8 0),(.string .empty),(.slice none 0 0),(.int .i64 0),(.int .i64 0)])]) (.seq (.region [2] [o0 3 (.fieldA 0 (.t 1)),
 o0 4 (.load none (.t 3)),
 o0 5 (.fieldA 1 (.t 1)),
 o0 6 (.load none (.t 5)),
 o0 7 (.fieldA 2 (.t 1)),
 o0 8 (.load none (.t 7)),
 o0 9 (.call .view 379 [.t 8]),
 o0 10 (.fieldA 3 (.t 1)),
 o0 11 (.load none (.t 10)),
 o0 12 (.fieldA 4 (.t 1)),
 o0 13 (.load none (.t 12)),
 o0 14 (.build [(.int .u8 0),(.string .empty),(.slice none 0 0),(.int .i64 0),(.int .i64 0)] [(0,1,(.t 4)),(1,1,(.t 6)),(2,1,(.t 9)),(3,1,(.t 11)),(4,1,(.t 13))]),
 o2 (.store 5 (.t 2) (.t 14))]) .ret))⟩
def x655L1:XCode:=
 (.seq (.region [1,2,3,8,9,10,11] [o0 11 (.bin .lss (.t 10) (.t 9))]) (.seq (.cond (.t 11) .skip (.exit 0)) (.seq (.block 1 (.seq (.region [1,2,3,6,8,9,10] [o0 12 (.idxA 2 (.t 8) (.t 10)),
 o0 13 (.load (some 2) (.t 12)),
 o0 6 (.alloc [(.int .u8 0),(.int .i64 0)]),
 o2 (.store 2 (.t 6) (.t 13))]) (.seq (.region [1,2,3,7,8,9,10] [o0 14 (.load none (.t 1)),
 o0 15 (.load (some 2) (.t 6)),
 o0 16 (.call .share 651 [(.t 14),(.t 15)]),
 o0 7 (.mv (.t 16))]) (.seq (.region [1,2,3,7,8,9,10,24] [o0 17 (.mv (.t 7)),
 o0 18 (.eqNil true 1 (.t 17)),
 o0 19 (.mv (.t 18)),
 o1 20 19 true (.load none (.t 2)),
 o1 21 19 true (.mv (.t 7)),
 o1 22 19 true (.lookup 3 [(.bool false)] false (.t 20) (.t 21) false),
 o1 23 19 true (.un .not (.t 22)),
 o0 24 (.pick (.t 19) (.t 23) (.c (.bool false)))]) (.cond (.t 24) (.seq (.region [1,2,3,7,8,9,10] [o0 25 (.load none (.t 2)),
 o0 26 (.mv (.t 7)),
 o2 (.mapSet 3 (.t 25) (.t 26) (.c (.bool true)))]) (.region [1,2,3,8,9,10] [o0 27 (.load none (.t 3)),
 o0 28 (.mv (.t 7)),
 o0 29 (.buildSlice 1 [(.pointer none)] 1 [(0,1,(.t 28))]),
 o0 30 (.append 1 8 (.t 27) (.t 29)),
 o2 (.store 1 (.t 3) (.t 30))])) .skip))))) (.region [1,2,3,8,9,10] [o0 31 (.bin .add (.t 10) (.c (.int .i64 1))),
 o0 10 (.mv (.t 31))]))))
def x655:XFun:=
 ⟨[],(.seq (.region [1,2,3,8,9,10] [o0 8 (.mv (.t 0)),
 o0 9 (.len (.t 8)),
 o0 10 (.mv (.c (.int .i64 0)))]) (.block 0 (.loop [1,2,3,8,9,10] x655L1)))⟩
def x651:XFun:=
 ⟨[.tmp 4],(.seq (.region [0,3] [o0 3 (.box 2 (.t 1)),
 o0 4 (.mv (.c (.pointer none)))]) (.seq (.seq (.region [0,3,36] [o0 5 (.fieldA 0 (.t 3)),
 o0 6 (.load none (.t 5)),
 o0 7 (.bin .lss (.t 6) (.c (.int .u8 3))),
 o0 8 (.mv (.t 7)),
 o1 9 8 false (.fieldA 0 (.t 3)),
 o1 10 8 false (.load none (.t 9)),
 o1 11 8 false (.bin .gtr (.t 10) (.c (.int .u8 7))),
 o0 12 (.pick (.t 8) (.c (.bool true)) (.t 11)),
 o0 13 (.mv (.t 12)),
 o1 14 13 false (.fieldA 1 (.t 3)),
 o1 15 13 false (.load none (.t 14)),
 o1 16 13 false (.bin .lss (.t 15) (.c (.int .i64 1))),
 o0 17 (.pick (.t 13) (.c (.bool true)) (.t 16)),
 o0 18 (.mv (.t 17)),
 o1 19 18 false (.fieldA 1 (.t 3)),
 o1 20 18 false (.load none (.t 19)),
 o1 21 18 false (.mv (.t 0)),
 o1 22 18 false (.len (.t 21)),
 o1 23 18 false (.bin .gtr (.t 20) (.t 22)),
 o0 24 (.pick (.t 18) (.c (.bool true)) (.t 23)),
 o0 25 (.mv (.t 24)),
 o1 26 25 false (.mv (.t 0)),
 o1 27 25 false (.fieldA 1 (.t 3)),
 o1 28 25 false (.load none (.t 27)),
 o1 29 25 false (.bin .sub (.t 28) (.c (.int .i64 1))),
 o1 30 25 false (.idxA 5 (.t 26) (.t 29)),
 o1 31 25 false (.fieldA 0 (.t 30)),
 o1 32 25 false (.load none (.t 31)),
 o1 33 25 false (.fieldA 0 (.t 3)),
 o1 34 25 false (.load none (.t 33)),
 o1 35 25 false (.bin .neq (.t 32) (.t 34)),
 o0 36 (.pick (.t 25) (.c (.bool true)) (.t 35))]) (.cond (.t 36) (.seq (.region [4] [o0 4 (.mv (.c (.pointer none)))]) .ret) .skip)) (.seq (.region [4] [o0 37 (.mv (.t 0)),
 o0 38 (.fieldA 1 (.t 3)),
 o0 39 (.load none (.t 38)),
 o0 40 (.bin .sub (.t 39) (.c (.int .i64 1))),
 o0 41 (.idxA 5 (.t 37) (.t 40)),
 o0 4 (.mv (.t 41))]) .ret)))⟩
def x502:XFun:=
 ⟨[.tmp 4],(.seq (.region [0,3] [o0 3 (.box 2 (.t 1)),
 o0 4 (.mv (.c (.int .i64 0)))]) (.seq (.seq (.region [3,36] [o0 5 (.fieldA 0 (.t 3)),
 o0 6 (.load none (.t 5)),
 o0 7 (.bin .lss (.t 6) (.c (.int .u8 3))),
 o0 8 (.mv (.t 7)),
 o1 9 8 false (.fieldA 0 (.t 3)),
 o1 10 8 false (.load none (.t 9)),
 o1 11 8 false (.bin .gtr (.t 10) (.c (.int .u8 7))),
 o0 12 (.pick (.t 8) (.c (.bool true)) (.t 11)),
 o0 13 (.mv (.t 12)),
 o1 14 13 false (.fieldA 1 (.t 3)),
 o1 15 13 false (.load none (.t 14)),
 o1 16 13 false (.bin .lss (.t 15) (.c (.int .i64 1))),
 o0 17 (.pick (.t 13) (.c (.bool true)) (.t 16)),
 o0 18 (.mv (.t 17)),
 o1 19 18 false (.fieldA 1 (.t 3)),
 o1 20 18 false (.load none (.t 19)),
 o1 21 18 false (.mv (.t 0)),
 o1 22 18 false (.len (.t 21)),
 o1 23 18 false (.bin .gtr (.t 20) (.t 22)),
 o0 24 (.pick (.t 18) (.c (.bool true)) (.t 23)),
 o0 25 (.mv (.t 24)),
 o1 26 25 false (.mv (.t 0)),
 o1 27 25 false (.fieldA 1 (.t 3)),
 o1 28 25 false (.load none (.t 27)),
 o1 29 25 false (.bin .sub (.t 28) (.c (.int .i64 1))),
 o1 30 25 false (.idxA 5 (.t 26) (.t 29)),
 o1 31 25 false (.fieldA 0 (.t 30)),
 o1 32 25 false (.load none (.t 31)),
 o1 33 25 false (.fieldA 0 (.t 3)),
 o1 34 25 false (.load none (.t 33)),
 o1 35 25 false (.bin .neq (.t 32) (.t 34)),
 o0 36 (.pick (.t 25) (.c (.bool true)) (.t 35))]) (.cond (.t 36) (.seq (.region [4] [o0 4 (.mv (.c (.int .i64 (-1))))]) .ret) .skip)) (.seq (.region [4] [o0 37 (.fieldA 1 (.t 3)),
 o0 38 (.load none (.t 37)),
 o0 39 (.bin .sub (.t 38) (.c (.int .i64 1))),
 o0 4 (.mv (.t 39))]) .ret)))⟩
def x329:XFun:=
 ⟨[.tmp 4],(.seq (.region [2,3] [o0 2 (.box 5 (.t 0)),
 o0 3 (.box 5 (.t 1)),
 o0 4 (.mv (.c (.bool false)))]) (.seq (.region [4] [o0 5 (.fieldA 0 (.t 2)),
 o0 6 (.load none (.t 5)),
 o0 7 (.fieldA 0 (.t 3)),
 o0 8 (.load none (.t 7)),
 o0 9 (.bin .eql (.t 6) (.t 8)),
 o0 10 (.mv (.t 9)),
 o1 11 10 true (.fieldA 1 (.t 2)),
 o1 12 10 true (.load none (.t 11)),
 o1 13 10 true (.fieldA 1 (.t 3)),
 o1 14 10 true (.load none (.t 13)),
 o1 15 10 true (.bin .eql (.t 12) (.t 14)),
 o0 16 (.pick (.t 10) (.t 15) (.c (.bool false))),
 o0 17 (.mv (.t 16)),
 o1 18 17 true (.fieldA 2 (.t 2)),
 o1 19 17 true (.load none (.t 18)),
 o1 20 17 true (.fieldA 2 (.t 3)),
 o1 21 17 true (.load none (.t 20)),
 o1 22 17 true (.call .view 336 [(.t 19),(.t 21)]),
 o0 23 (.pick (.t 17) (.t 22) (.c (.bool false))),
 o0 24 (.mv (.t 23)),
 o1 25 24 true (.fieldA 3 (.t 2)),
 o1 26 24 true (.load none (.t 25)),
 o1 27 24 true (.fieldA 3 (.t 3)),
 o1 28 24 true (.load none (.t 27)),
 o1 29 24 true (.bin .eql (.t 26) (.t 28)),
 o0 30 (.pick (.t 24) (.t 29) (.c (.bool false))),
 o0 31 (.mv (.t 30)),
 o1 32 31 true (.fieldA 4 (.t 2)),
 o1 33 31 true (.load none (.t 32)),
 o1 34 31 true (.fieldA 4 (.t 3)),
 o1 35 31 true (.load none (.t 34)),
 o1 36 31 true (.bin .eql (.t 33) (.t 35)),
 o0 37 (.pick (.t 31) (.t 36) (.c (.bool false))),
 o0 4 (.mv (.t 37))]) .ret))⟩
def x755L1:XCode:=
 (.seq (.region [0,1,7,8,9] [o0 9 (.bin .lss (.t 8) (.t 7))]) (.seq (.cond (.t 9) .skip (.exit 0)) (.seq (.block 1 (.seq (.region [0,1,5,7,8] [o0 10 (.mv (.t 8)),
 o0 5 (.mv (.t 10))]) (.seq (.region [0,1,5,7,8,16] [o0 11 (.mv (.t 1)),
 o0 12 (.mv (.t 0)),
 o0 13 (.mv (.t 5)),
 o0 14 (.idxA 1 (.t 12) (.t 13)),
 o0 15 (.load none (.t 14)),
 o0 16 (.callV (.t 11) [.t 15])]) (.cond (.t 16) (.seq (.region [4] [o0 17 (.mv (.t 5)),
 o0 4 (.mv (.t 17))]) .ret) .skip)))) (.region [0,1,7,8] [o0 18 (.bin .add (.t 8) (.c (.int .i64 1))),
 o0 8 (.mv (.t 18))]))))
def x755:XFun:=
 ⟨[.tmp 4],(.seq (.region [0,1] [o0 4 (.mv (.c (.int .i64 0)))]) (.seq (.seq (.region [0,1,7,8] [o0 6 (.mv (.t 0)),
 o0 7 (.len (.t 6)),
 o0 8 (.mv (.c (.int .i64 0)))]) (.block 0 (.loop [0,1,7,8] x755L1))) (.seq (.region [4] [o0 4 (.mv (.c (.int .i64 (-1))))]) .ret)))⟩
def x749:XFun:=
 ⟨[.tmp 4],(.seq (.region [0,1] [o0 4 (.mv (.c (.bool false)))]) (.seq (.region [4] [o0 5 (.mv (.t 0)),
 o0 6 (.mv (.t 1)),
 o0 7 (.call .share 759 [(.t 5),(.t 6)]),
 o0 8 (.bin .geq (.t 7) (.c (.int .i64 0))),
 o0 4 (.mv (.t 8))]) .ret))⟩
def x653:XFun:=
 ⟨[.tmp 4],(.seq (.region [1,2,3] [o0 3 (.box 2 (.t 0)),
 o0 4 (.mv (.c (.bool false)))]) (.seq (.region [4] [o0 5 (.load none (.t 1)),
 o0 6 (.load (some 2) (.t 3)),
 o0 7 (.call .peek 656 [(.t 5),(.t 6)]),
 o0 8 (.un .not (.t 7)),
 o0 9 (.mv (.t 8)),
 o1 10 9 false (.fieldA 0 (.t 3)),
 o1 11 9 false (.load none (.t 10)),
 o1 12 9 false (.bin .eql (.t 11) (.c (.int .u8 7))),
 o1 13 9 false (.load none (.t 2)),
 o1 14 9 false (.nilCheck (.t 13)),
 o1 15 9 false (.fieldA 0 (.t 14)),
 o1 16 9 false (.load none (.t 15)),
 o1 17 9 false (.bin .eql (.t 16) (.c (.int .u8 6))),
 o1 18 9 false (.binB .neq (.t 12) (.t 17)),
 o0 19 (.pick (.t 9) (.c (.bool true)) (.t 18)),
 o0 4 (.mv (.t 19))]) .ret))⟩
def x650L1:XCode:=
 (.seq (.seq (.region [0,1,5,6,13] [o0 10 (.mv (.t 6)),
 o0 11 (.mv (.t 1)),
 o0 12 (.len (.t 11)),
 o0 13 (.bin .lss (.t 10) (.t 12))]) (.cond (.t 13) .skip (.exit 0))) (.seq (.block 1 (.seq (.region [0,1,5,6,7] [o0 16 (.mv (.t 1)),
 o0 17 (.mv (.t 6)),
 o0 18 (.idxA 2 (.t 16) (.t 17)),
 o0 19 (.load (some 2) (.t 18)),
 o0 20 (.build [(.int .u8 0),(.int .i64 0),(.string .empty)] [(0,2,(.t 19))]),
 o0 7 (.alloc [(.int .u8 0),(.int .i64 0),(.string .empty)]),
 o2 (.store 3 (.t 7) (.t 20))]) (.seq (.seq (.region [0,1,5,6,7,8] [o0 21 (.mv (.t 0)),
 o0 22 (.mv (.t 1)),
 o0 23 (.mv (.t 6)),
 o0 24 (.idxA 2 (.t 22) (.t 23)),
 o0 25 (.load (some 2) (.t 24)),
 o0 26 (.call .share 651 [(.t 21),(.t 25)]),
 o0 8 (.mv (.t 26))]) (.seq (.region [0,1,5,6,7,8,36] [o0 27 (.mv (.t 1)),
 o0 28 (.mv (.t 6)),
 o0 29 (.idxA 2 (.t 27) (.t 28)),
 o0 30 (.fieldA 0 (.t 29)),
 o0 31 (.load none (.t 30)),
 o0 32 (.bin .eql (.t 31) (.c (.int .u8 3))),
 o0 33 (.mv (.t 32)),
 o1 34 33 true (.mv (.t 8)),
 o1 35 33 true (.eqNil true 1 (.t 34)),
 o0 36 (.pick (.t 33) (.t 35) (.c (.bool false)))]) (.cond (.t 36) (.region [0,1,5,6,7] [o0 37 (.build [(.int .u8 0),(.int .i64 0)] [(0,1,(.c (.int .u8 3)))]),
 o0 38 (.mv (.t 8)),
 o0 39 (.nilCheck (.t 38)),
 o0 40 (.fieldA 1 (.t 39)),
 o0 41 (.load none (.t 40)),
 o0 42 (.build [(.int .u8 0),(.int .i64 0),(.string .empty)] [(0,2,(.t 37)),(2,1,(.t 41))]),
 o2 (.store 3 (.t 7) (.t 42))]) .skip))) (.region [0,1,5,6] [o0 43 (.mv (.t 5)),
 o0 44 (.load (some 3) (.t 7)),
 o2 (.mapSet 57 (.t 43) (.t 44) (.c (.bool true)))])))) (.region [0,1,5,6] [o0 14 (.mv (.t 6)),
 o0 15 (.bin .add (.t 14) (.c (.int .i64 2))),
 o0 6 (.mv (.t 15))])))
def x650:XFun:=
 ⟨[.tmp 4],(.seq (.region [0,1] [o0 4 (.mv (.c (.bool false)))]) (.seq (.region [0,1,5] [o0 9 (.makeMap none),
 o0 5 (.mv (.t 9))]) (.seq (.seq (.region [0,1,5,6] [o0 6 (.mv (.c (.int .i64 0)))]) (.block 0 (.loop [0,1,5,6] x650L1))) (.seq (.region [4] [o0 45 (.mv (.t 5)),
 o0 46 (.lenM (.t 45)),
 o0 47 (.mv (.t 1)),
 o0 48 (.len (.t 47)),
 o0 49 (.bin .quo (.t 48) (.c (.int .i64 2))),
 o0 50 (.bin .eql (.t 46) (.t 49)),
 o0 4 (.mv (.t 50))]) .ret))))⟩
def x506L1:XCode:=
 (.seq (.seq (.region [0,1,2,7,11] [o0 8 (.mv (.t 7)),
 o0 9 (.mv (.t 1)),
 o0 10 (.len (.t 9)),
 o0 11 (.bin .lss (.t 8) (.t 10))]) (.cond (.t 11) .skip (.exit 0))) (.seq (.block 1 (.seq (.region [0,1,2,7,30] [o0 14 (.mv (.t 0)),
 o0 15 (.mv (.t 1)),
 o0 16 (.mv (.t 7)),
 o0 17 (.idxA 2 (.t 15) (.t 16)),
 o0 18 (.load (some 2) (.t 17)),
 o0 19 (.call .view 510 [(.t 14),(.t 18)]),
 o0 20 (.un .not (.t 19)),
 o0 21 (.mv (.t 20)),
 o1 22 21 false (.mv (.t 1)),
 o1 23 21 false (.mv (.t 7)),
 o1 24 21 false (.idxA 2 (.t 22) (.t 23)),
 o1 25 21 false (.fieldA 0 (.t 24)),
 o1 26 21 false (.load none (.t 25)),
 o1 27 21 false (.bin .eql (.t 26) (.c (.int .u8 7))),
 o1 28 21 false (.mv (.t 2)),
 o1 29 21 false (.binB .neq (.t 27) (.t 28)),
 o0 30 (.pick (.t 21) (.c (.bool true)) (.t 29))]) (.cond (.t 30) (.seq (.region [6] [o0 6 (.mv (.c (.bool false)))]) .ret) .skip))) (.region [0,1,2,7] [o0 12 (.mv (.t 7)),
 o0 13 (.bin .add (.t 12) (.c (.int .i64 1))),
 o0 7 (.mv (.t 13))])))
def x506:XFun:=
 ⟨[.tmp 6],(.seq (.region [0,1,2] [o0 6 (.mv (.c (.bool false)))]) (.seq (.seq (.region [0,1,2,7] [o0 7 (.mv (.c (.int .i64 0)))]) (.block 0 (.loop [0,1,2,7] x506L1))) (.seq (.region [6] [o0 6 (.mv (.c (.bool true)))]) .ret)))⟩
def x507L1:XCode:=
 (.seq (.seq (.region [0,1,5,6,15] [o0 13 (.mv (.t 6)),
 o0 14 (.mv (.t 5)),
 o0 15 (.bin .lss (.t 13) (.t 14))]) (.cond (.t 15) .skip (.exit 2))) (.seq (.block 3 (.seq (.region [0,1,5,6,27] [o0 18 (.mv (.t 0)),
 o0 19 (.mv (.t 1)),
 o0 20 (.mv (.t 5)),
 o0 21 (.idxA 2 (.t 19) (.t 20)),
 o0 22 (.load (some 2) (.t 21)),
 o0 23 (.mv (.t 1)),
 o0 24 (.mv (.t 6)),
 o0 25 (.idxA 2 (.t 23) (.t 24)),
 o0 26 (.load (some 2) (.t 25)),
 o0 27 (.call .view 503 [(.t 18),(.t 22),(.t 26)])]) (.cond (.t 27) (.seq (.region [4] [o0 4 (.mv (.c (.bool false)))]) .ret) .skip))) (.region [0,1,5,6] [o0 16 (.mv (.t 6)),
 o0 17 (.bin .add (.t 16) (.c (.int .i64 2))),
 o0 6 (.mv (.t 17))])))
def x507L2:XCode:=
 (.seq (.seq (.region [0,1,5,10] [o0 7 (.mv (.t 5)),
 o0 8 (.mv (.t 1)),
 o0 9 (.len (.t 8)),
 o0 10 (.bin .lss (.t 7) (.t 9))]) (.cond (.t 10) .skip (.exit 0))) (.seq (.block 1 (.seq (.region [0,1,5,6] [o0 6 (.mv (.c (.int .i64 0)))]) (.block 2 (.loop [0,1,5,6] x507L1)))) (.region [0,1,5] [o0 11 (.mv (.t 5)),
 o0 12 (.bin .add (.t 11) (.c (.int .i64 2))),
 o0 5 (.mv (.t 12))])))
def x507:XFun:=
 ⟨[.tmp 4],(.seq (.region [0,1] [o0 4 (.mv (.c (.bool false)))]) (.seq (.seq (.region [0,1,5] [o0 5 (.mv (.c (.int .i64 0)))]) (.block 0 (.loop [0,1,5] x507L2))) (.seq (.region [4] [o0 4 (.mv (.c (.bool true)))]) .ret)))⟩
def x338:XFun:=
 ⟨[.tmp 2],(.seq (.region [1] [o0 1 (.box 5 (.t 0)),
 o0 2 (.mv (.c (.int .i64 0)))]) (.seq (.region [1,3] [o0 4 (.fieldA 1 (.t 1)),
 o0 5 (.load none (.t 4)),
 o0 6 (.lenS (.t 5)),
 o0 7 (.bin .add (.c (.int .i64 1)) (.t 6)),
 o0 3 (.mv (.t 7))]) (.seq (.seq (.region [1,3,9] [o0 8 (.mv (.t 3)),
 o0 9 (.bin .leq (.t 8) (.c (.int .i64 1048576)))]) (.cond (.t 9) (.region [3] [o0 10 (.mv (.t 3)),
 o0 11 (.fieldA 2 (.t 1)),
 o0 12 (.load none (.t 11)),
 o0 13 (.call .view 380 [.t 12]),
 o0 14 (.bin .add (.t 10) (.t 13)),
 o0 3 (.mv (.t 14))]) .skip)) (.seq (.region [2] [o0 15 (.mv (.t 3)),
 o0 2 (.mv (.t 15))]) .ret))))⟩
def x759L1:XCode:=
 (.seq (.region [0,1,7,8,9] [o0 9 (.bin .lss (.t 8) (.t 7))]) (.seq (.cond (.t 9) .skip (.exit 0)) (.seq (.block 1 (.seq (.region [0,1,5,7,8] [o0 10 (.mv (.t 8)),
 o0 5 (.mv (.t 10))]) (.seq (.region [0,1,5,7,8,16] [o0 11 (.mv (.t 1)),
 o0 12 (.mv (.t 0)),
 o0 13 (.mv (.t 5)),
 o0 14 (.idxA 2 (.t 12) (.t 13)),
 o0 15 (.load (some 2) (.t 14)),
 o0 16 (.callV (.t 11) [.t 15])]) (.cond (.t 16) (.seq (.region [4] [o0 17 (.mv (.t 5)),
 o0 4 (.mv (.t 17))]) .ret) .skip)))) (.region [0,1,7,8] [o0 18 (.bin .add (.t 8) (.c (.int .i64 1))),
 o0 8 (.mv (.t 18))]))))
def x759:XFun:=
 ⟨[.tmp 4],(.seq (.region [0,1] [o0 4 (.mv (.c (.int .i64 0)))]) (.seq (.seq (.region [0,1,7,8] [o0 6 (.mv (.t 0)),
 o0 7 (.len (.t 6)),
 o0 8 (.mv (.c (.int .i64 0)))]) (.block 0 (.loop [0,1,7,8] x759L1))) (.seq (.region [4] [o0 4 (.mv (.c (.int .i64 (-1))))]) .ret)))⟩
def x503:XFun:=
 ⟨[.tmp 6],(.seq (.region [0,4,5] [o0 4 (.box 2 (.t 1)),
 o0 5 (.box 2 (.t 2)),
 o0 6 (.mv (.c (.bool false)))]) (.seq (.seq (.region [0,4,5,13] [o0 9 (.fieldA 0 (.t 4)),
 o0 10 (.load none (.t 9)),
 o0 11 (.fieldA 0 (.t 5)),
 o0 12 (.load none (.t 11)),
 o0 13 (.bin .neq (.t 10) (.t 12))]) (.cond (.t 13) (.seq (.region [6] [o0 6 (.mv (.c (.bool false)))]) .ret) .skip)) (.seq (.seq (.region [0,4,5,23] [o0 14 (.fieldA 0 (.t 4)),
 o0 15 (.load none (.t 14)),
 o0 16 (.bin .eql (.t 15) (.c (.int .u8 0))),
 o0 17 (.mv (.t 16)),
 o1 18 17 false (.fieldA 1 (.t 4)),
 o1 19 17 false (.load none (.t 18)),
 o1 20 17 false (.fieldA 1 (.t 5)),
 o1 21 17 false (.load none (.t 20)),
 o1 22 17 false (.bin .eql (.t 19) (.t 21)),
 o0 23 (.pick (.t 17) (.c (.bool true)) (.t 22))]) (.cond (.t 23) (.seq (.region [6] [o0 6 (.mv (.c (.bool true)))]) .ret) .skip)) (.seq (.region [0,4,7,8] [o0 24 (.mv (.t 0)),
 o0 25 (.load (some 2) (.t 4)),
 o0 26 (.call .view 502 [(.t 24),(.t 25)]),
 o0 27 (.mv (.t 0)),
 o0 28 (.load (some 2) (.t 5)),
 o0 29 (.call .view 502 [(.t 27),(.t 28)]),
 o0 7 (.mv (.t 26)),
 o0 8 (.mv (.t 29))]) (.seq (.region [6] [o0 30 (.fieldA 0 (.t 4)),
 o0 31 (.load none (.t 30)),
 o0 32 (.bin .eql (.t 31) (.c (.int .u8 3))),
 o0 33 (.mv (.t 32)),
 o1 34 33 true (.mv (.t 7)),
 o1 35 33 true (.bin .geq (.t 34) (.c (.int .i64 0))),
 o0 36 (.pick (.t 33) (.t 35) (.c (.bool false))),
 o0 37 (.mv (.t 36)),
 o1 38 37 true (.mv (.t 8)),
 o1 39 37 true (.bin .geq (.t 38) (.c (.int .i64 0))),
 o0 40 (.pick (.t 37) (.t 39) (.c (.bool false))),
 o0 41 (.mv (.t 40)),
 o1 42 41 true (.mv (.t 0)),
 o1 43 41 true (.mv (.t 7)),
 o1 44 41 true (.idxA 5 (.t 42) (.t 43)),
 o1 45 41 true (.fieldA 1 (.t 44)),
 o1 46 41 true (.load none (.t 45)),
 o1 47 41 true (.mv (.t 0)),
 o1 48 41 true (.mv (.t 8)),
 o1 49 41 true (.idxA 5 (.t 47) (.t 48)),
 o1 50 41 true (.fieldA 1 (.t 49)),
 o1 51 41 true (.load none (.t 50)),
 o1 52 41 true (.bin .eql (.t 46) (.t 51)),
 o0 53 (.pick (.t 41) (.t 52) (.c (.bool false))),
 o0 6 (.mv (.t 53))]) .ret)))))⟩
def x380:XFun:=
 ⟨[.tmp 2],(.seq (.region [0] [o0 2 (.mv (.c (.int .i64 0)))]) (.seq (.region [2] [o0 3 (.mv (.t 0)),
 o0 4 (.len (.t 3)),
 o0 2 (.mv (.t 4))]) .ret))⟩
end Go.EX


namespace Go.EX
def x786:XFun:=
 ⟨[.tmp 2],(.seq (.region [0] [o0 2 (.mv (.c (.string .empty)))]) (.seq (.region [2] [o0 3 (.mv (.t 0)),
 o0 4 (.call .view 709 [.t 3]),
 o0 2 (.mv (.t 4))]) .ret))⟩
def x709:XFun:=
 ⟨[.tmp 2],(.seq (.region [0] [o0 2 (.mv (.c (.string .empty)))]) (.seq (.region [2] [o0 3 (.mv (.t 0)),
 o0 4 (.call .view 708 [(.t 3),(.c (.int .i64 10))]),
 o0 2 (.mv (.t 4))]) .ret))⟩
end Go.EX

