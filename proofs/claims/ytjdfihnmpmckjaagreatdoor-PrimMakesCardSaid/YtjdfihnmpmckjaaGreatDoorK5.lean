import Derived.Test.YtjdfihnmpmckjaaGreatDoorK4
set_option linter.unusedVariables false
set_option linter.unusedSimpArgs false
namespace Go.EX
structure zew (K:Nat->Prop) (len:Nat) (val:Nat->AV) (new:Nat->List AObj):Prop where
 size:∀p,(new p).length=len
 inV:∀p,In (fun id=>K id\/(p<=id/\id<p+len)) (val p)
 inN:∀p o,o∈new p->∀id∈o.refs,K id\/(p<=id/\id<p+len)
 ren:∀p q f,(∀j,j<len->f (p+j)=some (q+j))->(∀id,K id->f id=some id)->(val p).ren f=val q/\(new p).map (AObj.ren f)=new q
theorem zgu{K:Nat->Prop}(o:AObj)(ho:∀id∈o.refs,K id)(val:Nat->AV)(hv:∀p,(val p).refs=[p])(hr:∀p q f,f p=some q->(val p).ren f=val q):zew K 1 val fun _=>[o]:=by
 refine⟨fun _=>rfl,fun p id hid=>?_,fun p o' ho' id hid=>?_,fun p q f h1 h2=>⟨hr p q f (by simpa using h1 0 (by omega)),?_⟩⟩
 ·rw[hv]at hid;simp at hid;exact .inr (by omega)
 ·rw[xav.1 ho']at hid;exact .inl (ho id hid)
 ·simp only[xa4,List.map_nil]
  rw[zhe fun id hid=>h2 id (ho id hid)]
theorem zrn{K:Nat->Prop}(cs:List AV)(off:Nat)(hcs:InL K cs):zew K 1 (fun id=>.optr id 0) fun p=>[.rich (cs.set off (.seat p off))]:=by
 have hin:∀p,∀x∈cs.set off (.seat p off),x=.seat p off\/In K x:=by
  intro p x hx
  rcases List.mem_or_eq_of_mem_set hx with h|h
  ·exact .inr (hcs x h)
  ·exact .inl h
 refine⟨fun _=>rfl,fun p id hid=>?_,fun p o' ho' id hid=>?_,fun p q f h1 h2=>⟨by simp[AV.ren,show f p=some q by simpa using h1 0 (by omega)],?_⟩⟩
 ·simp[AV.refs]at hid;exact .inr (by omega)
 ·rw[xav.1 ho']at hid
  simp only[AObj.refs]at hid
  obtain⟨x,hx,hid⟩:=refsL_mem.1 hid
  rcases hin p x hx with rfl|h
  ·simp[AV.refs]at hid;exact .inr (by omega)
  ·exact .inl (h id hid)
 ·simp only[xa4,List.map_nil,AObj.ren,zfm,List.map_set,AV.ren,show f p=some q by simpa using h1 0 (by omega)]
  have:cs.map (AV.ren f)=cs:=by
   conv=>rhs;rw[<-List.map_id cs]
   exact xbk fun x hx=>zmv fun id hid=>h2 id (hcs x hx id hid)
  rw[this]
theorem z1q{K:Nat->Prop}{cs:List AV}(h:InL K cs):∀id∈(zbp cs).refs,K id:=by
 unfold zbp
 split
 ·intro id hid;simp[AObj.refs]at hid
 ·intro id hid;simp only[AObj.refs]at hid;obtain⟨x,hx,hid⟩:=refsL_mem.1 hid;exact h x hx id hid
theorem zpa{K:Nat->Prop}{s t:Mem}(h:zci K s t):∀(n:Nat) (todo acc:List Nat),(∀x∈todo,K x)->(∀x∈acc,K x)->reach t n todo acc=reach s n todo acc/\∀x∈reach s n todo acc,K x
 |0,todo,acc,h1,h2=>by simp only[reach,true_and];exact h2
 |n+1,[],acc,h1,h2=>by simp only[reach,true_and];exact h2
 |n+1,id::todo,acc,h1,h2=>by
  have hk:=h1 id (by simp)
  have hs:=h.same id hk
  have hlt:id<t.length↔id<s.length:=by
   constructor
   ·intro hi;rw[xaa hi]at hs;exact(xab.1 hs.symm).1
   ·intro hi;rw[xaa hi]at hs;exact(xab.1 hs).1
  simp only[reach,hs,hlt]
  have ht:∀x∈todo,K x:=fun x hx=>h1 x (by simp[hx])
  split
  ·exact zpa h n todo acc ht h2
  ·split
   ·rename_i hi
    refine zpa h n _ _ (fun x hx=>?_) (fun x hx=>?_)
    ·rcases xaj.1 hx with hx|hx
     ·exact ht x hx
     ·rw[xaa hi]at hx
      exact h.closed id _ hk (xaa hi) x hx
    ·rcases xaj.1 hx with hx|hx
     ·exact h2 x hx
     ·rw[xav.1 hx];exact hk
   ·exact zpa h n todo acc ht h2
theorem zw6{K:Nat->Prop}{s t:Mem}(h:zci K s t){l:List Nat}(hl:∀x∈l,K x):t.pickAll l=s.pickAll l:=by
 unfold Mem.pickAll
 refine xbk fun x hx=>?_
 rw[h.same x (hl x hx)]
theorem z2p{K:Nat->Prop}{s t:Mem}(hm:zci K s t){as:List AV}(hk:InL K as):order 0 (AV.refs.refsL as) t=order 0 (AV.refs.refsL as) s/\∀x∈order 0 (AV.refs.refsL as) s,K x:=by
 have hroots:∀x∈AV.refs.refsL as,K x:=fun x hx=>by
  obtain⟨y,hy,hxy⟩:=refsL_mem.1 hx
  exact hk y hy x hxy
 have h0:∀m:Mem,order 0 (AV.refs.refsL as) m=reach m 1000000000000 (AV.refs.refsL as++Mem.refs (m.take 0)) (List.range 0):=fun _=>rfl
 rw[h0,h0]
 simp only[xcr]
 refine zpa hm 1000000000000 _ _ (fun x hx=>?_) (fun x hx=>?_)
 ·rcases xaj.1 hx with hx|hx
  ·exact hroots x hx
  ·simp[Mem.refs]at hx
 ·simp at hx
theorem ya0{call:zac}{K:Nat->Prop}{s t:St}{fn:Nat}{as:List AV}(hm:zci K s.mem t.mem)(hk:InL K as){r:AV}{s':St}(h:zbg call s fn as=some (r,s')):
  ∃(len:Nat) (val:Nat->AV) (new:Nat->List AObj),zew K len val new/\r=val s.mem.length/\s'={ s with mem:=s.mem++new s.mem.length }/\zbg call t fn as=some (val t.mem.length,{ t with mem:=t.mem++new t.mem.length }):=by
 have hord:=z2p hm hk
 unfold zbg at h ⊢
 dsimp only at h ⊢
 rw[hord.1,zw6 hm hord.2]
 have hK:=hord.2
 clear hord
 generalize order 0 (AV.refs.refsL as) s.mem=l at *
 cases hc:call fn (AV.ren.renL (place l) as) (s.mem.pickAll l)with
 |none=>simp[hc]at h
 |some rm=>
  obtain⟨rv,mc⟩:=rm
  simp only[hc]at h ⊢
  split at h
  case isFalse=>cases h
  rename_i hq
  obtain⟨hmc,hall⟩:=hq
  rw[xae]at hall
  obtain⟨ha1,ha2⟩:=hall
  rw[xae]at ha2
  have hb1:∀i∈rv.refs,i<mc.length:=fun i hi=>by simpa using xai.1 ha2.1 i hi
  have hb2:∀o∈mc.drop l.length,∀i∈o.refs,i<mc.length:=fun o ho i hi=>by
   have:=xai.1 ha2.2 o (List.mem_of_mem_drop ho)
   simpa using xai.1 this i hi
  cases h
  have hback:∀(p i id:Nat),i<mc.length->(if i<l.length then l[i]? else some (p+(i-l.length)))=some id->K id\/(p<=id/\id<p+(mc.length-l.length)):=by
   intro p i id hi he
   split at he
   ·exact .inl (hK id (xah he))
   ·cases he;right;omega
  have hbind:∀(p q:Nat) (f:Nat->Option Nat),(∀j,j<mc.length-l.length->f (p+j)=some (q+j))->(∀id,K id->f id=some id)->∀i,i<mc.length->((if i<l.length then l[i]? else some (p+(i-l.length))).bind f)=(if i<l.length then l[i]? else some (q+(i-l.length))):=by
   intro p q f h1 h2 i hi
   split
   ·rename_i hil
    rw[xaa hil,xbe]
    exact h2 _ (hK _ (xa8 hil))
   ·rw[xbe];exact h1 _ (by omega)
  refine⟨mc.length-l.length,fun p=>rv.ren fun i=>if i<l.length then l[i]? else some (p+(i-l.length)),fun p=>(mc.drop l.length).map (AObj.ren fun i=>if i<l.length then l[i]? else some (p+(i-l.length))),⟨fun p=>by simp,fun p id hid=>?_,fun p o ho id hid=>?_,fun p q f h1 h2=>⟨?_,?_⟩⟩,rfl,rfl,?_⟩
  ·obtain⟨i,hi,e⟩:=zk7 rv id hid
   exact hback p i id (hb1 i hi) e
  ·obtain⟨o',ho',rfl⟩:=xbd.1 ho
   obtain⟨i,hi,e⟩:=zrr o' id hid
   exact hback p i id (hb2 o' ho' i hi) e
  ·rw[zmx]
   exact zjw rv fun i hi=>hbind p q f h1 h2 i (hb1 i hi)
  ·rw[xc3]
   refine xbk fun o ho=>?_
   simp only[Function.comp,zmp]
   exact zh3 o fun i hi=>hbind p q f h1 h2 i (hb2 o ho i hi)
  ·rw[if_pos]
   refine⟨hmc,?_⟩
   rw[xae,xae]
   refine⟨?_,ha2⟩
   rw[xai]at ha1 ⊢
   intro id hid
   have:=ha1 id hid
   rw[hm.same id (hK id hid)]
   exact this
theorem ya6{call:zac}{K:Nat->Prop}{x:XOp}(hc:zcx x=true){s t:St}(hm:zci K s.mem t.mem)(he:∀n∈x.needs,t.env.get n=s.env.get n)(hk:∀n∈x.needs,In K (s.env.get n))
  (hb:∀fn l as r mc,x=.call .own fn l->(l.map s.env.ev).mapM (frz s.mem)=some as->call fn as []=some (r,mc)->(∀id∈r.refs,id<mc.length)/\∀o∈mc,∀id∈o.refs,id<mc.length) {r:AV} {s':St} (h:zag call s x=some (r,s')):
  ∃(len:Nat) (val:Nat->AV) (new:Nat->List AObj),zew K len val new/\r=val s.mem.length/\s'={ s with mem:=s.mem++new s.mem.length }/\zag call t x=some (val t.mem.length,{ t with mem:=t.mem++new t.mem.length }):=by
 have e1:∀y,(∀n∈za8 y,n∈x.needs)->t.env.ev y=s.env.ev y:=fun y hy=>zji fun n hn=>he n (hy n hn)
 have k1:∀y,(∀n∈za8 y,n∈x.needs)->In K (s.env.ev y):=fun y hy=>zmf fun n hn=>hk n (hy n hn)
 cases x with
 |alloc zs=>
  cases h
  refine⟨1,fun id=>.optr id 0,fun _=>[.rich (imZ zs)],zgu _ (fun id hid=>?_) _ (fun _=>rfl) (fun p q f hf=>by simp[AV.ren,hf]),rfl,rfl,rfl⟩
  simp only[AObj.refs]at hid;obtain⟨x,hx,hid⟩:=refsL_mem.1 hid;exact zjl zs x hx id hid
 |box n y=>
  have ky:=k1 y (by simp[XOp.needs])
  simp only[zag]at h ⊢
  rw[e1 y (by simp[XOp.needs])]
  cases hcs:(s.env.ev y).cells with
  |none=>rw[hcs]at h;cases h
  |some cs=>
   rw[hcs]at h
   cases h
   refine⟨1,fun id=>.optr id 0,fun _=>[.rich cs],zgu _ (fun id hid=>?_) _ (fun _=>rfl) (fun p q f hf=>by simp[AV.ren,hf]),rfl,rfl,rfl⟩
   simp only[AObj.refs]at hid;obtain⟨x,hx,hid⟩:=refsL_mem.1 hid;exact zme ky hcs x hx id hid
 |allocB off zs=>
  cases h
  exact⟨1,fun id=>.optr id 0,fun p=>[.rich ((imZ zs).set off (.seat p off))],zrn _ off (zjl zs),rfl,rfl,rfl⟩
 |boxB off n y=>
  have ky:=k1 y (by simp[XOp.needs])
  simp only[zag]at h ⊢
  rw[e1 y (by simp[XOp.needs])]
  cases hcs:(s.env.ev y).cells with
  |none=>rw[hcs]at h;cases h
  |some cs=>
   rw[hcs]at h
   dsimp only at h ⊢
   split at h
   ·rename_i hln
    split at h
    ·rename_i hnil
     cases h
     exact⟨1,fun id=>.optr id 0,fun p=>[.rich (cs.set off (.seat p off))],zrn _ off (zme ky hcs),rfl,rfl,by rw[if_pos hln];rfl⟩
    ·cases h
   ·cases h
 |buildSlice sz zs len ps=>
  simp only[zag]at h ⊢
  rw[zvy (s:=s.env) (t:=t.env) (by simpa [XOp.needs]using he)]
  cases hf:zco (imZ (zaq len zs)) (ps.map fun (o,n,x)=>(o,n,s.env.ev x))with
  |none=>rw[hf]at h;cases h
  |some cs=>
   rw[hf]at h
   cases h
   refine⟨1,fun id=>.osl id 0 sz len (some len),fun _=>[zbp cs],zgu _ (z1q (zrf _ _ _ (zjl _) (fun p hp=>?_) hf)) _ (fun _=>rfl) (fun p q f hf=>by simp[AV.ren,hf]),rfl,rfl,rfl⟩
   obtain⟨q,hq,rfl⟩:=xbd.1 hp
   exact k1 q.2.2 fun n hn=>by simp only[XOp.needs];exact xa2.2 ⟨q,hq,hn⟩
 |makeSlice sz bytes zs l c=>
  simp only[zag]at h ⊢
  rw[e1 l (by simp[XOp.needs];intros;simp[*]),e1 c (by simp[XOp.needs];intros;simp[*])]
  split at h
  ·rename_i i j hi hj
   split at h
   ·rename_i hbd
    cases h
    refine⟨1,fun id=>.osl id 0 sz i.toNat (some j.toNat),fun _=>[.flat (zaq j.toNat (zs.map .val)) false],zgu _ (fun id hid=>by simp[AObj.refs]at hid) _ (fun _=>rfl) (fun p q f hf=>by simp[AV.ren,hf]),rfl,rfl,?_⟩
    simp only[hbd,and_self,if_true]
    rfl
   ·cases h
  ·cases h
 |appendC sz bytes y z=>
  simp only[zag,zl7]at h ⊢
  rw[e1 y (by simp[XOp.needs];intros;simp[*]),e1 z (by simp[XOp.needs];intros;simp[*]),z8m hm sz (k1 z (by simp[XOp.needs];intros;simp[*]))]
  split at h
  ·rename_i hy
   split at h
   ·rename_i n news he
    split at h
    ·rename_i h0
     cases h
     refine⟨0,fun _=>.imm (.val (.slice none 0 0)),fun _=>[],⟨fun _=>rfl,fun p id hid=>by simp[AV.refs]at hid,fun p o ho=>by simp at ho,fun p q f _ _=>⟨rfl,rfl⟩⟩,rfl,by simp,?_⟩
     simp only[h0,if_true,xas]
    ·rename_i h0
     split at h
     ·rename_i h1
      cases h
      refine⟨1,fun id=>.osl id 0 sz n none,fun _=>[.flat news false],zgu _ (fun id hid=>by simp[AObj.refs]at hid) _ (fun _=>rfl) (fun p q f hf=>by simp[AV.ren,hf]),rfl,rfl,?_⟩
      simp only[h0,h1,if_true,if_false]
      rfl
     ·cases h
   ·cases h
  ·cases h
 |makeMap hint=>
  have mk:zew K 1 (fun id=>.omap id) (fun _=>[.map []]):=zgu _ (fun id hid=>by simp[AObj.refs,AV.refs.refsL]at hid) _ (fun _=>rfl) (fun p q f hf=>by simp[AV.ren,hf])
  simp only[zag]at h ⊢
  cases hint with
  |none=>cases h;exact⟨1,_,_,mk,rfl,rfl,rfl⟩
  |some y=>
   simp only at h ⊢
   rw[e1 y (by simp[XOp.needs,zk9])]
   split at h
   ·rename_i i hi;cases h;exact⟨1,_,_,mk,rfl,rfl,by rfl⟩
   ·cases h
 |call mode fn l=>
  cases mode with
  |own=>
   simp only[zag,zbk]at h ⊢
   have hin:InL K (l.map s.env.ev):=fun x hx=>by
    obtain⟨q,hq,rfl⟩:=xbd.1 hx
    exact k1 q fun n hn=>by simp only[XOp.needs];exact xa2.2 ⟨q,hq,hn⟩
   rw[zg8 (s:=s.env) (t:=t.env) (by simpa [XOp.needs]using he),zhb _ fun x hx=>zrb hm x (hin x hx)]
   split at h
   ·cases h
   ·rename_i as has
    split at h
    ·cases h
    ·rename_i r0 mc hcall
     obtain⟨hb1,hb2⟩:=hb fn l as r0 mc rfl has hcall
     split at h
     ·rename_i hcond
      cases h
      refine⟨mc.length,fun p=>r0.ren fun i=>some (p+i),fun p=>mc.map (AObj.ren fun i=>some (p+i)),⟨fun p=>by simp,fun p id hid=>?_,fun p o ho id hid=>?_,fun p q f h1 h2=>⟨?_,?_⟩⟩,rfl,rfl,by simp only[hcond,if_true]⟩
      ·obtain⟨i,hi,e⟩:=zk7 r0 id hid
       cases e
       exact .inr ⟨by omega,by have:=hb1 i hi;omega⟩
      ·obtain⟨o',ho',rfl⟩:=xbd.1 ho
       obtain⟨i,hi,e⟩:=zrr o' id hid
       cases e
       exact .inr ⟨by omega,by have:=hb2 o' ho' i hi;omega⟩
      ·rw[zmx]
       exact zjw r0 fun id hid=>by simpa using h1 id (hb1 id hid)
      ·rw[xc3]
       refine xbk fun o ho=>?_
       simp only[Function.comp,zmp]
       exact zh3 o fun id hid=>by simpa using h1 id (hb2 o ho id hid)
     ·cases h
  |look=>
   simp only[zag]at h ⊢
   have hin:InL K (l.map s.env.ev):=fun x hx=>by
    obtain⟨q,hq,rfl⟩:=xbd.1 hx
    exact k1 q fun n hn=>by simp only[XOp.needs];exact xa2.2 ⟨q,hq,hn⟩
   rw[zg8 (s:=s.env) (t:=t.env) (by simpa [XOp.needs]using he)]
   exact ya0 hm hin h
  |view=>cases hc
  |share=>cases hc
  |peek=>cases hc
  |touch=>cases hc
  |whole=>cases hc
 |_=>cases hc
theorem yev{call:zac}{K:Nat->Prop}{s t:St}{fn:Nat}{as:List AV}(hm:zci K s.mem t.mem)(hk:InL K as){r:AV}{s':St}(h:zdc call s fn as=some (r,s')):
  s'=s/\zdc call t fn as=some (r,t)/\In K r:=by
 have hroots:∀x∈AV.refs.refsL as,K x:=fun x hx=>by
  obtain⟨y,hy,hxy⟩:=refsL_mem.1 hx
  exact hk y hy x hxy
 have hord:order 0 (AV.refs.refsL as) t.mem=order 0 (AV.refs.refsL as) s.mem/\∀x∈order 0 (AV.refs.refsL as) s.mem,K x:=by
  have h0:∀m:Mem,order 0 (AV.refs.refsL as) m=reach m 1000000000000 (AV.refs.refsL as++Mem.refs (m.take 0)) (List.range 0):=fun _=>rfl
  rw[h0,h0]
  simp only[xcr]
  refine zpa hm 1000000000000 _ _ (fun x hx=>?_) (fun x hx=>?_)
  ·rcases xaj.1 hx with hx|hx
   ·exact hroots x hx
   ·simp[Mem.refs]at hx
  ·simp at hx
 unfold zdc at h ⊢
 dsimp only at h ⊢
 rw[hord.1,zw6 hm hord.2]
 cases hc:call fn (AV.ren.renL (place (order 0 (AV.refs.refsL as) s.mem)) as) (s.mem.pickAll (order 0 (AV.refs.refsL as) s.mem))with
 |none=>simp[hc]at h
 |some rm=>
  obtain⟨rv,mc⟩:=rm
  simp only[hc]at h ⊢
  split at h
  case isFalse=>cases h
  rename_i hq
  obtain⟨hmc,hp,hall⟩:=hq
  cases h
  refine⟨rfl,?_,z1r hp⟩
  rw[if_pos]
  refine⟨hmc,hp,?_⟩
  rw[xai]at hall ⊢
  intro id hid
  have:=hall id hid
  rw[hm.same id (hord.2 id hid)]
  exact this
theorem zoa{call:zac}{K:Nat->Prop}{x:XOp}(hc:zcm x=true){s t:St}(hm:zci K s.mem t.mem)(he:∀n∈x.reads,t.env.get n=s.env.get n)(hk:∀n∈x.reads,In K (s.env.get n)){r:AV}{s':St}(h:zag call s x=some (r,s')):
  s'=s/\zag call t x=some (r,t)/\In K r:=by
 have hmap:∀{α:Type} (o:Option α) (f:α->AV),o.map (fun v=>(f v,s))=some (r,s')->(∀v,o=some v->In K (f v))->s'=s/\o.map (fun v=>(f v,t))=some (r,t)/\In K r:=by
  intro α o f ho hf
  cases o with
  |none=>cases ho
  |some v=>cases ho;exact⟨rfl,rfl,hf v rfl⟩
 have e1:∀y,(∀n∈za8 y,n∈x.reads)->t.env.ev y=s.env.ev y:=fun y hy=>zji fun n hn=>he n (hy n hn)
 have k1:∀y,(∀n∈za8 y,n∈x.reads)->In K (s.env.ev y):=fun y hy=>zmf fun n hn=>hk n (hy n hn)
 have eO:∀y,(∀n∈zk9 y,n∈x.reads)->y.map t.env.ev=y.map s.env.ev:=fun y hy=>z8o fun n hn=>he n (hy n hn)
 cases x with
 |mv y=>
  have ky:=k1 y (by simp[XOp.reads])
  simp only[zag]at h ⊢
  rw[e1 y (by simp[XOp.reads])]
  cases h;exact⟨rfl,rfl,ky⟩
 |load agg y=>
  have ky:=k1 y (by simp[XOp.reads])
  simp only[zag]at h ⊢
  rw[e1 y (by simp[XOp.reads]),yaw hm ky]
  exact hmap _ _ h fun v hv=>zwe hm ky hv
 |loadI agg y=>
  have ky:=k1 y (by simp[XOp.reads])
  simp only[zag]at h ⊢
  rw[e1 y (by simp[XOp.reads])]
  split at h
  ·exact hmap _ _ h fun v hv=>zwe (s:=[]) (t:=[]) ⟨fun _ _=>rfl,fun id o _ ho=>by simp at ho⟩ zcv hv
  ·cases h
 |nilCheck y=>
  have ky:=k1 y (by simp[XOp.reads])
  simp only[zag]at h ⊢
  rw[e1 y (by simp[XOp.reads])]
  revert h;split<;>intro h<;>first|(cases h;done)|(cases h;exact⟨rfl,rfl,ky⟩)
 |extract y i=>
  have ky:=k1 y (by simp[XOp.reads])
  simp only[zag]at h ⊢
  rw[e1 y (by simp[XOp.reads])]
  revert h;split<;>intro h<;>first|(cases h;done)|skip
  rename_i vs hv
  rw[hv]at ky
  exact hmap _ _ h fun v hv=>(in_tup.1 ky).get hv
 |field off agg y=>
  have ky:=k1 y (by simp[XOp.reads])
  simp only[zag]at h ⊢
  rw[e1 y (by simp[XOp.reads])]
  revert h;split<;>intro h<;>first|(cases h;done)|skip
  rename_i cs hv
  rw[hv]at ky
  exact hmap _ _ h fun v hv=>z1p (in_agg.1 ky) hv
 |fieldA off y=>
  have ky:=k1 y (by simp[XOp.reads])
  simp only[zag]at h ⊢
  rw[e1 y (by simp[XOp.reads])]
  revert h;split<;>intro h<;>first|(cases h;done)|skip
  ·cases h;exact⟨rfl,rfl,zcv⟩
  ·cases h;exact⟨rfl,rfl,z1u⟩
  ·rename_i id o hv
   rw[hv]at ky
   cases h;exact⟨rfl,rfl,in_optr.2 (in_optr.1 ky)⟩
 |eqNil _ _ y|un _ y|conv _ y|convS y|len y|lenS y|cap y=>
  simp only[zag]at h ⊢
  rw[e1 y (by simp[XOp.reads])]
  first
   |exact hmap _ _ h fun _ _=>zcv
   |(revert h;split<;>intro h<;>first|(cases h;done)|(cases h;exact⟨rfl,rfl,zcv⟩)|exact hmap _ _ h fun _ _=>zcv)
 |idxP n sz y z=>
  have ky:=k1 y (by simp[XOp.reads];intros;simp[*])
  simp only[zag]at h ⊢
  rw[e1 y (by simp[XOp.reads];intros;simp[*]),e1 z (by simp[XOp.reads];intros;simp[*])]
  split at h
  ·cases h
  ·split at h
   ·rename_i hb
    split at h
    ·cases h;refine⟨rfl,?_,zcv⟩;simp only[*,and_self,if_true]
    ·rename_i heq;cases h;rw[heq]at ky;refine⟨rfl,?_,in_optr.2 (in_optr.1 ky)⟩;simp only[*,and_self,if_true]
    ·cases h
   ·cases h
 |idxV n sz agg y z=>cases h
 |strOf y=>cases h
 |bytesOf y=>cases h
 |minmax mn y z=>
  simp only[zag]at h ⊢
  rw[e1 y (by simp[XOp.reads];intros;simp[*]),e1 z (by simp[XOp.reads];intros;simp[*])]
  revert h;split<;>intro h<;>first|(cases h;done)|(cases h;exact⟨rfl,rfl,zcv⟩)
 |pick a b c=>
  have kb:=k1 b (by simp[XOp.reads];intros;simp[*])
  have kc:=k1 c (by simp[XOp.reads];intros;simp[*])
  simp only[zag]at h ⊢
  rw[e1 a (by simp[XOp.reads];intros;simp[*]),e1 b (by simp[XOp.reads];intros;simp[*]),e1 c (by simp[XOp.reads];intros;simp[*])]
  revert h;split<;>intro h<;>first|(cases h;done)|skip
  cases h
  refine⟨rfl,rfl,?_⟩
  split
  ·exact kb
  ·exact kc
 |bin _ y z|binB _ y z|eqCells _ _ y z|idxS y z=>
  simp only[zag]at h ⊢
  rw[e1 y (by simp[XOp.reads];intros;simp[*]),e1 z (by simp[XOp.reads];intros;simp[*])]
  repeat' (first|exact hmap _ _ h fun _ _=>zcv|(cases h;done)|(cases h;exact⟨rfl,rfl,zcv⟩)|(revert h;split<;>intro h))
 |idxA _ y z=>
  have ky:=k1 y (by simp[XOp.reads];intros;simp[*])
  simp only[zag]at h ⊢
  rw[e1 y (by simp[XOp.reads];intros;simp[*]),e1 z (by simp[XOp.reads];intros;simp[*])]
  split at h
  ·cases h
  ·split at h
   ·split at h
    ·rename_i hb;cases h;refine⟨rfl,?_,zcv⟩;simp only[*,and_self,if_true]
    ·cases h
   ·split at h
    ·rename_i hb;cases h;refine⟨rfl,?_,z1u⟩;simp only[*,and_self,if_true]
    ·cases h
   ·rename_i heq
    split at h
    ·rename_i hb;cases h;rw[heq]at ky;refine⟨rfl,?_,in_optr.2 (in_osl.1 ky)⟩;simp only[*,and_self,if_true]
    ·cases h
   ·cases h
 |build zs ps=>
  simp only[zag]at h ⊢
  rw[zvy (s:=s.env) (t:=t.env) (by simpa [XOp.reads]using he)]
  refine hmap _ _ h fun v hv=>in_agg.2 (zrf _ _ _ (zjl zs) (fun p hp=>?_) hv)
  obtain⟨q,hq,rfl⟩:=xbd.1 hp
  exact k1 q.2.2 fun n hn=>by simp only[XOp.reads];exact xa2.2 ⟨q,hq,hn⟩
 |slice sz y lo hi=>
  have ky:=k1 y (by simp[XOp.reads];intros;simp[*])
  simp only[zag]at h ⊢
  rw[e1 y (by simp[XOp.reads];intros;simp[*]),eO lo (by simp[XOp.reads];intros;simp[*]),eO hi (by simp[XOp.reads];intros;simp[*])]
  refine hmap _ _ h fun v hv=>?_
  generalize s.env.ev y=yv at hv ky
  unfold zf6 at hv
  split at hv
  ·simp only[xad]at hv;obtain⟨_,_,rfl⟩:=hv;exact zcv
  ·simp only[xad]at hv;obtain⟨_,_,rfl⟩:=hv;exact zcv
  ·split at hv
   ·simp only[xad]at hv;obtain⟨_,_,rfl⟩:=hv;exact in_osl.2 (in_osl.1 ky)
   ·cases hv
  ·cases hv
 |slice3 sz y hi mx=>
  have ky:=k1 y (by simp[XOp.reads];intros;simp[*])
  simp only[zag]at h ⊢
  rw[e1 y (by simp[XOp.reads];intros;simp[*]),e1 hi (by simp[XOp.reads];intros;simp[*]),e1 mx (by simp[XOp.reads];intros;simp[*])]
  refine hmap _ _ h fun v hv=>?_
  generalize s.env.ev y=yv at hv ky
  unfold zfj at hv
  split at hv
  ·split at hv
   ·split at hv
    ·cases hv;exact zcv
    ·cases hv
   ·split at hv
    ·cases hv;exact zcv
    ·cases hv
   ·split at hv
    ·cases hv;exact in_osl.2 (in_osl.1 ky)
    ·cases hv
   ·cases hv
  ·cases hv
 |sliceS y lo hi=>
  simp only[zag]at h ⊢
  rw[e1 y (by simp[XOp.reads];intros;simp[*]),eO lo (by simp[XOp.reads];intros;simp[*]),eO hi (by simp[XOp.reads];intros;simp[*])]
  revert h;split<;>intro h<;>first|(cases h;done)|exact hmap _ _ h fun _ _=>zcv
 |mkClo _ l=>
  simp only[zag]at h ⊢
  rw[zg8 (s:=s.env) (t:=t.env) (by simpa [XOp.reads]using he)]
  cases h
  refine⟨rfl,rfl,in_clo.2 fun x hx=>?_⟩
  obtain⟨q,hq,rfl⟩:=xbd.1 hx
  exact k1 q fun n hn=>by simp only[XOp.reads];exact xa2.2 ⟨q,hq,hn⟩
 |lookup kind zs agg y z ok=>
  have ky:=k1 y (by simp[XOp.reads];intros;simp[*])
  have kz:=k1 z (by simp[XOp.reads];intros;simp[*])
  simp only[zag]at h ⊢
  rw[e1 y (by simp[XOp.reads];intros;simp[*]),e1 z (by simp[XOp.reads];intros;simp[*])]
  generalize s.env.ev y=yv at h ky ⊢
  generalize s.env.ev z=zv at h kz ⊢
  have kzero:In K (zih zs agg):=by
   unfold zih
   split
   ·exact in_agg.2 (zjl zs)
   ·split
    ·exact zcv
    ·exact zwd
  have kout:∀(v:AV) (b:Bool),In K v->In K (.tup [v,.imm (.val (.bool b))]):=fun v b hv=>in_tup.2 fun x hx=>by
   simp only[xca,List.not_mem_nil,or_false]at hx
   rcases hx with rfl|rfl
   ·exact hv
   ·exact zcv
  split at h
  ·rename_i hik
   rw[if_pos hik]
   split at h
   ·cases ok<;>cases h
    ·exact⟨rfl,rfl,kzero⟩
    ·exact⟨rfl,rfl,kout _ _ kzero⟩
   ·rename_i id
    have hid:=in_omap.1 ky
    simp only[hm.same id hid]
    split at h
    ·rename_i es hes
     have hin:=z90 hm hid hes
     rw[z0t hm kind kz es 0 fun p hp=>(hin p hp).1]
     split at h
     ·cases ok<;>cases h
      ·exact⟨rfl,rfl,kzero⟩
      ·exact⟨rfl,rfl,kout _ _ kzero⟩
     ·rename_i i hi
      cases hp:es[i]? with
      |none=>rw[hp]at h;cases h
      |some p=>
       rw[hp]at h
       have kp:=(hin p (xah hp)).2
       cases ok<;>cases h
       ·exact⟨rfl,rfl,kp⟩
       ·exact⟨rfl,rfl,kout _ _ kp⟩
     ·cases h
    ·cases h
   ·cases h
  ·cases h
 |lenM y=>
  have ky:=k1 y (by simp[XOp.reads])
  simp only[zag]at h ⊢
  rw[e1 y (by simp[XOp.reads])]
  generalize s.env.ev y=yv at h ky ⊢
  split at h
  ·cases h;exact⟨rfl,rfl,zcv⟩
  ·rename_i id
   simp only[hm.same id (in_omap.1 ky)]
   split at h
   ·cases h;exact⟨rfl,rfl,zcv⟩
   ·cases h
  ·cases h
 |call mode fn l=>
  cases mode with
  |view=>
   simp only[zag,zbl]at h ⊢
   have hin:InL K (l.map s.env.ev):=fun x hx=>by
    obtain⟨q,hq,rfl⟩:=xbd.1 hx
    exact k1 q fun n hn=>by simp only[XOp.reads];exact xa2.2 ⟨q,hq,hn⟩
   rw[zg8 (s:=s.env) (t:=t.env) (by simpa [XOp.reads]using he),zhb _ fun x hx=>zrb hm x (hin x hx)]
   split at h
   ·cases h
   ·split at h
    ·cases h
    ·rename_i mc hcall
     split at h
     ·rename_i hp
      cases h
      refine⟨rfl,by simp only[hp,if_true],?_⟩
      exact z1r hp
     ·rename_i hp
      split at h
      ·rename_i hi
       simp only[hp,hi,xan,if_true,if_false]
       exact hmap _ _ h fun v hv=>z9z hv
      ·cases h
  |own=>cases hc
  |share=>cases hc
  |look=>cases hc
  |touch=>cases hc
  |whole=>cases hc
  |peek=>
   simp only[zag]at h ⊢
   have hin:InL K (l.map s.env.ev):=fun x hx=>by
    obtain⟨q,hq,rfl⟩:=xbd.1 hx
    exact k1 q fun n hn=>by simp only[XOp.reads];exact xa2.2 ⟨q,hq,hn⟩
   rw[zg8 (s:=s.env) (t:=t.env) (by simpa [XOp.reads]using he)]
   exact yev hm hin h
 |alloc|allocB|box|boxB|buildSlice|store|storeF|frz|ice|append|appendK|appendS|appendN|appendC|appendT|makeSlice|copy|clear|callV|callT|callW|makeMap|mapSet|rangeS|nextS=>cases hc
 |callP g l=>cases h
 |restore n y z=>cases h
 |junk=>cases h;exact⟨rfl,rfl,zwd⟩
 |litA|litI|litM|litL=>cases h
section
variable {num:Names} {P:Program}
theorem zz3{p q:Nat->Bool}{i:Nat}(hp:p i=true)(hq:q i=false)(h:∀j,j≠i->q j=p j):∀(l:List Nat),l.Nodup->(i∈l->l.countP q+1=l.countP p)/\(i ∉ l->l.countP q=l.countP p)
 |[],_=>⟨fun h=>absurd h (by simp),fun _=>rfl⟩
 |j::l,hn=>by
  obtain⟨hj,hn⟩:=List.nodup_cons.1 hn
  obtain⟨h1,h2⟩:=zz3 hp hq h l hn
  by_cases hji:j=i
  ·subst hji
   refine⟨fun _=>?_,fun hh=>absurd (xbh ..) hh⟩
   rw[List.countP_cons,List.countP_cons,hp,hq,h2 hj];simp
  ·refine⟨fun hh=>?_,fun hh=>?_⟩
   ·have:i∈l:=by rcases xca.1 hh with h|h;exact absurd h.symm hji;exact h
    rw[List.countP_cons,List.countP_cons,h j hji,<-h1 this];omega
   ·have:i ∉ l:=fun hh'=>hh (xbc _ hh')
    rw[List.countP_cons,List.countP_cons,h j hji,h2 this]
def left(n:Nat)(listed:Array Bool):Nat:=(List.range n).countP fun i=> !listed.getD i true
theorem zrk{n i:Nat}{listed:Array Bool}(hi:i<n)(hl:listed.getD i true=false):left n (listed.setIfInBounds i true)+1=left n listed:=by
 refine(zz3 (p:=fun i=> !listed.getD i true) (q:=fun j=> !(listed.setIfInBounds i true).getD j true) (i:=i) (by simp[hl]) ?_ ?_ (List.range n) List.nodup_range).1 (xa9.2 hi)
 ·show(!(listed.setIfInBounds i true).getD i true)=false
  rw[xbn,Array.getElem?_setIfInBounds]
  split<;>(try split)<;>simp_all
 ·intro j hj
  show(!(listed.setIfInBounds i true).getD j true)=_
  rw[getD_set_ne true (Ne.symm hj)]
theorem zv0{call:zac}:∀(xs:List XO) (s s':St),zbn call s xs=some s'->∀i,∃t,zbn call s (xs.take i)=some t/\zbn call t (xs.drop i)=some s'
 |[],s,s',h,i=>⟨s,by simp[zbn],by simpa using h⟩
 |x::xs,s,s',h,0=>⟨s,rfl,h⟩
 |x::xs,s,s',h,i+1=>by
  simp only[zbn]at h
  cases hx:za9 call s x with
  |none=>rw[hx]at h;cases h
  |some s1=>
   rw[hx]at h
   obtain⟨t,h1,h2⟩:=zv0 xs s1 s' h i
   exact⟨t,by simp only[List.take_succ_cons,zbn,hx,xbe,h1],by simpa using h2⟩
theorem zvz{call:zac}:∀(xs:List XO) (x:XO) (s t u:St),zbn call s xs=some t->zbn call s (xs++[x])=some u->za9 call t x=some u
 |[],x,s,t,u,h,g=>by
  cases h
  simp only[xa7,zbn]at g
  cases hx:za9 call s x with
  |none=>rw[hx]at g;cases g
  |some s1=>rw[hx]at g;cases g;rfl
 |y::xs,x,s,t,u,h,g=>by
  simp only[xbo,zbn]at h g
  cases hx:za9 call s y with
  |none=>rw[hx]at h;cases h
  |some s1=>rw[hx]at h g;exact zvz xs x s1 t u h g
theorem zgp(s:St)(d:Option Nat)(v:AV)(t:Nat):(s.bind d v).env.get t=if d=some t then v else s.env.get t:=by
 cases d with
 |none=>simp[St.bind]
 |some d=>
  simp only[St.bind,Env.get,xaf]
  by_cases h:t=d
  ·subst h;simp
  ·rw[if_neg h,if_neg (fun h'=>h h'.symm)]
theorem z2m{call:zac}{K:Nat->Prop}{x:XO}(hc:(zcm x.op||zcx x.op)=true){s t:St}(hm:zci K s.mem t.mem)(he:∀n∈x.reads,t.env.get n=s.env.get n)(hk:∀n∈x.reads,In K (s.env.get n))
  (hb:∀fn l as r mc,x.op=.call .own fn l->(l.map s.env.ev).mapM (frz s.mem)=some as->call fn as []=some (r,mc)->(∀id∈r.refs,id<mc.length)/\∀o∈mc,∀id∈o.refs,id<mc.length) {s':St} (h:za9 call s x=some s'):
  ∃(len:Nat) (val:Nat->AV) (new:Nat->List AObj),zew K len val new/\s'=({ s with mem:=s.mem++new s.mem.length }:St).bind x.dst (val s.mem.length)/\za9 call t x=some (({ t with mem:=t.mem++new t.mem.length }:St).bind x.dst (val t.mem.length)):=by
 have r1:∀n∈x.op.reads,n∈x.reads:=fun n hn=>xaj.2 (.inl hn)
 have r2:∀n∈x.op.needs,n∈x.reads:=fun n hn=>xaj.2 (.inr (xaj.2 (.inl hn)))
 have r3:∀u b,x.guard=some (u,b)->u∈x.reads:=fun u b hg=>xaj.2 (.inr (xaj.2 (.inr (by simp[hg]))))
 have calm:∀v,In K v->zew K 0 (fun _=>v) (fun _=>[]):=fun v hv=>⟨fun _=>rfl,fun p id hid=>.inl (hv id hid),fun p o ho=>absurd ho (by simp),fun p q f _ h2=>⟨zmv fun id hid=>h2 id (hv id hid),rfl⟩⟩
 have nil:∀(u:St),({ u with mem:=u.mem++[] }:St)=u:=fun u=>by cases u;simp
 rcases zis h with⟨v,s1,hx,rfl,hg⟩|⟨rfl,u,b,hg,hcc⟩
 ·have hop:∃(len:Nat) (val:Nat->AV) (new:Nat->List AObj),zew K len val new/\v=val s.mem.length/\s1={ s with mem:=s.mem++new s.mem.length }/\zag call t x.op=some (val t.mem.length,{ t with mem:=t.mem++new t.mem.length }):=by
   by_cases hcalm:zcm x.op=true
   ·obtain⟨rfl,h2,h3⟩:=zoa hcalm hm (fun n hn=>he n (r1 n hn)) (fun n hn=>hk n (r1 n hn)) hx
    exact⟨0,fun _=>v,fun _=>[],calm v h3,rfl,(nil _).symm,by rw[nil];exact h2⟩
   ·have hmake:zcx x.op=true:=by simpa [hcalm]using hc
    exact ya6 hmake hm (fun n hn=>he n (r2 n hn)) (fun n hn=>hk n (r2 n hn)) hb hx
  obtain⟨len,val,new,h1,rfl,rfl,h4⟩:=hop
  refine⟨len,val,new,h1,rfl,?_⟩
  unfold za9
  rcases hg with hg|⟨u,b,hg,hcc⟩
  ·simp only[hg,h4,xao];cases x.dst<;>rfl
  ·have:t.env.get u=.imm (.val (.bool b)):=by rw[he u (r3 u b hg)];exact hcc
   simp only[hg,this,h4,xao,if_true];cases x.dst<;>rfl
 ·refine⟨0,fun _=>.tup [],fun _=>[],calm (.tup []) (in_tup.2 fun y hy=>by cases hy),by rw[nil],?_⟩
  unfold za9
  rcases hcc with⟨c,hcc,hne⟩|hcc
  ·have:t.env.get u=.imm (.val (.bool c)):=by rw[he u (r3 u b hg)];exact hcc
   simp only[hg,this,hne,if_false,nil]
   cases x.dst<;>rfl
  ·have:t.env.get u=.tup []:=by rw[he u (r3 u b hg)];exact hcc
   simp only[hg,this,nil]
   cases x.dst<;>rfl
theorem zkm{C:Cx}{x:AV}{v:Value}(h:ARep num C x v):∀id∈x.refs,id<C.n:=by
 induction h with
 |imm x v h=>intro id hid;simp[AV.refs]at hid
 |osl id off sz len cap c a arr e hid _ _ _ _ _=>intro j hj;simp[AV.refs]at hj;rw[hj];exact hid
 |optr id off hid=>intro j hj;simp[AV.refs]at hj;rw[hj];exact hid
 |omap id hid=>intro j hj;simp[AV.refs]at hj;rw[hj];exact hid
 |clo f caps vs hl h ih=>
  intro j hj
  simp only[AV.refs]at hj
  obtain⟨x,hx,hj⟩:=refsL_mem.1 hj
  obtain⟨i,hi⟩:=xa3 hx
  have:i<vs.size:=by rw[<-hl];exact(xab.1 hi).1
  exact ih i x vs[i] hi (by simp[this]) j hj
 |agg caps vs hl _ h ih=>
  intro j hj
  simp only[AV.refs]at hj
  obtain⟨x,hx,hj⟩:=refsL_mem.1 hj
  obtain⟨i,hi⟩:=xa3 hx
  have:i<vs.size:=by rw[<-hl];exact(xab.1 hi).1
  exact ih i x vs[i] hi (by simp[this]) j hj
 |tup caps vs hl h ih=>
  intro j hj
  simp only[AV.refs]at hj
  obtain⟨x,hx,hj⟩:=refsL_mem.1 hj
  obtain⟨i,hi⟩:=xa3 hx
  have:i<vs.size:=by rw[<-hl];exact(xab.1 hi).1
  exact ih i x vs[i] hi (by simp[this]) j hj
 |yld id hid=>intro j hj;simp[AV.refs]at hj;subst hj;exact hid
 |seat id off n e hid hw hb=>intro j hj;simp[AV.refs]at hj;subst hj;exact hid
 |tag=>intro id hid;simp[AV.refs]at hid
 |err=>intro id hid;simp[AV.refs]at hid
 |junk v=>intro id hid;simp[AV.refs]at hid
theorem zw0{C:Cx}{id:Nat}{o:AObj}(h:zc4 num C id o):∀j∈o.refs,j<C.n:=by
 intro j hj
 cases o with
 |flat=>simp[AObj.refs]at hj
 |rich cs=>
  obtain⟨arr,e,_,h2⟩:=h
  simp only[AObj.refs]at hj
  obtain⟨x,hx,hj⟩:=refsL_mem.1 hj
  obtain⟨i,hi⟩:=xa3 hx
  obtain⟨u,_,_,hr⟩:=h2 i x hi
  exact zkm hr j hj
 |map es=>
  obtain⟨es',clock,_,hl,h3⟩:=h
  simp only[AObj.refs,xaj]at hj
  have one:∀(p:AV×AV),p∈es->(j∈p.1.refs\/j∈p.2.refs)->j<C.n:=by
   intro p hp hj
   obtain⟨i,hi⟩:=xa3 hp
   have:i<es'.size:=by rw[hl];exact(xab.1 hi).1
   obtain⟨g1,g2⟩:=h3 i p es'[i] hi (by simp[this])
   rcases hj with hj|hj
   ·exact zkm g1 j hj
   ·exact zkm g2 j hj
  rcases hj with hj|hj
  ·obtain⟨x,hx,hj⟩:=refsL_mem.1 hj
   obtain⟨p,hp,rfl⟩:=xbd.1 hx
   exact one p hp (.inl hj)
  ·obtain⟨x,hx,hj⟩:=refsL_mem.1 hj
   obtain⟨p,hp,rfl⟩:=xbd.1 hx
   exact one p hp (.inr hj)
 |dead=>simp[AObj.refs]at hj
 |fix=>simp[AObj.refs]at hj
 |loop env ps as b y=>
  obtain⟨R,N,_,_,_,_,_,_,h7⟩:=h
  simp only[AObj.refs]at hj
  obtain⟨p,hp,hj⟩:=env_roots_mem.1 hj
  exact zkm (h7 p hp) j hj
 |text=>simp[AObj.refs]at hj
 |iter=>simp[AObj.refs]at hj
theorem z2s{call:zac}(hcall:zc3 num P call){C:Cx}{s:St}{a:Act}(hs:zas num C s a){op:Op}{fn:Nat}{l:List Src}{as:List AV}{r:AV}{mc:Mem}(htr:zbm P num op=some (XOp.call .view fn l))(has:(l.map s.env.ev).mapM (frz s.mem)=some as)(hc:call fn as []=some (r,mc)):
  (∀id∈r.refs,id<mc.length)/\∀o∈mc,∀id∈o.refs,id<mc.length:=by
 have:∃f args ats,op=.call ⟨.value (.func f),args,ats⟩/\num f=fn/\args.toList.mapM (zah num)=some l:=by
  have hm1:∀{o:Operand} {g:Src->XOp},(∀y,g y≠ .call .view fn l)->(zah num o).map g≠some (.call .view fn l):=by
   intro o g hg h
   cases ho:zah num o with
   |none=>rw[ho]at h;cases h
   |some y=>rw[ho]at h;exact hg y (xau h)
  cases op with
  |call c=>
   obtain⟨callee,args,ats⟩:=c
   simp only[zbm]at htr
   cases callee with
   |invoke=>simp[zhj]at htr
   |builtin b=>
    simp only[zhj]at htr
    repeat' (first|(cases htr;done)|exact absurd htr (hm1 fun y hy=>by cases hy)|split at htr)
   |value fo=>
    cases fo with
    |func f=>
     simp only[zhj,xad]at htr
     obtain⟨ys,hy,hx⟩:=htr
     cases hx
     exact⟨f,args,ats,rfl,rfl,hy⟩
    |_=>
     simp only[zhj]at htr
     repeat' (first|(cases htr;done)|split at htr)
  |makeFunc f fi cs=>
   cases f<;>simp only[zbm]at htr<;>repeat' (first|(cases htr;done)|split at htr)
   simp only[xad]at htr
   obtain⟨_,_,h⟩:=htr
   cases h
  |build t ps=>
   simp only[zbm]at htr
   repeat' (first|(cases htr;done)|(simp only[xad]at htr;obtain⟨_,_,h⟩:=htr;cases h;done)|split at htr)
  |buildSlice t n ps=>
   simp only[zbm]at htr
   repeat' (first|(cases htr;done)|(simp only[xad]at htr;obtain⟨_,_,h⟩:=htr;cases h;done)|split at htr)
  |next o is=>
   cases is<;>simp only[zbm,reduceCtorEq]at htr
   exact absurd htr (hm1 fun y hy=>by cases hy)
  |slice t o lo hi mx=>
   cases mx<;>cases lo<;>cases hi<;>simp only[zbm]at htr<;>repeat' (first|(cases htr;done)|split at htr)
  |_=>
   simp only[zbm]at htr
   repeat' (first|(cases htr;done)|exact absurd htr (hm1 fun y hy=>by cases hy)|split at htr)
 obtain⟨f,args,ats,rfl,rfl,hy⟩:=this
 obtain⟨hl,hr⟩:=zkn hs args.toList l hy
 obtain⟨h1,h2⟩:=zva hs.mem has hl hr (C.view s.mem num) (fun _ h=>h) rfl
 obtain⟨_,hcs⟩:=hcall.fn f as [] r mc _ _ hc (zsu hs.mem) h1 h2
 obtain⟨e,w',fr,⟨v,D,_,_,hst,hrv⟩,_⟩:=hcs []
 have hn:=hst.rep.len
 refine⟨fun id hid=>by have:=zkm hrv id hid;omega,fun o ho id hid=>?_⟩
 obtain⟨i,hi⟩:=xa3 ho
 have:=zw0 (hst.rep.obj i o hi) id hid
 omega
theorem zx0{call:zac}{N:Nat}{ops:Array Oper}:∀(l:List Oper) (xs:List XO) {s s':St},zf0 P num N ops l=xs.map XO.wipe->zbn call s xs=some s'->∀(i:Nat) (o:Oper),l[i]?=some o->∃x:XO,xs[i]?=some x/\zia P num N ops o=some x.wipe
 |[],_,_,_,_,_,i,o,ho=>by simp at ho
 |o::l,xs,s,s',htr,h,i,o',hi=>by
  simp only[zf0]at htr
  cases ho:zia P num N ops o with
  |none=>
   rw[ho]at htr
   cases xs with
   |nil=>simp at htr
   |cons x r=>
    simp only[xa4,xcu]at htr
    have hb:x.wipe=zn6:=htr.1.symm
    have h1:(x.op=.callV (.c (.bool true)) []\/x.op=.callP (.c (.bool true)) []\/x.op=.callW (.c (.bool true)) []\/∃w,x.op=.callT (.c (.bool true)) [] w)/\x.guard=none:=by
     obtain⟨d,op,g⟩:=x
     simp only[XO.wipe,zn6,XO.mk.injEq]at hb
     obtain⟨_,h2,h3⟩:=hb
     refine⟨?_,h3⟩
     cases op<;>simp only[XOp.wipe,reduceCtorEq]at h2
     ·exact .inl h2
     ·cases h2;exact .inr (.inl rfl)
     ·cases h2;exact .inr (.inr (.inl rfl))
     ·cases h2;exact .inr (.inr (.inr ⟨_,rfl⟩))
    simp only[zbn]at h
    unfold za9 at h
    rcases h1.1 with h4|h4|h4|⟨_,h4⟩<;>simp only[h4,h1.2,zag,Env.ev,xci,Option.bind_none]at h<;>cases h
  |some y=>
   rw[ho]at htr
   cases xs with
   |nil=>simp at htr
   |cons x r=>
    simp only[xa4,xcu]at htr
    simp only[zbn]at h
    cases hx:za9 call s x with
    |none=>rw[hx]at h;cases h
    |some s1=>
     rw[hx]at h
     cases i with
     |zero=>simp at hi;subst hi;exact⟨x,rfl,by rw[ho,htr.1]⟩
     |succ i=>exact zx0 l r htr.2 h i o' (by simpa using hi)
theorem zx1{N:Nat}{ops:Array Oper}:∀(l:List Oper) (xs:List XO),l.length=xs.length->(∀(i:Nat) (o:Oper),l[i]?=some o->∃x:XO,xs[i]?=some x/\zia P num N ops o=some x.wipe)->zf0 P num N ops l=xs.map XO.wipe
 |[],xs,hl,_=>by cases xs with|nil=>rfl|cons=>cases hl
 |o::l,xs,hl,h=>by
  cases xs with
  |nil=>cases hl
  |cons x r=>
   obtain⟨y,hy,ho⟩:=h 0 o rfl
   simp at hy;subst hy
   simp only[zf0,ho,xa4]
   rw[zx1 l r (by simpa using hl) fun i o hi=>h (i+1) o (by simpa using hi)]
theorem z1e{m n:Nat}{listed:Array Bool}(hs:listed.size=m)(hn:n<=m)(h1:∀i,i<n->listed.getD i true=true)(h2:∀t,n<=t->t<m->listed.getD t true=false):listed=ziw m n:=by
 apply Array.ext
 ·simp[ziw,hs]
 ·intro i hi _
  have hi':i<m:=by omega
  have:listed[i]=listed.getD i true:=by simp[hi]
  rw[this]
  by_cases hin:i<n
  ·rw[h1 i hin];simp[ziw,hin]
  ·rw[h2 i (by omega) hi'];simp[ziw,hin]
theorem yex{C:Cx}{m:Mem}(hm:MRep num C m){k:Nat}{l:List Nat}(hn:l.Nodup)(hk:∀i,i<k->l[i]?=some i)(hkl:k<=l.length):Step num k C m (C.pick l) (m.pickAll l):=by
 have hown:∀b,Own (C.pick l) (m.pickAll l) b->Own C m b:=by
  intro b hb
  obtain⟨id,o,_,ho,hl,hb⟩:=zjt hb
  exact⟨id,o,ho,hl,hb⟩
 refine⟨zw7 hm hn,rfl,rfl,rfl,xap _,fun _ _ _=>rfl,fun _ _ _ h=>h,fun _ h=>h,fun _ h=>.inl h,fun b hb=>.inr (hown b hb),fun i hi p hp hmv=>?_,by rw[Mem.pickAll,xam];exact hkl⟩
 obtain⟨id,h3,rfl⟩:=zk3 hp
 rw[hk i hi]at h3
 cases h3
 rw[zmw]at hmv
 obtain⟨o,ho,he⟩:=zmc hmv
 rw[he]at hmv
 exact⟨o,ho,hmv,ziz (hk i hi)⟩
theorem z2v{C:Cx}{s:St}{a:Act}(hs:zas num C s a){l:List Nat}(hn:l.Nodup)(hk:∀i,i<s.k->l[i]?=some i)(hkl:s.k<=l.length):Later num s.k C s.mem a (C.pick l) { k:=s.k,env:=s.env.ren (place l),mem:=s.mem.pickAll l } a:=by
 have hst:=yex hs.mem hn hk hkl
 exact⟨⟨hst.rep,hs.env.tr (zo6 _),hst.len⟩,hst,rfl,rfl,fun _ _ h=>h⟩
theorem zxj{C:Cx}{s:St}{a:Act}(hs:zas num C s a)(d:Nat):Later num s.k C s.mem a { C with n:=C.n+d } { s with mem:=s.mem++List.replicate d AObj.dead } a:=by
 have hm:=hs.mem
 have ht:Tr some C { C with n:=C.n+d }:=⟨fun _ h=>h,fun _ _=>rfl,fun id j hid hj=>by cases hj;exact⟨by show _<C.n+d;omega,rfl,fun _ _ h=>h⟩⟩
 have split:∀(i:Nat) (p:AObj),(s.mem++List.replicate d AObj.dead)[i]?=some p->s.mem[i]?=some p\/p=.dead:=by
  intro i p hp
  rcases xa1 i s.mem.length with h|h
  ·rw[xac h]at hp;exact .inl hp
  ·rw[xag h]at hp
   exact .inr (xby (xah hp))
 have hown:∀b,Own { C with n:=C.n+d } (s.mem++List.replicate d AObj.dead) b->Own C s.mem b:=by
  rintro b ⟨i,p,hp,hl,hb⟩
  rcases split i p hp with h|rfl
  ·exact⟨i,p,h,hl,hb⟩
  ·cases hl
 have hk:s.k<=(s.mem++List.replicate d AObj.dead).length:=by have:=hs.k;simp;omega
 have hrep:MRep num { C with n:=C.n+d } (s.mem++List.replicate d AObj.dead):=by
  refine⟨by simp[hm.len],fun i p hp=>?_,fun i j p q hp hq hlp hlq he=>?_,fun b hb=>hm.imm b (hown b hb),hm.bd,hm.glo⟩
  ·rcases split i p hp with h|rfl
   ·exact zh6 ht rfl (fun _ h=>h) (hm.obj i p h)
   ·trivial
  ·rcases split i p hp with h|rfl
   ·rcases split j q hq with h'|rfl
    ·exact hm.inj i j p q h h' hlp hlq he
    ·cases hlq
   ·cases hlp
 refine⟨⟨hrep,hs.env.mono ht,hk⟩,⟨hrep,rfl,rfl,rfl,xap _,fun _ _ _=>rfl,fun _ _ _ h=>h,fun _ h=>h,fun _ h=>.inl h,fun b hb=>.inr (hown b hb),fun i _ p hp hmv=>?_,hk⟩,rfl,rfl,fun _ _ h=>h⟩
 rcases split i p hp with h|rfl
 ·exact⟨p,h,hmv,rfl⟩
 ·cases hmv
structure Drawn (call:zac) (P:Program) (num:Names) (N:Nat) (ops:Array Oper) (xs:List XO) (n:Nat) (s0 sF:St) (S:Nat->St) (sp:Nat->Bool):Prop where
 len:xs.length=ops.size
 hn:n<=ops.size
 tr:∀(i:Nat) o,sp i=false->ops[i]?=some o->∃x:XO,xs[i]?=some x/\zia P num N ops o=some x.wipe
 quiet:∀(i:Nat) x,i<n->xs[i]?=some x->(zcm x.op||zcx x.op)=true
 one:∀(i j:Nat) x y d,i<n->j<n->xs[i]?=some x->xs[j]?=some y->y.dst=some d->(i=j\/x.dst≠some d)/\(d∈x.reads->j<i/\Region.waitsFor .any ops i j=true)
 low:∀(i:Nat) o,i<n->ops[i]?=some o->∀e∈o.after,Region.binds .any e=true->e.on<i
 S0:S 0=s0
 go:∀(i:Nat) x,xs[i]?=some x->za9 call (S i) x=some (S (i+1))
 fin:S xs.length=sF
 step:∀(i:Nat) x,i<n->xs[i]?=some x->za9 call (S i) x=some (S (i+1))
 rest:zbn call (S n) (xs.drop n)=some sF
section
variable {call:zac} {N:Nat} {ops:Array Oper} {xs:List XO} {n:Nat} {s0 sF:St} {S:Nat->St} {sp:Nat->Bool}
def zb6(S:Nat->St)(n:Nat)(listed:Array Bool)(id:Nat):Prop:=∀j,j<n->(S j).mem.length<=id->id<(S (j+1)).mem.length->listed.getD j true=true
structure zlv (xs:List XO) (n:Nat) (S:Nat->St) (listed:Array Bool) (t:St):Prop where
 len:t.mem.length=(S n).mem.length
 k:t.k=(S 0).k
 k0:(S 0).k<=(S 0).mem.length
 live:∀id,id<(S n).mem.length->zb6 S n listed id->t.mem[id]?=(S n).mem[id]?
 dead:∀id,id<(S n).mem.length->¬zb6 S n listed id->t.mem[id]?=some .dead
 done:∀(i:Nat) x u,i<n->xs[i]?=some x->x.dst=some u->listed.getD i true=true->t.env.get u=(S (i+1)).env.get u/\∀id∈(t.env.get u).refs,zb6 S n listed id/\id<(S (i+1)).mem.length
 not:∀u,(∀(i:Nat) x,i<n->xs[i]?=some x->x.dst=some u->listed.getD i true=false)->t.env.get u=(S 0).env.get u/\∀id∈(t.env.get u).refs,id<(S 0).mem.length
 mem:∀(id:Nat) o,t.mem[id]?=some o->∀j∈o.refs,zb6 S n listed j/\∀i,i<=n->id<(S i).mem.length->j<(S i).mem.length
end
section
variable {call:zac} {N:Nat} {ops:Array Oper} {xs:List XO} {n:Nat} {s0 sF:St} {S:Nat->St} {sp:Nat->Bool}
theorem ya5{x:XOp}(hc:zcx x=true){s s':St}{r:AV}(h:zag call s x=some (r,s')):∃new,s'={ s with mem:=s.mem++new }:=by
 cases x with
 |alloc zs=>cases h;exact⟨_,rfl⟩
 |allocB off zs=>cases h;exact⟨_,rfl⟩
 |boxB off n y=>
  simp only[zag]at h
  split at h
  ·split at h
   ·split at h
    ·cases h;exact⟨_,rfl⟩
    ·cases h
   ·cases h
  ·cases h
 |box n y=>
  simp only[zag,xad]at h
  obtain⟨cs,_,h⟩:=h
  cases h;exact⟨_,rfl⟩
 |buildSlice sz zs len ps=>
  simp only[zag,xad]at h
  obtain⟨cs,_,h⟩:=h
  cases h;exact⟨_,rfl⟩
 |makeSlice sz bytes zs l c=>
  simp only[zag]at h
  split at h
  ·split at h
   ·cases h;exact⟨_,rfl⟩
   ·cases h
  ·cases h
 |appendC sz bytes y z=>
  simp only[zag,zl7]at h
  split at h
  ·split at h
   ·split at h
    ·cases h;exact⟨[],by simp⟩
    ·split at h
     ·cases h;exact⟨_,rfl⟩
     ·cases h
   ·cases h
  ·cases h
 |makeMap hint=>
  simp only[zag]at h
  split at h
  ·cases h;exact⟨_,rfl⟩
  ·split at h
   ·cases h;exact⟨_,rfl⟩
   ·cases h
 |call mode fn l=>
  cases mode with
  |own=>
   simp only[zag,zbk]at h
   split at h
   ·cases h
   ·split at h
    ·cases h
    ·split at h
     ·cases h;exact⟨_,rfl⟩
     ·cases h
  |look=>
   simp only[zag,zbg]at h
   split at h
   ·cases h
   ·split at h
    ·cases h;exact⟨_,rfl⟩
    ·cases h
  |view=>cases hc
  |share=>cases hc
  |peek=>cases hc
  |touch=>cases hc
  |whole=>cases hc
 |_=>cases hc
theorem z24{x:XO}(hc:(zcm x.op||zcx x.op)=true){s s':St}(h:za9 call s x=some s'):∃new v,s'=({ s with mem:=s.mem++new }:St).bind x.dst v:=by
 have nil:∀(u:St),({ u with mem:=u.mem++[] }:St)=u:=fun u=>by cases u;simp
 rcases zis h with⟨v,s1,hx,rfl,hg⟩|⟨rfl,u,b,hg,hcc⟩
 ·by_cases hcalm:zcm x.op=true
  ·obtain⟨rfl,_,_⟩:=zoa (K:=fun _=>True) hcalm (t:=s) ⟨fun _ _=>rfl,fun _ _ _ _ _ _=>trivial⟩ (fun _ _=>rfl) (fun _ _ _ _=>trivial) hx
   exact⟨[],v,by rw[nil]⟩
  ·have hmake:zcx x.op=true:=by simpa [hcalm]using hc
   obtain⟨new,rfl⟩:=ya5 hmake hx
   exact⟨new,v,rfl⟩
 ·exact⟨[],.tup [],by rw[nil]⟩
theorem Drawn.add(d:Drawn call P num N ops xs n s0 sF S sp){i:Nat}(hi:i<n){x:XO}(hx:xs[i]?=some x):∃new v,S (i+1)=({ S i with mem:=(S i).mem++new }:St).bind x.dst v:=z24 (d.quiet i x hi hx) (d.step i x hi hx)
theorem Drawn.at(d:Drawn call P num N ops xs n s0 sF S sp){i:Nat}(hi:i<n):∃x,xs[i]?=some x:=by
 have:i<xs.length:=by have:=d.hn;have:=d.len;omega
 exact⟨_,xaa this⟩
theorem Drawn.pre (d : Drawn call P num N ops xs n s0 sF S sp) (i : Nat) : ∀ j, i ≤ j → j ≤ n → (S i).mem.length ≤ (S j).mem.length ∧ (∀ id, id < (S i).mem.length → (S j).mem[id]? = (S i).mem[id]?) ∧ (S j).k = (S i).k := by
  intro j
  induction j with
  | zero => intro h _; have : i = 0 := by omega
            subst this; exact ⟨xap _, fun _ _ => rfl, rfl⟩
  | succ j ih =>
    intro hij hj
    by_cases hi : i = j + 1
    · subst hi; exact ⟨xap _, fun _ _ => rfl, rfl⟩
    · obtain ⟨h1, h2, h3⟩ := ih (by omega) (by omega)
      obtain ⟨x, hx⟩ := d.at (show j < n by omega)
      obtain ⟨new, v, he⟩ := d.add (show j < n by omega) hx
      rw [he, zeb, zl0]
      refine ⟨by simp; omega, fun id hid => ?_, h3⟩
      rw [xac (by omega)]
      exact h2 id hid
theorem Drawn.get (d : Drawn call P num N ops xs n s0 sF S sp) (t : Nat) (i : Nat) : ∀ j, i ≤ j → j ≤ n → (∀ (k : Nat) x, i ≤ k → k < j → xs[k]? = some x → x.dst ≠ some t) → (S j).env.get t = (S i).env.get t := by
  intro j
  induction j with
  | zero => intro hij _ _; have : i = 0 := by omega
            subst this; rfl
  | succ j ih =>
    intro hij hj h
    by_cases hi : i = j + 1
    · subst hi; rfl
    · obtain ⟨x, hx⟩ := d.at (show j < n by omega)
      obtain ⟨new, v, he⟩ := d.add (show j < n by omega) hx
      rw [he, zgp, if_neg (h j _ (by omega) (by omega) hx)]
      exact ih (by omega) (by omega) fun k x h1 h2 h3 => h k x h1 (by omega) h3
theorem zi1{listed:Array Bool}{i j:Nat}(h:i∈Region.ready .any ops listed)(hw:Region.waitsFor .any ops i j=true):listed.getD j false=true:=by
 obtain⟨_,o,ho,hall⟩:=mem_ready.1 h
 obtain⟨o',ho',e,he,hb,hon⟩:=Region.waitsFor_spec hw
 have:o'=o:=xau (ho'.symm.trans ho)
 subst this
 rw[<-hon]
 exact hall e he hb
theorem zkx{listed:Array Bool}{i:Nat}(h:listed.getD i false=true):listed.getD i true=true:=by
 rcases xa1 i listed.size with h'|h'
 ·simp[h']at h ⊢;exact h
 ·simp[Array.getElem?_eq_none h']at h
def zh9(M p len:Nat):List Nat:=(List.range M).map fun id=>if p<=id/\id<p+len then M+(id-p)else id
theorem zsm{M p len id:Nat}(h:id<M):(zh9 M p len)[id]?=some (if p<=id/\id<p+len then M+(id-p)else id):=by
 simp[zh9,h]
theorem zsn(M p len:Nat):(zh9 M p len).Nodup:=by
 unfold zh9
 refine List.pairwise_map.2 (List.Pairwise.imp_of_mem ?_ List.nodup_range)
 intro a b ha hb hab h
 have:=xa9.1 ha
 have:=xa9.1 hb
 split at h<;>split at h<;>omega
theorem z4h{M p len j:Nat}(hj:j<len)(hp:p+len<=M):place (zh9 M p len) (M+j)=some (p+j):=by
 refine zhg _ _ _ (zsn ..) ?_
 rw[zsm (by omega),if_pos ⟨by omega,by omega⟩]
 exact congrArg some (by omega)
theorem z4i{M p len id:Nat}(h:id<M)(hn:¬(p<=id/\id<p+len)):place (zh9 M p len) id=some id:=by
 refine zhg _ _ _ (zsn ..) ?_
 rw[zsm h,if_neg hn]
theorem Drawn.part_step(d:Drawn call P num N ops xs n s0 sF S sp)(hcall:zc3 num P call){listed:Array Bool}{t:St}(p:zlv xs n S listed t){i:Nat}(hi:i<n)(hr:i∈Region.ready .any ops listed){x:XO}(hx:xs[i]?=some x){o:Oper}(htr:∀fn l,x.op=.call .own fn l->zbm P num o.op=some (XOp.call .view fn l)){C:Cx}{a:Act}(hs:zas num C t a):
  ∃t1,za9 call t x=some t1/\∀D a',zas num D t1 a'->∃t2 E,E.w=D.w/\Later num t1.k D t1.mem a' E t2 a'/\zlv xs n S (listed.setIfInBounds i true) t2:=by
 have hun:listed.getD i true=false:=(mem_ready.1 hr).1
 have pre:=fun (i j:Nat) (h1:i<=j) (h2:j<=n)=>d.pre i j h1 h2
 have mono:∀i j,i<=j->j<=n->(S i).mem.length<=(S j).mem.length:=fun i j h1 h2=>(pre i j h1 h2).1
 let K:Nat->Prop:=fun id=>id<(S i).mem.length/\zb6 S n listed id
 have live0:∀id,id<(S 0).mem.length->zb6 S n listed id:=fun id h j hj h1 _=>by have:=mono 0 j (by omega) (by omega);omega
 have hAgree:zci K (S i).mem t.mem:=by
  have same:∀id,K id->t.mem[id]?=(S i).mem[id]?:=fun id ⟨h1,h2⟩=>by
   have:=mono i n (by omega) (xap _)
   rw[p.live id (by omega) h2]
   exact(pre i n (by omega) (xap _)).2.1 id h1
  refine⟨same,fun id o' hk ho' j hj=>?_⟩
  obtain⟨h1,h2⟩:=p.mem id o' (by rw[same id hk];exact ho') j hj
  exact⟨h2 i (by omega) hk.1,h1⟩
 have hreads:∀u∈x.reads,t.env.get u=(S i).env.get u/\In K ((S i).env.get u):=by
  intro u hu
  by_cases hw:∃(j:Nat) (y:XO),j<n/\xs[j]?=some y/\y.dst=some u
  ·obtain⟨j,y,hj,hy,hd⟩:=hw
   obtain⟨h3,h4⟩:=(d.one i j x y u hi hj hx hy hd).2 hu
   obtain⟨h5,h6⟩:=p.done j y u hj hy hd (zkx (zi1 hr h4))
   have h7:=d.get u (j+1) i (by omega) (by omega) fun k z h5 h6 h7=>by
    rcases(d.one k j z y u (by omega) hj h7 hy hd).1 with h|h
    ·omega
    ·exact h
   have h8:t.env.get u=(S i).env.get u:=h5.trans h7.symm
   refine⟨h8,fun id hid=>?_⟩
   rw[<-h8]at hid
   obtain⟨h9,h10⟩:=h6 id hid
   have:=mono (j+1) i (by omega) (by omega)
   exact⟨by omega,h9⟩
  ·have hno:∀(j:Nat) (y:XO),j<n->xs[j]?=some y->y.dst≠some u:=fun j y h1 h2 h3=>hw ⟨j,y,h1,h2,h3⟩
   obtain⟨h5,h6⟩:=p.not u fun j y h1 h2 h3=>absurd h3 (hno j y h1 h2)
   have h7:=d.get u 0 i (xcb _) (by omega) fun k z _ h6 h7=>hno k z (by omega) h7
   have h8:t.env.get u=(S i).env.get u:=h5.trans h7.symm
   refine⟨h8,fun id hid=>?_⟩
   rw[<-h8]at hid
   have h9:=h6 id hid
   have:=mono 0 i (by omega) (by omega)
   exact⟨by omega,live0 id h9⟩
 have hb:∀fn l as r mc,x.op=.call .own fn l->(l.map (S i).env.ev).mapM (frz (S i).mem)=some as->call fn as []=some (r,mc)->(∀id∈r.refs,id<mc.length)/\∀o∈mc,∀id∈o.refs,id<mc.length:=by
  intro fn l as r mc hop has hc
  have hsub:∀u∈l.flatMap za8,u∈x.reads:=fun u hu=>xaj.2 (.inr (xaj.2 (.inl (by rw[hop];exact hu))))
  have hin:InL K (l.map (S i).env.ev):=fun y hy=>by
   obtain⟨q,hq,rfl⟩:=xbd.1 hy
   exact zmf fun u hu=>(hreads u (hsub u (xa2.2 ⟨q,hq,hu⟩))).2
  refine z2s hcall hs (op:=o.op) (l:=l) (fn:=fn) (htr fn l hop) (as:=as) ?_ hc
  rw[zg8 (s:=(S i).env) (t:=t.env) fun u hu=>(hreads u (hsub u hu)).1,zhb _ fun y hy=>zrb hAgree y (hin y hy)]
  exact has
 obtain⟨len,val,new,hmk,hS,ht1⟩:=z2m (d.quiet i x hi hx) hAgree (fun u hu=>(hreads u hu).1) (fun u hu=>(hreads u hu).2) hb (d.step i x hi hx)
 refine⟨_,ht1,fun D a' hD=>?_⟩
 have hlen:=p.len
 rw[hlen]at hD ⊢
 generalize hM:(S n).mem.length=M at hD hlen ⊢
 have hpos1:(S (i+1)).mem.length=(S i).mem.length+len:=by rw[hS,zeb];simp[hmk.size]
 have hpM:(S i).mem.length+len<=M:=by rw[<-hpos1,<-hM];exact mono (i+1) n (by omega) (xap _)
 generalize hl:zh9 M (S i).mem.length len=l
 have hlget:∀id,id<M->l[id]?=some (if (S i).mem.length<=id/\id<(S i).mem.length+len then M+(id-(S i).mem.length)else id):=fun id h=>by rw[<-hl];exact zsm h
 have hllen:l.length=M:=by rw[<-hl];simp[zh9]
 have hlnd:l.Nodup:=by rw[<-hl];exact zsn ..
 generalize hf:place l=f
 have hf1:∀j,j<len->f (M+j)=some ((S i).mem.length+j):=fun j hj=>by rw[<-hf,<-hl];exact z4h hj hpM
 have hf2:∀id,id<M->¬((S i).mem.length<=id/\id<(S i).mem.length+len)->f id=some id:=fun id h1 h2=>by rw[<-hf,<-hl];exact z4i h1 h2
 have hnr:∀id,zb6 S n listed id->¬((S i).mem.length<=id/\id<(S i).mem.length+len):=fun id h ⟨h1,h2⟩=>by
  have:=h i hi h1 (by omega)
  rw[hun]at this;cases this
 have hf3:∀id,zb6 S n listed id->id<M->f id=some id:=fun id h1 h2=>hf2 id h2 (hnr id h1)
 have hiM:(S i).mem.length<=M:=by omega
 obtain⟨hv,hn⟩:=hmk.ren M (S i).mem.length f hf1 fun id hk=>hf3 id hk.2 (by have:=hk.1;omega)
 have h0i:(S 0).mem.length<=(S i).mem.length:=mono 0 i (by omega) (by omega)
 have hk0:=p.k0
 have hkt:=p.k
 have ht1k:(({ t with mem:=t.mem++new M }:St).bind x.dst (val M)).k=(S 0).k:=by rw[zl0];exact hkt
 have hlat:=z2v hD hlnd (fun j hj=>by
  rw[ht1k]at hj
  rw[hlget j (by omega),if_neg (by omega)]) (by rw[ht1k,hllen];omega)
 rw[hf]at hlat
 refine⟨_,D.pick l,rfl,hlat,?_⟩
 have hset:∀j,j≠i->(listed.setIfInBounds i true).getD j true=listed.getD j true:=fun j hj=>getD_set_ne true (Ne.symm hj)
 have hseti:(listed.setIfInBounds i true).getD i true=true:=by
  rw[xbn,Array.getElem?_setIfInBounds]
  split<;>(try split)<;>simp_all
 have up1:∀id,zb6 S n listed id->zb6 S n (listed.setIfInBounds i true) id:=fun id h j hj h1 h2=>by
  by_cases hji:j=i
  ·subst hji;exact hseti
  ·rw[hset j hji];exact h j hj h1 h2
 have up2:∀id,(S i).mem.length<=id->id<(S i).mem.length+len->zb6 S n (listed.setIfInBounds i true) id:=fun id h1 h2 j hj h3 h4=>by
  by_cases hji:j=i
  ·subst hji;exact hseti
  ·exfalso
   rcases xa1 j i with h|h
   ·have:=mono (j+1) i (by omega) (by omega);omega
   ·have:=mono (i+1) j (by omega) (by omega);omega
 have down:∀id,zb6 S n (listed.setIfInBounds i true) id->¬((S i).mem.length<=id/\id<(S i).mem.length+len)->zb6 S n listed id:=fun id h hno j hj h1 h2=>by
  by_cases hji:j=i
  ·subst hji;exact absurd ⟨h1,by omega⟩ hno
  ·rw[<-hset j hji];exact h j hj h1 h2
 have hnewM:(new M).length=len:=hmk.size M
 have get1:∀id,id<M->¬((S i).mem.length<=id/\id<(S i).mem.length+len)->(Mem.pickAll (({ t with mem:=t.mem++new M }:St).bind x.dst (val M)).mem l)[id]?=t.mem[id]?:=by
  intro id hid hno
  rw[zeb,Mem.pickAll,xar,hlget id hid,if_neg hno]
  simp only[xao]
  rw[xac (by omega)]
  have hq:t.mem[id]?=some t.mem[id]:=xaa (by omega)
  rw[hq]
  simp only[xa0,xaf]
  rw[hf]
  refine zhe fun j hj=>?_
  obtain⟨h1,h2⟩:=p.mem id _ hq j hj
  exact hf3 j h1 (by have:=h2 n (xap _) (by omega);omega)
 have get2:∀j,j<len->(Mem.pickAll (({ t with mem:=t.mem++new M }:St).bind x.dst (val M)).mem l)[(S i).mem.length+j]?=(new (S i).mem.length)[j]?:=by
  intro j hj
  rw[zeb,Mem.pickAll,xar,hlget _ (by omega),if_pos ⟨by omega,by omega⟩]
  simp only[xao]
  rw[show M+((S i).mem.length+j-(S i).mem.length)=M+j by omega,xag (by omega),show M+j-t.mem.length=j by omega]
  rw[<-hn,xar,hf]
  have hq:(new M)[j]?=some (new M)[j]:=xaa (by omega)
  rw[hq];rfl
 have new_get:∀j,j<len->(new (S i).mem.length)[j]?=(S n).mem[(S i).mem.length+j]?:=by
  intro j hj
  rw[(pre (i+1) n (by omega) (xap _)).2.1 _ (by omega),hS,zeb,xag (by omega),show(S i).mem.length+j-(S i).mem.length=j by omega]
 have envKeep:∀u,(∀id∈(t.env.get u).refs,zb6 S n listed id/\id<M)->(t.env.get u).ren f=t.env.get u:=fun u h=>zmv fun id hid=>hf3 id (h id hid).1 (h id hid).2
 refine⟨?_,ht1k,hk0,fun id hid hlv=>?_,fun id hid hno=>?_,fun j y u hj hy hd hlj=>?_,fun u hu=>?_,fun id o' ho' j hj=>?_⟩
 ·show(Mem.pickAll _ l).length=_
  rw[Mem.pickAll,xam,hllen,hM]
 ·rw[hM]at hid
  by_cases hin:(S i).mem.length<=id/\id<(S i).mem.length+len
  ·show(Mem.pickAll _ l)[id]?=_
   have h1:=get2 (id-(S i).mem.length) (by omega)
   have h2:=new_get (id-(S i).mem.length) (by omega)
   rw[show(S i).mem.length+(id-(S i).mem.length)=id by omega]at h1 h2
   exact h1.trans h2
  ·exact(get1 id hid hin).trans (p.live id (by omega) (down id hlv hin))
 ·rw[hM]at hid
  have hin:¬((S i).mem.length<=id/\id<(S i).mem.length+len):=fun h=>hno (up2 id h.1 h.2)
  exact(get1 id hid hin).trans (p.dead id (by omega) fun h=>hno (up1 id h))
 ·have heq:∀v,(Env.ren f (({ t with mem:=t.mem++new M }:St).bind x.dst (val M)).env).get u=v↔(if x.dst=some u then val M else t.env.get u).ren f=v:=fun v=>by rw[zjh,zgp]
  show(Env.ren f _).get u=_/\_
  by_cases hji:j=i
  ·subst hji
   have:y=x:=xau (hy.symm.trans hx)
   subst this
   have h1:(Env.ren f (({ t with mem:=t.mem++new M }:St).bind y.dst (val M)).env).get u=val (S j).mem.length:=by
    rw[heq,if_pos hd];exact hv
   refine⟨h1.trans (by rw[hS,zgp,if_pos hd]),fun id hid=>?_⟩
   have hid':id∈(val (S j).mem.length).refs:=by rw[<-h1];exact hid
   rcases hmk.inV _ id hid' with h|h
   ·exact⟨up1 id h.2,by have:=h.1;omega⟩
   ·exact⟨up2 id h.1 h.2,by omega⟩
  ·have hne:x.dst≠some u:=by
    rcases(d.one i j x y u hi hj hx hy hd).1 with h|h
    ·exact absurd h.symm hji
    ·exact h
   obtain⟨h2,h3⟩:=p.done j y u hj hy hd (by rw[<-hset j hji];exact hlj)
   have h1:(Env.ren f (({ t with mem:=t.mem++new M }:St).bind x.dst (val M)).env).get u=t.env.get u:=by
    rw[heq,if_neg hne]
    exact envKeep u fun id hid=>⟨(h3 id hid).1,by have:=(h3 id hid).2;have:=mono (j+1) n (by omega) (xap _);omega⟩
   refine⟨h1.trans h2,fun id hid=>?_⟩
   have hid':id∈(t.env.get u).refs:=by rw[<-h1];exact hid
   exact⟨up1 id (h3 id hid').1,(h3 id hid').2⟩
 ·have hne:x.dst≠some u:=fun h=>by
   have:=hu i x hi hx h
   rw[hseti]at this;cases this
  obtain⟨h2,h3⟩:=p.not u fun j y h3 h4 h5=>by
   have hji:j≠i:=fun h=>by
    subst h
    have:y=x:=xau (h4.symm.trans hx)
    subst this
    exact hne h5
   rw[<-hset j hji]
   exact hu j y h3 h4 h5
  have h1:(Env.ren f (({ t with mem:=t.mem++new M }:St).bind x.dst (val M)).env).get u=t.env.get u:=by
   rw[zjh,zgp,if_neg hne]
   exact envKeep u fun id hid=>⟨live0 id (h3 id hid),by have:=h3 id hid;omega⟩
  exact⟨h1.trans h2,fun id hid=>h3 id (by rw[<-h1];exact hid)⟩
 ·have hid:id<M:=by
   have h1:id<(Mem.pickAll (({ t with mem:=t.mem++new M }:St).bind x.dst (val M)).mem l).length:=(xab.1 ho').1
   have h2:(Mem.pickAll (({ t with mem:=t.mem++new M }:St).bind x.dst (val M)).mem l).length=M:=by rw[Mem.pickAll,xam,hllen]
   omega
  by_cases hin:(S i).mem.length<=id/\id<(S i).mem.length+len
  ·have h1:=get2 (id-(S i).mem.length) (by omega)
   rw[show(S i).mem.length+(id-(S i).mem.length)=id by omega]at h1
   have hmem:o'∈new (S i).mem.length:=xah (h1.symm.trans ho')
   rcases hmk.inN _ o' hmem j hj with h|h
   ·exact⟨up1 j h.2,fun i' _ h2=>by have:=h.1;omega⟩
   ·refine⟨up2 j h.1 h.2,fun i' hi' h2=>?_⟩
    rcases xa1 i i' with h3|h3
    ·have:=mono (i+1) i' (by omega) hi';omega
    ·have:=mono i' i h3 (by omega);omega
  ·obtain⟨h1,h2⟩:=p.mem id o' ((get1 id hid hin).symm.trans ho') j hj
   exact⟨up1 j h1,h2⟩
theorem Drawn.ready_some(d:Drawn call P num N ops xs n s0 sF S sp){listed:Array Bool}(hsz:listed.size=ops.size)(hl:left n listed≠0):Region.ready .any ops listed≠[]:=by
 have hex:∃i,i<n/\listed.getD i true=false:=by
  obtain⟨i,hi,h⟩:=List.countP_pos_iff.1 (Nat.pos_of_ne_zero hl)
  exact⟨i,xa9.1 hi,by simpa using h⟩
 have:∃i,(i<n/\listed.getD i true=false)/\∀j,j<i->¬(j<n/\listed.getD j true=false):=by
  obtain⟨i,hi⟩:=hex
  induction i using Nat.strongRecOn with
  |_ i ih=>
   by_cases h:∃j,j<i/\(j<n/\listed.getD j true=false)
   ·obtain⟨j,h1,h2⟩:=h;exact ih j h1 h2
   ·exact⟨i,hi,fun j hj h'=>h ⟨j,hj,h'⟩⟩
 obtain⟨i,⟨hi,hl⟩,hmin⟩:=this
 have hlt:i<ops.size:=by have:=d.hn;omega
 have ho:ops[i]?=some ops[i]:=xbr hlt
 have:i∈Region.ready .any ops listed:=by
  refine mem_ready.2 ⟨hl,_,ho,fun e he hb=>?_⟩
  have h1:=d.low i _ hi ho e he hb
  have h2:listed.getD e.on true=true:=by
   cases h3:listed.getD e.on true with
   |true=>rfl
   |false=>exact absurd ⟨by omega,h3⟩ (hmin e.on h1)
  have h4:e.on<listed.size:=by omega
  simp[h4]at h2 ⊢;exact h2
 intro h
 rw[h]at this;cases this
theorem Drawn.all(d:Drawn call P num N ops xs n s0 sF S sp){listed:Array Bool}{t:St}(p:zlv xs n S listed t)(hall:∀i,i<n->listed.getD i true=true):t.mem=(S n).mem/\(∀u,t.env.get u=(S n).env.get u)/\t.k=(S n).k:=by
 refine⟨xbf fun id=>?_,fun u=>?_,p.k.trans (d.pre 0 n (xcb _) (xap _)).2.2.symm⟩
 ·rcases xa1 id (S n).mem.length with h|h
  ·exact p.live id h fun j hj _ _=>hall j hj
  ·rw[xaq h,xaq (by rw[p.len];exact h)]
 ·by_cases hw:∃(j:Nat) (y:XO),j<n/\xs[j]?=some y/\y.dst=some u
  ·obtain⟨j,y,hj,hy,hd⟩:=hw
   rw[(p.done j y u hj hy hd (hall j hj)).1]
   exact(d.get u (j+1) n (by omega) (xap _) fun k z h5 h6 h7=>by
    rcases(d.one k j z y u h6 hj h7 hy hd).1 with h|h
    ·omega
    ·exact h).symm
  ·rw[(p.not u fun j y h1 h2 h3=>absurd ⟨j,y,h1,h2,h3⟩ hw).1]
   exact(d.get u 0 n (xcb _) (xap _) fun k z _ h6 h7 h8=>hw ⟨k,z,h6,h7,h8⟩).symm
theorem Drawn.any{ro:Option Nat}(d:Drawn call P num N ops xs n s0 sF S fun _=>false)(htail:n=ops.size\/(n<ops.size/\Region.sinkB .any ops n=true/\Region.chainB .any ops n=true))(hseq:Region.seqB .any ops (ops.size-n) n (ziw ops.size n)=true)(hcall:zc3 num P call){Q:Exit->Act->World->Prop}{k:Nat}{C:Cx}{m:Mem}{a0:Act}(hN:N<=a0.tmps.size)(hQ:∀D a',Later num k C m a0 D sF a'->Q .normal a' D.w):
  ∀(c:Nat) (listed:Array Bool) (a:Act) (D:Cx) (t:St),left n listed=c->HeadInv .any ops n listed->zlv xs n S listed t->Later num k C m a0 D t a->wpAnyIn (fz ro) 0 P .any ops Q (c+(ops.size-n)) listed a D.w:=by
 intro c
 induction c with
 |zero=>
  intro listed a D t hl inv p hlat
  rw[xaw]
  have hall:∀i,i<n->listed.getD i true=true:=by
   intro i hi
   cases h:listed.getD i true with
   |true=>rfl
   |false=>
    have:=List.countP_eq_zero.1 hl i (xa9.2 hi)
    simp[h]at this
  have hhead:=z1e inv.size d.hn hall inv.tail
  have hdl:(ops.toList.drop n).length=ops.size-n:=by simp
  obtain⟨h1,h2,h3⟩:=d.all p hall
  have hSn:Later num k C m a0 D (S n) a:=
   ⟨⟨by rw[<-h1];exact hlat.rep.mem,fun u=>by rw[<-h2];exact hlat.rep.env u,by rw[<-h1,<-h3];exact hlat.rep.k⟩,by rw[<-h1];exact hlat.step,by rw[<-h3];exact hlat.k,hlat.size,hlat.marks⟩
  have htr:zf0 P num N ops (ops.toList.drop n)=(xs.drop n).map XO.wipe:=by
   refine zx1 _ _ (by simp[d.len]) fun i o hi=>?_
   rw[xbv]at hi
   obtain⟨x,hx,h⟩:=d.tr (n+i) o rfl (by simpa using hi)
   exact⟨x,by rw[xbv];exact hx,h⟩
  have hw:=zrl (ro:=ro) hcall (Q:=Q) (ops.toList.drop n) (xs.drop n) htr hSn.rep (by rw[hSn.size];exact hN) d.rest fun E a'' hl'=>hQ E a'' (hSn.trans (by rw[hSn.k]at hl';exact hl'))
  have:=zx8 (md:=.any) (Q':=Q) (ops.toList.drop n) n listed a D.w (fun j=>by simp[xbv]) (by rw[hdl,hhead];exact hseq) hw
  rwa [hdl]at this
 |succ c ih=>
  intro listed a D t hl inv p hlat
  rw[show c+1+(ops.size-n)=(c+(ops.size-n))+1 by omega]
  refine⟨fun h=>absurd h (d.ready_some inv.size (by omega)),fun i hi=>?_⟩
  obtain⟨hun,oi,hoi,_⟩:=mem_ready.1 hi
  have hisz:i<ops.size:=(xal.1 hoi).1
  have hin:i<n:=by
   rcases htail with h|⟨h1,h2,h3⟩
   ·omega
   ·rcases xa1 i n with h|h
    ·exact h
    ·obtain⟨j,hj,h4⟩:=List.countP_pos_iff.1 (show 0<left n listed by omega)
     exact absurd hi (tail_waits h2 h3 h1 inv _ j rfl (xa9.1 hj) (by simpa using h4) i h)
  obtain⟨x,hx,htr⟩:=d.tr i oi rfl hoi
  obtain⟨t1,h1,hnext⟩:=d.part_step hcall p hin hi hx (fun fn l hop=>by rw[(zsq htr).1];simp only[XO.wipe,hop,XOp.wipe]) hlat.rep
  unfold wpOpIn
  simp only[hoi]
  refine zms hcall htr hlat.rep (by rw[hlat.size];exact hN) h1 fun E a' hl' _=>?_
  obtain⟨t2,F,hw,hl2,p2⟩:=hnext E a' hl'.rep
  rw[<-hw]
  refine ih _ a' F t2 (by have:=zrk hin hun;omega) (inv.set hi hin) p2 ?_
  rw[hlat.k]at hl'
  rw[hl'.k]at hl2
  exact(hlat.trans hl').trans hl2
theorem Drawn.owner(d:Drawn call P num N ops xs n s0 sF S sp){id:Nat}(h0:(S 0).mem.length<=id):∀m,m<=n->id<(S m).mem.length->∃j,j<m/\(S j).mem.length<=id/\id<(S (j+1)).mem.length:=by
 intro m
 induction m with
 |zero=>intro _ h;omega
 |succ m ih=>
  intro hm h
  rcases xa1 id (S m).mem.length with h1|h1
  ·obtain⟨j,h2,h3⟩:=ih (by omega) h1
   exact⟨j,by omega,h3⟩
  ·exact⟨m,by omega,h1,h⟩
theorem Drawn.start(d:Drawn call P num N ops xs n s0 sF S sp){C:Cx}{a:Act}(hs:zas num C s0 a):zlv xs n S (Array.replicate ops.size false) { s0 with mem:=s0.mem++List.replicate ((S n).mem.length-s0.mem.length) AObj.dead }:=by
 have hpre:=d.pre 0 n (xcb _) (xap _)
 have hS0:=d.S0
 have hn:=hs.mem.len
 have hfalse:∀j,j<n->(Array.replicate ops.size false).getD j true=false:=fun j hj=>by
  have hlt:j<ops.size:=by have:=d.hn;omega
  simp[hlt]
 have live0:∀id,id<(S 0).mem.length->zb6 S n (Array.replicate ops.size false) id:=fun id h j hj h1 _=>by have:=(d.pre 0 j (by omega) (by omega)).1;omega
 have hb:(S 0).mem.length=s0.mem.length:=by rw[hS0]
 refine⟨by simp;omega,by rw[hS0],by rw[hS0];exact hs.k,fun id hid hlv=>?_,fun id hid hno=>?_,fun i x u hi hx hd hl=>?_,fun u _=>?_,fun id o ho j hj=>?_⟩
 ·rcases xa1 id (S 0).mem.length with h|h
  ·rw[hpre.2.1 id h,hS0]
   exact xac (by omega)
  ·obtain⟨j,hj,h1,h2⟩:=d.owner h n (xap _) hid
   have:=hlv j hj h1 h2
   rw[hfalse j hj]at this;cases this
 ·have h:(S 0).mem.length<=id:=Nat.le_of_not_lt fun h=>hno (live0 id h)
  show(s0.mem++_)[id]?=_
  rw[xag (by omega),List.getElem?_replicate,if_pos (by omega)]
 ·rw[hfalse i hi]at hl;cases hl
 ·rw[hS0]
  exact⟨rfl,fun id hid=>by have:=zkm (hs.env u) id hid;omega⟩
 ·have hsp:s0.mem[id]?=some o\/o=.dead:=by
   rcases xa1 id s0.mem.length with h|h
   ·left;rw[<-ho];exact(xac h).symm
   ·right
    have ho':(s0.mem++List.replicate ((S n).mem.length-s0.mem.length) AObj.dead)[id]?=some o:=ho
    rw[xag h]at ho'
    exact xby (xah ho')
  rcases hsp with h|rfl
  ·have hjl:=zw0 (hs.mem.obj id o h) j hj
   exact⟨live0 j (by omega),fun i hi _=>by have:=(d.pre 0 i (by omega) hi).1;omega⟩
  ·simp[AObj.refs]at hj
end
theorem z0b{call:zac}{N:Nat}{ops:Array Oper}{xs:List XO}{n:Nat}{s0 sF:St}(htr:zf0 P num N ops ops.toList=xs.map XO.wipe)(hlen:xs.length=ops.size)(h1:(xs.take n).all (fun x=>zcm x.op||zcx x.op)=true)
  (h2:((List.range n).all fun i=>(List.range n).all fun j=>match xs[i]?,xs[j]? with
  |some x,some y=>match y.dst with
   |none=>true
   |some d=>(i==j||x.dst != some d)&&(!x.reads.contains d||(decide (j<i)&&Region.waitsFor .any ops i j))
  |_,_=>false)=true)
  (h3:((List.range n).all fun i=>match ops[i]? with
  |some o=>o.after.all fun e=> !Region.binds .any e||decide (e.on<i)
  |none=>false)=true) (hn:n<=ops.size) (h:zbn call s0 xs=some sF):∃S,Drawn call P num N ops xs n s0 sF S fun _=>false:=by
 have hS:∀i,∃t,zbn call s0 (xs.take i)=some t/\zbn call t (xs.drop i)=some sF:=zv0 xs s0 sF h
 obtain⟨S,hS⟩:∃S:Nat->St,∀i,zbn call s0 (xs.take i)=some (S i)/\zbn call (S i) (xs.drop i)=some sF:=⟨fun i=>Classical.choose (hS i),fun i=>xcn (hS i)⟩
 have go:∀(i:Nat) x,xs[i]?=some x->za9 call (S i) x=some (S (i+1)):=by
  intro i x hx
  have e1:=(hS i).1
  have e2:=(hS (i+1)).1
  have:xs.take (i+1)=xs.take i++[x]:=by
   rw[xbg,hx];rfl
  rw[this]at e2
  exact zvz _ x s0 _ _ e1 e2
 refine⟨S,hlen,hn,fun i o _ ho=>zx0 ops.toList xs htr h i o (by simpa using ho),?_,?_,?_,?_,go,?_,fun i x _ hx=>go i x hx,?_⟩
 ·intro i x hi hx
  refine xai.1 h1 x (xah (i:=i) ?_)
  rw[xce,if_pos hi];exact hx
 ·intro i j x y d hi hj hx hy hyd
  have:=xai.1 (xai.1 h2 i (xa9.2 hi)) j (xa9.2 hj)
  simp only[hx,hy,hyd,xae,xbu,beq_iff_eq,bne_iff_ne,xcd,List.contains_eq_mem,decide_eq_false_iff_not,decide_eq_true_eq]at this
  refine⟨this.1,fun hr=>?_⟩
  rcases this.2 with h|h
  ·exact absurd hr h
  ·exact h
 ·intro i o hi ho e he hb
  have:=xai.1 h3 i (xa9.2 hi)
  simp only[ho]at this
  have:=xb9.1 this e he
  simpa [hb]using this
 ·have:=(hS 0).1
  simp[zbn]at this
  exact this.symm
 ·have:=(hS xs.length).2
  simp[zbn]at this
  exact this
 ·exact(hS n).2
def Cx.draw(C:Cx):Cx:={ C with w:={ C.w with drawn:=C.w.drawn+1 } }
theorem zq4(C:Cx):Tr some C C.draw:=⟨fun _ h=>h,fun _ _=>rfl,fun id j hid hj=>by cases hj;exact⟨hid,rfl,fun _ _ h=>h⟩⟩
theorem z0a{C:Cx}{m:Mem}(h:MRep num C m):MRep num C.draw m:=
 ⟨h.len,fun id o ho=>zh6 (zq4 C) rfl (fun _ hx=>hx) (h.obj id o ho),h.inj,h.imm,h.bd,num.up h.glo (zq4 C).imm (zq4 C).keep⟩
theorem zvs{C:Cx}{s:St}{a:Act}(hs:zas num C s a):Later num s.k C s.mem a C.draw s a:=by
 refine⟨⟨z0a hs.mem,hs.env.mono (zq4 C),hs.k⟩,⟨z0a hs.mem,rfl,rfl,rfl,xap _,fun _ _ _=>rfl,fun _ _ _ h=>h,fun _ h=>h,fun _ h=>.inl h,fun _ h=>.inr h,fun i _ o' ho hm=>⟨o',ho,hm,rfl⟩,hs.k⟩,rfl,rfl,fun _ _ h=>h⟩
theorem zxe(n m:Nat)(h:n<=m):left n (Array.replicate m false)=n:=by
 unfold left
 rw[List.countP_eq_length.2]
 ·simp
 ·intro i hi
  have:=xa9.1 hi
  have h':i<m:=by omega
  simp[h']
end
def Mem.upd(m:Mem)(u:Nat->Option AObj):Mem:=(List.range m.length).map fun id=>(u id).getD ((m[id]?).getD .dead)
theorem ze9(m:Mem)(u:Nat->Option AObj):(m.upd u).length=m.length:=by simp[Mem.upd]
theorem zpz(m:Mem)(u:Nat->Option AObj){id:Nat}(h:id<m.length):(m.upd u)[id]?=some ((u id).getD ((m[id]?).getD .dead)):=by
 unfold Mem.upd
 rw[xar,xbx h];rfl
theorem yik(m:Mem){u:Nat->Option AObj}{id:Nat}(h:u id=none):(m.upd u)[id]?=m[id]?:=by
 rcases xa1 id m.length with h1|h1
 ·rw[zpz m u h1,h,xcz,xaa h1];rfl
 ·rw[xaq (by rw[ze9];exact h1),xaq h1]
theorem zgm(m:Mem):m.upd (fun _=>none)=m:=xbf fun id=>yik m rfl
structure zlu (K:Nat->Prop) (len:Nat) (val:Nat->AV) (new:Nat->List AObj) (upd:Nat->Nat->Option AObj):Prop where
 made:zew K len val new
 inU:∀p id o,upd p id=some o->K id/\∀j∈o.refs,K j\/(p<=j/\j<p+len)
 renU:∀p q f,(∀j,j<len->f (p+j)=some (q+j))->(∀id,K id->f id=some id)->∀id,(upd p id).map (AObj.ren f)=upd q id
theorem zly{K:Nat->Prop}{len:Nat}{val:Nat->AV}{new:Nat->List AObj}(h:zew K len val new):zlu K len val new fun _ _=>none:=
 ⟨h,fun _ _ _ h=>(by cases h),fun _ _ _ _ _ _=>rfl⟩
theorem zml{K:Nat->Prop}{v:AV}(hv:In K v):zew K 0 (fun _=>v) (fun _=>[]):=
 ⟨fun _=>rfl,fun p id hid=>.inl (hv id hid),fun p o ho=>absurd ho (by simp),fun p q f _ h2=>⟨zmv fun id hid=>h2 id (hv id hid),rfl⟩⟩
theorem z4l{s:St}{l:List Nat}{mc:Mem}(back:Nat->Option Nat)(hlt:∀id∈l,id<s.mem.length)(hml:l.length<=mc.length)(hmv:∀id∈l,((s.mem[id]?).getD .dead).moved=false):
  (List.range (s.mem.length+(mc.length-l.length))).map (zd1 s l mc back some)=s.mem.upd (fun id=>(place l id).map fun i=>((mc[i]?).getD .dead).ren back)++(mc.drop l.length).map (AObj.ren back):=by
 apply xbf
 intro id
 rcases xa1 id s.mem.length with h|h
 ·rw[xar,xbx (by omega),xac (by rw[ze9];exact h),zpz _ _ h]
  simp only[xao,xaf]
  unfold zd1
  cases hp:place l id with
  |none=>simp only[h,if_true,xci,xcz];exact zmq _
  |some i=>
   simp only[xao,xa0]
   rw[hmv id (xah (zdp l id i hp)),zo4]
 ·rcases xa1 id (s.mem.length+(mc.length-l.length))with h'|h'
  ·rw[xar,xbx h',xag (by rw[ze9];exact h),ze9,xar,xbv]
   have hi:l.length+(id-s.mem.length)<mc.length:=by omega
   have hnone:place l id=none:=zw8 fun hm=>by have:=hlt _ hm;omega
   simp only[xao,xaa hi,xaf]
   unfold zd1
   simp only[hnone,if_neg (Nat.not_lt.2 h),xaa hi,xa0]
  ·rw[xaq (by simpa using h'),xaq (by simp[ze9];omega)]
theorem z4k{call:zac}{K:Nat->Prop}{s t:St}{fn:Nat}{as:List AV}(hm:zci K s.mem t.mem)(hk:InL K as){r:AV}{s':St}(h:zf7 call s fn as=some (r,s')):
  ∃(len:Nat) (val:Nat->AV) (new:Nat->List AObj) (upd:Nat->Nat->Option AObj),zlu K len val new upd/\r=val s.mem.length/\s'={ s with mem:=s.mem.upd (upd s.mem.length)++new s.mem.length }/\
   zf7 call t fn as=some (val t.mem.length,{ t with mem:=t.mem.upd (upd t.mem.length)++new t.mem.length }):=by
 have hord:=z2p hm hk
 obtain⟨_,hlts,_⟩:=zmt (k:=0) (roots:=AV.refs.refsL as) (m:=s.mem) (xcb _)
 obtain⟨_,hltt,_⟩:=zmt (k:=0) (roots:=AV.refs.refsL as) (m:=t.mem) (xcb _)
 unfold zf7 at h ⊢
 dsimp only at h ⊢
 rw[hord.1]at hltt ⊢
 rw[zw6 hm hord.2]
 have hK:=hord.2
 clear hord
 generalize order 0 (AV.refs.refsL as) s.mem=l at *
 cases hc:call fn (AV.ren.renL (place l) as) (s.mem.pickAll l)with
 |none=>simp[hc]at h
 |some rm=>
  obtain⟨rv,mc⟩:=rm
  simp only[hc]at h ⊢
  split at h
  case isFalse=>cases h
  rename_i hq
  obtain⟨hml,hall⟩:=hq
  rw[xae,xae,xae]at hall
  obtain⟨ha1,ha2,hc1,hc2⟩:=hall
  have ha1':=ha1
  rw[xai]at ha1'
  have hmv:∀id∈l,((s.mem[id]?).getD .dead).moved=false:=fun id hid=>by
   have:=ha1' id hid
   simp only[xae,xcd]at this
   exact this.2
  have ha1t:(l.all fun id=> !((t.mem[id]?).getD .dead).isFix&& !((t.mem[id]?).getD .dead).moved)=true:=by
   rw[xai]
   intro id hid
   rw[hm.same id (hK id hid)]
   exact ha1' id hid
  have hmvt:∀id∈l,((t.mem[id]?).getD .dead).moved=false:=fun id hid=>by rw[hm.same id (hK id hid)];exact hmv id hid
  have hb1:∀i∈rv.refs,i<mc.length:=fun i hi=>by simpa using xai.1 hc1 i hi
  have hb2:∀o∈mc,∀i∈o.refs,i<mc.length:=fun o ho i hi=>by
   have:=xai.1 hc2 o ho
   simpa using xai.1 this i hi
  rw[z4l _ hlts hml hmv]at h
  have hback:∀(p i id:Nat),i<mc.length->(if i<l.length then l[i]? else some (p+(i-l.length)))=some id->K id\/(p<=id/\id<p+(mc.length-l.length)):=by
   intro p i id hi he
   split at he
   ·exact .inl (hK id (xah he))
   ·cases he;right;omega
  have hbind:∀(p q:Nat) (f:Nat->Option Nat),(∀j,j<mc.length-l.length->f (p+j)=some (q+j))->(∀id,K id->f id=some id)->∀i,i<mc.length->((if i<l.length then l[i]? else some (p+(i-l.length))).bind f)=(if i<l.length then l[i]? else some (q+(i-l.length))):=by
   intro p q f h1 h2 i hi
   split
   ·rename_i hil
    rw[xaa hil,xbe]
    exact h2 _ (hK _ (xa8 hil))
   ·rw[xbe];exact h1 _ (by omega)
  have hat:∀i id,place l id=some i->∃o,mc[i]?=some o/\o∈mc/\K id:=fun i id hp=>by
   have hi:=zdp l id i hp
   have hil:=(xab.1 hi).1
   have:mc[i]?=some mc[i]:=xaa (by omega)
   exact⟨_,this,xah this,hK id (xah hi)⟩
  cases h
  refine⟨mc.length-l.length,fun p=>rv.ren fun i=>if i<l.length then l[i]? else some (p+(i-l.length)),fun p=>(mc.drop l.length).map (AObj.ren fun i=>if i<l.length then l[i]? else some (p+(i-l.length))),
   fun p id=>(place l id).map fun i=>((mc[i]?).getD .dead).ren fun i=>if i<l.length then l[i]? else some (p+(i-l.length)),⟨⟨fun p=>by simp,fun p id hid=>?_,fun p o ho id hid=>?_,fun p q f h1 h2=>⟨?_,?_⟩⟩,fun p id o ho=>?_,fun p q f h1 h2 id=>?_⟩,rfl,rfl,?_⟩
  ·obtain⟨i,hi,e⟩:=zk7 rv id hid
   exact hback p i id (hb1 i hi) e
  ·obtain⟨o',ho',rfl⟩:=xbd.1 ho
   obtain⟨i,hi,e⟩:=zrr o' id hid
   exact hback p i id (hb2 o' (List.mem_of_mem_drop ho') i hi) e
  ·rw[zmx]
   exact zjw rv fun i hi=>hbind p q f h1 h2 i (hb1 i hi)
  ·rw[xc3]
   refine xbk fun o ho=>?_
   simp only[Function.comp,zmp]
   exact zh3 o fun i hi=>hbind p q f h1 h2 i (hb2 o (List.mem_of_mem_drop ho) i hi)
  ·simp only[xad]at ho
   obtain⟨i,hi,rfl⟩:=ho
   obtain⟨o,ho,hmem,hKid⟩:=hat i id hi
   refine⟨hKid,fun j hj=>?_⟩
   rw[ho,xa0]at hj
   obtain⟨i',hi',e⟩:=zrr o j hj
   exact hback p i' j (hb2 o hmem i' hi') e
  ·cases hp:place l id with
   |none=>rfl
   |some i=>
    obtain⟨o,ho,hmem,hKid⟩:=hat i id hp
    simp only[xao,ho,xa0,zmp,xaf]
    exact zh3 o fun i hi=>hbind p q f h1 h2 i (hb2 o hmem i hi)
  ·rw[if_pos,z4l _ hltt hml hmvt]
   refine⟨hml,?_⟩
   rw[xae,xae,xae]
   exact⟨ha1t,ha2,hc1,hc2⟩
theorem zwl{s t:Mem}{agg:Option Nat}{x:AV}(h:∀id∈x.refs,t[id]?=s[id]?):loadAt t agg x=loadAt s agg x:=by
 unfold loadAt
 cases x with
 |optr id off=>simp only[h id (by simp[AV.refs])]
 |imm y=>cases y<;>rfl
 |tag b a y=>cases y<;>rfl
 |_=>rfl
theorem zm7{m:Mem}{id:Nat}{o:AObj}(h:id<m.length):m.upd (fun j=>if j=id then some o else none)=m.set id o:=by
 apply xbf
 intro j
 rcases xa1 j m.length with hj|hj
 ·rw[zpz _ _ hj]
  by_cases he:j=id
  ·subst he;rw[if_pos rfl,xcf h];rfl
  ·rw[if_neg he,xa6 (Ne.symm he),xaa hj];rfl
 ·rw[xaq (by rw[ze9];exact hj),xaq (by simpa using hj)]
theorem yhl{K:Nat->Prop}{s t:Mem}(hm:zci K s t){a:AV}{vs:List AV}(ha:In K a)(hv:InL K vs){m:Mem}(h:storeAt s a vs=some m):
  ∃id o,K id/\id<s.length/\True/\m=s.set id o/\(∀j∈o.refs,K j)/\∀m2:Mem,m2[id]?=s[id]?->storeAt m2 a vs=some (m2.set id o):=by
 unfold storeAt at h
 split at h
 ·rename_i id off
  have hK:=in_optr.1 ha
  have refs:∀{cs:List AV},InL K cs->∀j∈(AObj.rich cs).refs,K j:=fun {cs} hc j hj=>by
   simp only[AObj.refs]at hj
   obtain⟨x,hx,hj⟩:=refsL_mem.1 hj
   exact hc x hx j hj
  split at h
  ·rename_i cs mv ho
   have hlt:=(xab.1 ho).1
   split at h
   ·rename_i ys hys
    split at h
    ·rename_i hle
     cases h
     refine⟨id,.flat (setAll cs off ys) mv,hK,hlt,trivial,rfl,fun j hj=>by simp[AObj.refs]at hj,fun m2 h2=>?_⟩
     simp only[storeAt,h2,ho,hys,hle,if_true]
    ·cases h
   ·rename_i hys
    split at h
    ·rename_i hle
     cases h
     have hr:=refs (zoo vs (cs.map .imm) off (InL.mapImm cs fun x=>x) hv)
     refine⟨id,.rich (setAll (cs.map .imm) off vs),hK,hlt,trivial,rfl,hr,fun m2 h2=>?_⟩
     simp only[storeAt,h2,ho,hys,hle,and_self,if_true]
    ·cases h
  ·rename_i cs ho
   have hlt:=(xab.1 ho).1
   split at h
   ·rename_i hle
    cases h
    have hr:=refs (zoo vs cs off (zmg hm hK ho) hv)
    refine⟨id,.rich (setAll cs off vs),hK,hlt,trivial,rfl,hr,fun m2 h2=>?_⟩
    simp only[storeAt,h2,ho,hle,if_true]
   ·cases h
  ·cases h
 ·cases h
theorem zvt{K:Nat->Prop}{s t:Mem}(hm:zci K s t){sz:Nat}{x:AV}(hx:In K x):zbr t sz x=zbr s sz x:=by
 unfold zbr
 cases x with
 |osl id off z len cap=>simp only[hm.same id (in_osl.1 hx)]
 |imm y=>cases y<;>rfl
 |_=>rfl
theorem zwc{K:Nat->Prop}{s t:Mem}(hm:zci K s t){sz:Nat}{x:AV}(hx:In K x){n:Nat}{news:List AV}(h:zbr s sz x=some (n,news)):InL K news:=by
 unfold zbr at h
 split at h
 ·have hk:=in_osl.1 hx
  split at h
  ·rename_i cs hcs
   simp only[xad,xay]at h
   obtain⟨r,hr,_,rfl⟩:=h
   exact z1o (zmg hm hk hcs) hr
  ·simp only[xad,xay]at h
   obtain⟨r,hr,_,rfl⟩:=h
   exact InL.mapImm r fun x=>x
  ·cases h
 ·simp only[xad,xay]at h
  obtain⟨r,hr,_,rfl⟩:=h
  exact InL.mapImm r fun x=>x
 ·cases h
theorem z1n{K:Nat->Prop}{a b:List AV}(ha:InL K a)(hb:InL K b):InL K (a++b):=fun x hx=>by
 rcases xaj.1 hx with h|h
 ·exact ha x h
 ·exact hb x h
theorem zr4{K:Nat->Prop}{cs:List AV}(hc:InL K cs):∀j∈(AObj.rich cs).refs,K j:=fun j hj=>by
 simp only[AObj.refs]at hj
 obtain⟨x,hx,hj⟩:=refsL_mem.1 hj
 exact hc x hx j hj
theorem z6i{K:Nat->Prop}{s t:St}(hm:zci K s.mem t.mem){sz bytes:Nat}{a x:AV}(ha:In K a)(hx:In K x){r:AV}{s':St}(h:zb8 s sz bytes a x=some (r,s')):
  ∃(len:Nat) (val:Nat->AV) (new:Nat->List AObj) (upd:Nat->Nat->Option AObj),(zlu K len val new upd/\∀p q,upd p=upd q)/\r=val s.mem.length/\s'={ s with mem:=s.mem.upd (upd s.mem.length)++new s.mem.length }/\
   zb8 t sz bytes a x=some (val t.mem.length,{ t with mem:=t.mem.upd (upd t.mem.length)++new t.mem.length }):=by
 have one:∀(o:AObj) (val:Nat->AV),(∀j∈o.refs,K j)->(∀p,(val p).refs=[p])->(∀p q f,f p=some q->(val p).ren f=val q)->zew K 1 val fun _=>[o]:=fun o val h1 h2 h3=>zgu o h1 val h2 h3
 unfold zb8 at h ⊢
 rw[zvt hm hx]
 cases hel:zbr s.mem sz x with
 |none=>rw[hel]at h;cases h
 |some nn=>
  obtain⟨n,news⟩:=nn
  have hnews:=zwc hm hx hel
  simp only[hel]at h ⊢
  split at h
  ·cases h
  ·rename_i hn0
   rw[if_neg hn0]
   split at h
   ·split at h
    ·rename_i hb
     simp only[fresh,xaf,xay]at h
     obtain⟨rfl,rfl⟩:=h
     refine⟨1,fun id=>.osl id 0 sz n none,fun _=>[.rich news],fun _ _=>none,⟨zly (one _ _ (zr4 hnews) (fun _=>rfl) fun p q f hf=>by simp[AV.ren,hf]),fun _ _=>rfl⟩,rfl,by rw[zgm],?_⟩
     simp only[if_pos hb,fresh,zgm]
    ·cases h
   ·rename_i id sz' l
    have hid:=in_osl.1 ha
    rw[zvt hm ha]
    split at h
    ·rename_i hsz
     split at h
     ·rename_i z old hold
      have hold':=zwc hm ha hold
      split at h
      ·rename_i hb
       simp only[xaf,xay]at h
       obtain⟨rfl,rfl⟩:=h
       have hlt:id<s.mem.length:=by
        unfold zbr at hold
        dsimp only at hold
        refine Classical.byContradiction fun hge=>?_
        rw[xaq (by omega)]at hold
        cases hold
       have hltt:id<t.mem.length:=by
        have:=hm.same id hid
        rw[xaa hlt]at this
        exact(xab.1 this).1
       refine⟨1,fun p=>.osl p 0 sz (l+n) none,fun _=>[.rich (old++news)],fun _ j=>if j=id then some .dead else none,⟨⟨one _ _ (zr4 (z1n hold' hnews)) (fun _=>rfl) (fun p q f hf=>by simp[AV.ren,hf]),fun p j o ho=>?_,fun p q f h1 h2 j=>?_⟩,fun _ _=>rfl⟩,rfl,?_,?_⟩
       ·split at ho
        ·rename_i hj;cases ho;subst hj;exact⟨hid,fun i hi=>by simp[AObj.refs]at hi⟩
        ·cases ho
       ·split
        ·rfl
        ·rfl
       ·rw[zm7 hlt]
       ·simp only[hsz,if_true,if_pos hb,zm7 hltt]
      ·cases h
     ·cases h
    ·cases h
   ·rename_i id off sz' l c
    have hid:=in_osl.1 ha
    have hrich:zhh t.mem id=zhh s.mem id:=by unfold zhh;rw[hm.same id hid]
    rw[zvt hm ha,hrich]
    split at h
    ·rename_i hroom
     rw[if_pos hroom]
     split at h
     ·rename_i cs hcs
      split at h
      ·rename_i hle
       simp only[xaf,xay]at h
       obtain⟨rfl,rfl⟩:=h
       have hlt:id<s.mem.length:=by
        unfold zhh at hcs
        refine Classical.byContradiction fun hge=>?_
        rw[xaq (by omega)]at hcs
        cases hcs
       have hltt:id<t.mem.length:=by
        have:=hm.same id hid
        rw[xaa hlt]at this
        exact(xab.1 this).1
       have hcsK:InL K cs:=by
        unfold zhh at hcs
        split at hcs
        ·rename_i h1;cases hcs;exact zmg hm hid h1
        ·cases hcs;exact InL.mapImm _ fun x=>x
        ·cases hcs
       have hrr:=zr4 (zoo news cs (off+l*sz) hcsK hnews)
       refine⟨0,fun _=>.osl id off sz (l+n) (some c),fun _=>[],fun _ j=>if j=id then some (.rich (setAll cs (off+l*sz) news))else none,⟨⟨zml (in_osl.2 hid),fun p j o ho=>?_,fun p q f h1 h2 j=>?_⟩,fun _ _=>rfl⟩,rfl,?_,?_⟩
       ·split at ho
        ·rename_i hj;cases ho;subst hj;exact⟨hid,fun i hi=>.inl (hrr i hi)⟩
        ·cases ho
       ·split
        ·simp only[xao,xaf];exact zhe fun i hi=>h2 i (hrr i hi)
        ·rfl
       ·rw[xas,zm7 hlt]
       ·simp only[if_pos hle,xas,zm7 hltt]
      ·cases h
     ·cases h
    ·rename_i hroom
     rw[if_neg hroom]
     split at h
     ·rename_i hsz
      rw[if_pos hsz]
      split at h
      ·rename_i z old hold
       have hold':=zwc hm ha hold
       split at h
       ·rename_i hb
        simp only[fresh,xaf,xay]at h
        obtain⟨rfl,rfl⟩:=h
        refine⟨1,fun p=>.osl p 0 sz (l+n) none,fun _=>[.rich (old++news)],fun _ _=>none,⟨zly (one _ _ (zr4 (z1n hold' hnews)) (fun _=>rfl) fun p q f hf=>by simp[AV.ren,hf]),fun _ _=>rfl⟩,rfl,by rw[zgm],?_⟩
        simp only[if_pos hb,fresh,zgm]
       ·cases h
      ·cases h
     ·cases h
   ·cases h
theorem yej{call:zac}{K:Nat->Prop}{x:XOp}(hc:zcr x=true)(hw:x.strip=x){s t:St}(hm:zci K s.mem t.mem)(he:∀n∈x.reads,t.env.get n=s.env.get n)(hk:∀n∈x.reads,In K (s.env.get n)){r:AV}{s':St}(h:zag call s x=some (r,s')):
  ∃(len:Nat) (val:Nat->AV) (new:Nat->List AObj) (upd:Nat->Nat->Option AObj),zlu K len val new upd/\r=val s.mem.length/\s'={ s with mem:=s.mem.upd (upd s.mem.length)++new s.mem.length }/\
   zag call t x=some (val t.mem.length,{ t with mem:=t.mem.upd (upd t.mem.length)++new t.mem.length }):=by
 have e1:∀y,(∀n∈za8 y,n∈x.reads)->t.env.ev y=s.env.ev y:=fun y hy=>zji fun n hn=>he n (hy n hn)
 have k1:∀y,(∀n∈za8 y,n∈x.reads)->In K (s.env.ev y):=fun y hy=>zmf fun n hn=>hk n (hy n hn)
 unfold zcr at hc
 split at hc
 ·rename_i fn l
  have hin:InL K (l.map s.env.ev):=fun x hx=>by
   obtain⟨q,hq,rfl⟩:=xbd.1 hx
   exact k1 q fun n hn=>by simp only[XOp.reads];exact xa2.2 ⟨q,hq,hn⟩
  have hl:l.map t.env.ev=l.map s.env.ev:=zg8 fun n hn=>he n (by simp only[XOp.reads];exact hn)
  simp only[zag]at h ⊢
  rw[hl]
  exact z4k hm hin h
 ·rename_i g l w
  simp only[XOp.strip,XOp.callT.injEq,true_and]at hw
  subst hw
  have kg:=k1 g (by simp[XOp.reads];intros;simp[*])
  have hin:InL K (l.map s.env.ev):=fun x hx=>by
   obtain⟨q,hq,rfl⟩:=xbd.1 hx
   exact k1 q fun n hn=>by simp only[XOp.reads];exact xaj.2 (.inr (xa2.2 ⟨q,hq,hn⟩))
  have hl:l.map t.env.ev=l.map s.env.ev:=zg8 fun n hn=>he n (by simp only[XOp.reads];exact xaj.2 (.inr hn))
  simp only[zag]at h ⊢
  rw[e1 g (by simp[XOp.reads];intros;simp[*]),hl]
  generalize s.env.ev g=gv at h kg ⊢
  split at h
  ·rename_i fn caps
   split at h
   ·rename_i r0 s0 hx
    split at h
    ·rename_i hcond
     cases h
     simp only[List.all_nil,xcv,decide_eq_true_eq]at hcond
     obtain⟨len,val,new,upd,ha,rfl,rfl,ht⟩:=z4k hm (fun x hx=>by
      rcases xaj.1 hx with hx|hx
      ·exact hin x hx
      ·exact in_clo.1 kg x hx) hx
     refine⟨len,val,new,upd,ha,rfl,rfl,?_⟩
     have hl0:len=0:=by
      have:=ha.made.size s.mem.length
      simp only[xak,ze9]at hcond
      omega
     subst hl0
     have hnil:∀p,new p=[]:=fun p=>xat (ha.made.size p)
     simp only[ht,List.all_nil,xcv]
     rw[if_pos (by simp[ze9,hnil])]
    ·cases h
   ·cases h
  ·cases h
 ·rename_i n a y
  have ka:=k1 a (by simp[XOp.reads];intros;simp[*])
  have ky:=k1 y (by simp[XOp.reads];intros;simp[*])
  simp only[zag]at h ⊢
  rw[e1 a (by simp[XOp.reads];intros;simp[*]),e1 y (by simp[XOp.reads];intros;simp[*])]
  split at h
  ·rename_i cs hcs
   split at h
   ·rename_i hn
    simp only[xad,xay]at h
    obtain⟨m,hst,rfl,rfl⟩:=h
    obtain⟨id,o,hid,hlt,_,rfl,ho,hall⟩:=yhl hm ka (zme ky hcs) hst
    refine⟨0,fun _=>.junk,fun _=>[],fun _ j=>if j=id then some o else none,⟨zml zwd,fun p j o' ho'=>?_,fun p q f h1 h2 j=>?_⟩,rfl,?_,?_⟩
    ·split at ho'
     ·rename_i hj;cases ho';subst hj;exact⟨hid,fun i hi=>.inl (ho i hi)⟩
     ·cases ho'
    ·split
     ·simp only[xao,xaf];exact zhe fun i hi=>h2 i (ho i hi)
     ·rfl
    ·rw[xas,zm7 hlt]
    ·have hlt':id<t.mem.length:=by
      have:=hm.same id hid
      rw[xaa hlt]at this
      exact(xab.1 this).1
     simp only[hn,if_true,hall t.mem (hm.same id hid),xao,xas,zm7 hlt']
   ·cases h
  ·cases h
 ·rename_i sz bytes a y w
  simp only[XOp.strip,XOp.appendT.injEq,true_and]at hw
  subst hw
  have ka:=k1 a (by simp[XOp.reads];intros;simp[*])
  have ky:=k1 y (by simp[XOp.reads];intros;simp[*])
  simp only[zag]at h ⊢
  rw[e1 a (by simp[XOp.reads];intros;simp[*]),e1 y (by simp[XOp.reads];intros;simp[*])]
  split at h
  ·rename_i r0 s0 hx
   split at h
   ·cases h
    obtain⟨len,val,new,upd,⟨ha,_⟩,rfl,rfl,ht⟩:=z6i hm ka ky hx
    refine⟨len,val,new,upd,ha,rfl,rfl,?_⟩
    simp only[ht,List.all_nil,if_true]
   ·cases h
  ·cases h
 ·cases hc
theorem yhn(x:XOp):x.strip.strip=x.strip:=by cases x<;>rfl
theorem strip_reads(x:XOp):x.strip.reads=x.reads:=by cases x<;>rfl
theorem strip_needs(x:XOp):x.strip.needs=x.needs:=by cases x<;>rfl
theorem yho(x:XOp):zcr x.strip=zcr x:=by cases x<;>rfl
theorem strip_wipe(x:XOp):x.strip.wipe=x.wipe:=by cases x<;>rfl
theorem zxy{x:XOp}(h:(zcm x||zcx x)=true):x.strip=x:=by cases x<;>first|rfl|cases h
theorem XO.strip_wipe(x:XO):x.strip.wipe=x.wipe:=by simp only[XO.strip,XO.wipe,Go.EX.strip_wipe]
theorem XO.strip_reads(x:XO):x.strip.reads=x.reads:=by simp only[XO.strip,XO.reads,Go.EX.strip_reads,Go.EX.strip_needs]
theorem yei{call:zac}{x:XOp}{s:St}{r:AV×St}(h:zag call s x=some r):zag call s x.strip=some r:=by
 cases x with
 |callT f l w=>
  simp only[XOp.strip,zag]at h ⊢
  split at h
  ·split at h
   ·split at h
    ·rename_i hx hcond
     rw[xae]at hcond
     cases h
     simp only[hcond.1,List.all_nil,xcv,if_true]
    ·cases h
   ·cases h
  ·cases h
 |appendT sz b a x w=>
  simp only[XOp.strip,zag]at h ⊢
  split at h
  ·split at h
   ·rename_i hx _
    cases h
    simp only[List.all_nil,if_true]
   ·cases h
  ·cases h
 |_=>exact h
theorem z2l{call:zac}{K:Nat->Prop}{x:XO}(hc:(zcm x.op||zcx x.op||zcr x.op)=true){s t:St}(hm:zci K s.mem t.mem)(he:∀n∈x.reads,t.env.get n=s.env.get n)(hk:∀n∈x.reads,In K (s.env.get n))
  (hb:∀fn l as r mc,x.op=.call .own fn l->(l.map s.env.ev).mapM (frz s.mem)=some as->call fn as []=some (r,mc)->(∀id∈r.refs,id<mc.length)/\∀o∈mc,∀id∈o.refs,id<mc.length) {s':St} (h:za9 call s x=some s'):
  ∃(len:Nat) (val:Nat->AV) (new:Nat->List AObj) (upd:Nat->Nat->Option AObj),zlu K len val new upd/\(zcr x.op=false->upd=fun _ _=>none)/\s'=({ s with mem:=s.mem.upd (upd s.mem.length)++new s.mem.length }:St).bind x.dst (val s.mem.length)/\
   za9 call t x.strip=some (({ t with mem:=t.mem.upd (upd t.mem.length)++new t.mem.length }:St).bind x.dst (val t.mem.length)):=by
 have r1:∀n∈x.op.strip.reads,n∈x.reads:=fun n hn=>xaj.2 (.inl (by rw[strip_reads]at hn;exact hn))
 have r3:∀u b,x.guard=some (u,b)->u∈x.reads:=fun u b hg=>xaj.2 (.inr (xaj.2 (.inr (by simp[hg]))))
 have nil:∀(u:St),({ u with mem:=u.mem.upd (fun _=>none)++[] }:St)=u:=fun u=>by rw[zgm,xas]
 by_cases hq:(zcm x.op||zcx x.op)=true
 ·have hxs:x.strip=x:=by cases x;simp only[XO.strip,zxy hq]
  rw[hxs]
  obtain⟨len,val,new,h1,h2,h3⟩:=z2m hq hm he hk hb h
  refine⟨len,val,new,fun _ _=>none,zly h1,fun _=>rfl,?_,?_⟩
  ·rw[zgm];exact h2
  ·rw[zgm];exact h3
 ·have htc:zcr x.op=true:=by simpa [hq]using hc
  have hg0:x.strip.guard=x.guard:=rfl
  have hd0:x.strip.dst=x.dst:=rfl
  rcases zis h with⟨v,s1,hx,rfl,hg⟩|⟨rfl,u,b,hg,hcc⟩
  ·obtain⟨len,val,new,upd,h1,rfl,rfl,h4⟩:=yej (x:=x.op.strip) (by rw[yho];exact htc) (yhn _) hm (fun n hn=>he n (r1 n hn)) (fun n hn=>hk n (r1 n hn)) (yei hx)
   refine⟨len,val,new,upd,h1,fun h=>absurd h (by rw[htc];decide),rfl,?_⟩
   have h4:zag call t x.strip.op=_:=h4
   unfold za9
   rw[hg0,hd0]
   rcases hg with hg|⟨u,b,hg,hcc⟩
   ·simp only[hg,h4,xao];cases x.dst<;>rfl
   ·have:t.env.get u=.imm (.val (.bool b)):=by rw[he u (r3 u b hg)];exact hcc
    simp only[hg,this,h4,xao,if_true];cases x.dst<;>rfl
  ·refine⟨0,fun _=>.tup [],fun _=>[],fun _ _=>none,zly (zml (in_tup.2 fun y hy=>by cases hy)),fun _=>rfl,by rw[nil],?_⟩
   rw[nil]
   unfold za9
   rw[hg0,hd0]
   rcases hcc with⟨c,hcc,hne⟩|hcc
   ·have:t.env.get u=.imm (.val (.bool c)):=by rw[he u (r3 u b hg)];exact hcc
    simp only[hg,this,hne,if_false]
    cases x.dst<;>rfl
   ·have:t.env.get u=.tup []:=by rw[he u (r3 u b hg)];exact hcc
    simp only[hg,this]
    cases x.dst<;>rfl
theorem zzf{call:zac}{x:XOp}(hc:zcm x=true)(hf:zl9 x=true){s:St}(m:Mem){r:AV}{s':St}(h:zag call s x=some (r,s')):s'=s/\zag call { s with mem:=m } x=some (r,{ s with mem:=m }):=by
 have hmap:∀{α:Type} (o:Option α) (f:α->AV),o.map (fun v=>(f v,s))=some (r,s')->s'=s/\o.map (fun v=>(f v,({ s with mem:=m }:St)))=some (r,{ s with mem:=m }):=by
  intro α o f ho
  cases o with
  |none=>cases ho
  |some v=>cases ho;exact⟨rfl,rfl⟩
 cases x<;>first|(cases hf;done)|(cases hc;done)|skip
 all_goals
  simp only[zag]at h ⊢
  first
  |exact hmap _ _ h
  |(cases h;done)
  |(cases h;exact⟨rfl,rfl⟩)
  |(revert h;split<;>intro h<;>first|(cases h;done)|(cases h;exact⟨rfl,rfl⟩)|exact hmap _ _ h|(revert h;split<;>intro h<;>first|(cases h;done)|(cases h;exact⟨rfl,rfl⟩)|exact hmap _ _ h|(revert h;split<;>intro h<;>first|(cases h;done)|(cases h;exact⟨rfl,rfl⟩)|exact hmap _ _ h|(revert h;split<;>intro h<;>first|(cases h;done)|(cases h;exact⟨rfl,rfl⟩)))))
theorem z55(K:Nat->Prop):zci K [] []:=⟨fun _ _=>rfl,fun id o _ ho=>by simp at ho⟩
theorem ya7{call:zac}{K:Nat->Prop}{x:XOp}(hc:zcx x=true)(hf:zl9 x=true){s t:St}(he:∀n∈x.needs,t.env.get n=s.env.get n)(hk:∀n∈x.needs,In K (s.env.get n)){r:AV}{s':St}(h:zag call s x=some (r,s')):
  ∃(len:Nat) (val:Nat->AV) (new:Nat->List AObj),zew K len val new/\r=val s.mem.length/\s'={ s with mem:=s.mem++new s.mem.length }/\zag call t x=some (val t.mem.length,{ t with mem:=t.mem++new t.mem.length }):=by
 have e1:∀y,(∀n∈za8 y,n∈x.needs)->t.env.ev y=s.env.ev y:=fun y hy=>zji fun n hn=>he n (hy n hn)
 have k1:∀y,(∀n∈za8 y,n∈x.needs)->In K (s.env.ev y):=fun y hy=>zmf fun n hn=>hk n (hy n hn)
 cases x with
 |alloc zs=>
  cases h
  refine⟨1,fun id=>.optr id 0,fun _=>[.rich (imZ zs)],zgu _ (fun id hid=>?_) _ (fun _=>rfl) (fun p q f hf=>by simp[AV.ren,hf]),rfl,rfl,rfl⟩
  simp only[AObj.refs]at hid;obtain⟨x,hx,hid⟩:=refsL_mem.1 hid;exact zjl zs x hx id hid
 |box n y=>
  have ky:=k1 y (by simp[XOp.needs])
  simp only[zag]at h ⊢
  rw[e1 y (by simp[XOp.needs])]
  cases hcs:(s.env.ev y).cells with
  |none=>rw[hcs]at h;cases h
  |some cs=>
   rw[hcs]at h
   cases h
   refine⟨1,fun id=>.optr id 0,fun _=>[.rich cs],zgu _ (fun id hid=>?_) _ (fun _=>rfl) (fun p q f hf=>by simp[AV.ren,hf]),rfl,rfl,rfl⟩
   simp only[AObj.refs]at hid;obtain⟨x,hx,hid⟩:=refsL_mem.1 hid;exact zme ky hcs x hx id hid
 |allocB off zs=>
  cases h
  exact⟨1,fun id=>.optr id 0,fun p=>[.rich ((imZ zs).set off (.seat p off))],zrn _ off (zjl zs),rfl,rfl,rfl⟩
 |boxB off n y=>
  have ky:=k1 y (by simp[XOp.needs])
  simp only[zag]at h ⊢
  rw[e1 y (by simp[XOp.needs])]
  cases hcs:(s.env.ev y).cells with
  |none=>rw[hcs]at h;cases h
  |some cs=>
   rw[hcs]at h
   dsimp only at h ⊢
   split at h
   ·rename_i hln
    split at h
    ·rename_i hnil
     cases h
     exact⟨1,fun id=>.optr id 0,fun p=>[.rich (cs.set off (.seat p off))],zrn _ off (zme ky hcs),rfl,rfl,by rw[if_pos hln];rfl⟩
    ·cases h
   ·cases h
 |buildSlice sz zs len ps=>
  simp only[zag]at h ⊢
  rw[zvy (s:=s.env) (t:=t.env) (by simpa [XOp.needs]using he)]
  cases hf:zco (imZ (zaq len zs)) (ps.map fun (o,n,x)=>(o,n,s.env.ev x))with
  |none=>rw[hf]at h;cases h
  |some cs=>
   rw[hf]at h
   cases h
   refine⟨1,fun id=>.osl id 0 sz len (some len),fun _=>[zbp cs],zgu _ (z1q (zrf _ _ _ (zjl _) (fun p hp=>?_) hf)) _ (fun _=>rfl) (fun p q f hf=>by simp[AV.ren,hf]),rfl,rfl,rfl⟩
   obtain⟨q,hq,rfl⟩:=xbd.1 hp
   exact k1 q.2.2 fun n hn=>by simp only[XOp.needs];exact xa2.2 ⟨q,hq,hn⟩
 |makeSlice sz bytes zs l c=>
  simp only[zag]at h ⊢
  rw[e1 l (by simp[XOp.needs];intros;simp[*]),e1 c (by simp[XOp.needs];intros;simp[*])]
  split at h
  ·rename_i i j hi hj
   split at h
   ·rename_i hbd
    cases h
    refine⟨1,fun id=>.osl id 0 sz i.toNat (some j.toNat),fun _=>[.flat (zaq j.toNat (zs.map .val)) false],zgu _ (fun id hid=>by simp[AObj.refs]at hid) _ (fun _=>rfl) (fun p q f hf=>by simp[AV.ren,hf]),rfl,rfl,?_⟩
    simp only[hbd,and_self,if_true]
    rfl
   ·cases h
  ·cases h
 |makeMap hint=>
  have mk:zew K 1 (fun id=>.omap id) (fun _=>[.map []]):=zgu _ (fun id hid=>by simp[AObj.refs,AV.refs.refsL]at hid) _ (fun _=>rfl) (fun p q f hf=>by simp[AV.ren,hf])
  simp only[zag]at h ⊢
  cases hint with
  |none=>cases h;exact⟨1,_,_,mk,rfl,rfl,rfl⟩
  |some y=>
   simp only at h ⊢
   rw[e1 y (by simp[XOp.needs,zk9])]
   split at h
   ·rename_i i hi;cases h;exact⟨1,_,_,mk,rfl,rfl,by rfl⟩
   ·cases h
 |appendC sz bytes y z=>cases hf
 |call mode fn l=>cases hf
 |_=>cases hc
theorem yeh{call:zac}{K:Nat->Prop}{x:XO}(hc:(zcm x.op||zcx x.op)=true)(hf:zl9 x.op=true){s t:St}(he:∀n∈x.reads,t.env.get n=s.env.get n)(hk:∀n∈x.reads,In K (s.env.get n)){s':St}(h:za9 call s x=some s'):
  ∃(len:Nat) (val:Nat->AV) (new:Nat->List AObj),zew K len val new/\s'=({ s with mem:=s.mem++new s.mem.length }:St).bind x.dst (val s.mem.length)/\za9 call t x=some (({ t with mem:=t.mem++new t.mem.length }:St).bind x.dst (val t.mem.length)):=by
 have r1:∀n∈x.op.reads,n∈x.reads:=fun n hn=>xaj.2 (.inl hn)
 have r2:∀n∈x.op.needs,n∈x.reads:=fun n hn=>xaj.2 (.inr (xaj.2 (.inl hn)))
 have r3:∀u b,x.guard=some (u,b)->u∈x.reads:=fun u b hg=>xaj.2 (.inr (xaj.2 (.inr (by simp[hg]))))
 have nil:∀(u:St),({ u with mem:=u.mem++[] }:St)=u:=fun u=>by cases u;simp
 rcases zis h with⟨v,s1,hx,rfl,hg⟩|⟨rfl,u,b,hg,hcc⟩
 ·have hop:∃(len:Nat) (val:Nat->AV) (new:Nat->List AObj),zew K len val new/\v=val s.mem.length/\s1={ s with mem:=s.mem++new s.mem.length }/\zag call t x.op=some (val t.mem.length,{ t with mem:=t.mem++new t.mem.length }):=by
   by_cases hcalm:zcm x.op=true
   ·obtain⟨rfl,h1⟩:=zzf hcalm hf [] hx
    obtain⟨_,h2,h3⟩:=zoa (K:=K) hcalm (s:={ s1 with mem:=[] }) (t:={ t with mem:=[] }) (z55 K) (fun n hn=>he n (r1 n hn)) (fun n hn=>hk n (r1 n hn)) h1
    obtain⟨_,h4⟩:=zzf hcalm hf t.mem h2
    refine⟨0,fun _=>v,fun _=>[],zml h3,rfl,(nil _).symm,?_⟩
    rw[nil]
    exact h4
   ·have hmake:zcx x.op=true:=by simpa [hcalm]using hc
    exact ya7 hmake hf (fun n hn=>he n (r2 n hn)) (fun n hn=>hk n (r2 n hn)) hx
  obtain⟨len,val,new,h1,rfl,rfl,h4⟩:=hop
  refine⟨len,val,new,h1,rfl,?_⟩
  unfold za9
  rcases hg with hg|⟨u,b,hg,hcc⟩
  ·simp only[hg,h4,xao];cases x.dst<;>rfl
  ·have:t.env.get u=.imm (.val (.bool b)):=by rw[he u (r3 u b hg)];exact hcc
   simp only[hg,this,h4,xao,if_true];cases x.dst<;>rfl
 ·refine⟨0,fun _=>.tup [],fun _=>[],zml (in_tup.2 fun y hy=>by cases hy),by rw[nil],?_⟩
  unfold za9
  rcases hcc with⟨c,hcc,hne⟩|hcc
  ·have:t.env.get u=.imm (.val (.bool c)):=by rw[he u (r3 u b hg)];exact hcc
   simp only[hg,this,hne,if_false,nil]
   cases x.dst<;>rfl
  ·have:t.env.get u=.tup []:=by rw[he u (r3 u b hg)];exact hcc
   simp only[hg,this,nil]
   cases x.dst<;>rfl
def zdi(xs:List XO)(i:Nat):Prop:=∃x,xs[i]?=some x/\zcr x.op=true
structure DrawnT (call:zac) (P:Program) (num:Names) (N:Nat) (ops:Array Oper) (xs:List XO) (n:Nat) (s0 sF:St) (S:Nat->St):Prop where
 len:xs.length=ops.size
 hn:n<=ops.size
 tr:∀(i:Nat) o,ops[i]?=some o->∃x:XO,xs[i]?=some x/\zia P num N ops o=some x.wipe
 quiet:∀(i:Nat) x,i<n->xs[i]?=some x->(zcm x.op||zcx x.op||zcr x.op)=true
 one:∀(i j:Nat) x y d,i<n->j<n->xs[i]?=some x->xs[j]?=some y->y.dst=some d->(i=j\/x.dst≠some d)/\(d∈x.reads->j<i/\Region.waitsFor .any ops i j=true)
 low:∀(i:Nat) o,i<n->ops[i]?=some o->∀e∈o.after,Region.binds .any e=true->e.on<i
 ord:∀(i j:Nat) x y,i<n->j<n->i≠j->xs[i]?=some x->xs[j]?=some y->zcr x.op=true->(j<i/\zid ops 12 i j=true)\/(i<j/\zid ops 12 j i=true)\/(zcr y.op=false/\zl9 y.op=true)\/
  (j<i/\zjz x.op y.op=true/\∀k z,j<k->k<i->xs[k]?=some z->zcm z.op=true\/(zcx z.op=true/\x.guard=none/\x.op.strict=true))
 S0:S 0=s0
 step:∀(i:Nat) x,i<n->xs[i]?=some x->za9 call (S i) x=some (S (i+1))
 rest:zbn call (S n) (xs.drop n)=some sF
section
variable {num:Names} {P:Program}
variable {call:zac} {N:Nat} {ops:Array Oper} {xs:List XO} {n:Nat} {s0 sF:St} {S:Nat->St}
structure zlw (xs:List XO) (n:Nat) (S:Nat->St) (listed:Array Bool) (t:St):Prop where
 len:t.mem.length=(S n).mem.length
 k:t.k=(S 0).k
 k0:(S 0).k<=(S 0).mem.length
 live:∀id q,q<=n->id<(S q).mem.length->zb6 S n listed id->(∀j,q<=j->j<n->zdi xs j->listed.getD j true=false)->(∀j,j<q->zdi xs j->listed.getD j true=true\/(S j).mem.length<=id)->t.mem[id]?=(S q).mem[id]?
 dead:∀id,id<(S n).mem.length->¬zb6 S n listed id->t.mem[id]?=some .dead
 done:∀(i:Nat) x u,i<n->xs[i]?=some x->x.dst=some u->listed.getD i true=true->t.env.get u=(S (i+1)).env.get u/\∀id∈(t.env.get u).refs,zb6 S n listed id/\id<(S (i+1)).mem.length
 not:∀u,(∀(i:Nat) x,i<n->xs[i]?=some x->x.dst=some u->listed.getD i true=false)->t.env.get u=(S 0).env.get u/\∀id∈(t.env.get u).refs,id<(S 0).mem.length
 mem:∀(id:Nat) o,t.mem[id]?=some o->∀j∈o.refs,zb6 S n listed j/\j<(S n).mem.length/\∀i,i<=n->id<(S i).mem.length->(∀τ,i<=τ->τ<n->zdi xs τ->listed.getD τ true=false)->j<(S i).mem.length
 hand:∀τ,τ<n->zdi xs τ->listed.getD τ true=true->∀id,id<(S τ).mem.length->(S (τ+1)).mem[id]?≠(S τ).mem[id]?->zb6 S n listed id
theorem zx5{listed:Array Bool}(inv:HeadInv .any ops n listed):∀(f i j:Nat),zid ops f i j=true->listed.getD i false=true->listed.getD j false=true
 |0,i,j,h,_=>by cases h
 |f+1,i,j,h,hl=>by
  have one:∀k,Region.waitsFor .any ops i k=true->listed.getD k false=true:=fun k hk=>by
   obtain⟨o,ho,e,he,hb,hon⟩:=Region.waitsFor_spec hk
   rw[<-hon]
   exact inv.closed i o ho hl e he hb
  simp only[zid,xbu]at h
  rcases h with h|h
  ·exact one j h
  ·obtain⟨k,_,hk⟩:=xcc.1 h
   simp only[xae]at hk
   exact zx5 inv f k j hk.2.2 (one k hk.2.1)
theorem z40{listed:Array Bool}(inv:HeadInv .any ops n listed){i:Nat}(hr:i∈Region.ready .any ops listed):∀(f j:Nat),zid ops f i j=true->listed.getD j true=true
 |0,j,h=>by cases h
 |f+1,j,h=>by
  simp only[zid,xbu]at h
  rcases h with h|h
  ·exact zkx (zi1 hr h)
  ·obtain⟨k,_,hk⟩:=xcc.1 h
   simp only[xae]at hk
   exact zkx (zx5 inv f k j hk.2.2 (zi1 hr hk.2.1))
theorem DrawnT.at(d:DrawnT call P num N ops xs n s0 sF S){i:Nat}(hi:i<n):∃x,xs[i]?=some x:=by
 have:i<xs.length:=by have:=d.hn;have:=d.len;omega
 exact⟨_,xaa this⟩
theorem zy1(m:Mem):zci (fun _=>True) m m:=⟨fun _ _=>rfl,fun _ _ _ _ _ _=>trivial⟩
theorem DrawnT.add(d:DrawnT call P num N ops xs n s0 sF S){i:Nat}(hi:i<n){x:XO}(hx:xs[i]?=some x):∃new v u,S (i+1)=({ S i with mem:=(S i).mem.upd u++new }:St).bind x.dst v/\(zcr x.op=false->u=fun _=>none):=by
 by_cases hq:(zcm x.op||zcx x.op)=true
 ·obtain⟨new,v,h⟩:=z24 hq (d.step i x hi hx)
  exact⟨new,v,fun _=>none,by rw[zgm];exact h,fun _=>rfl⟩
 ·have htc:zcr x.op=true:=by have:=d.quiet i x hi hx;simpa [hq]using this
  obtain⟨len,val,new,upd,_,_,h,_⟩:=z2l (K:=fun _=>True) (t:=S i) (d.quiet i x hi hx) (zy1 _) (fun _ _=>rfl) (fun _ _ _ _=>trivial) (fun fn l as r mc hop=>by rw[hop]at htc;cases htc) (d.step i x hi hx)
  exact⟨_,_,_,h,fun h=>absurd h (by rw[htc];decide)⟩
theorem DrawnT.pre (d : DrawnT call P num N ops xs n s0 sF S) (i : Nat) : ∀ j, i ≤ j → j ≤ n → (S i).mem.length ≤ (S j).mem.length ∧ (S j).k = (S i).k := by
  intro j
  induction j with
  | zero => intro h _; have : i = 0 := by omega
            subst this; exact ⟨xap _, rfl⟩
  | succ j ih =>
    intro hij hj
    by_cases hi : i = j + 1
    · subst hi; exact ⟨xap _, rfl⟩
    · obtain ⟨h1, h3⟩ := ih (by omega) (by omega)
      obtain ⟨x, hx⟩ := d.at (show j < n by omega)
      obtain ⟨new, v, u, he, _⟩ := d.add (show j < n by omega) hx
      rw [he, zeb, zl0]
      refine ⟨by simp [ze9]; omega, h3⟩
theorem DrawnT.keep (d : DrawnT call P num N ops xs n s0 sF S) {a : Nat} {id : Nat} (hid : id < (S a).mem.length) : ∀ q, a ≤ q → q ≤ n → (∀ j, a ≤ j → j < q → zdi xs j → (S (j + 1)).mem[id]? = (S j).mem[id]?) → (S q).mem[id]? = (S a).mem[id]? := by
  intro q
  induction q with
  | zero => intro h _ _; have : a = 0 := by omega
            subst this; rfl
  | succ q ih =>
    intro haq hq h
    by_cases ha : a = q + 1
    · subst ha; rfl
    · obtain ⟨x, hx⟩ := d.at (show q < n by omega)
      rw [← ih (by omega) (by omega) fun j h1 h2 => h j h1 (by omega)]
      by_cases ht : zcr x.op = true
      · exact h q (by omega) (by omega) ⟨x, hx, ht⟩
      · obtain ⟨new, v, u, he, hu⟩ := d.add (show q < n by omega) hx
        rw [he, zeb, hu (by simpa using ht), zgm]
        exact xac (by have := (d.pre a q (by omega) (by omega)).1; omega)
theorem DrawnT.get (d : DrawnT call P num N ops xs n s0 sF S) (t : Nat) (i : Nat) : ∀ j, i ≤ j → j ≤ n → (∀ (k : Nat) x, i ≤ k → k < j → xs[k]? = some x → x.dst ≠ some t) → (S j).env.get t = (S i).env.get t := by
  intro j
  induction j with
  | zero => intro hij _ _; have : i = 0 := by omega
            subst this; rfl
  | succ j ih =>
    intro hij hj h
    by_cases hi : i = j + 1
    · subst hi; rfl
    · obtain ⟨x, hx⟩ := d.at (show j < n by omega)
      obtain ⟨new, v, u, he, _⟩ := d.add (show j < n by omega) hx
      rw [he, zgp, if_neg (h j _ (by omega) (by omega) hx)]
      exact ih (by omega) (by omega) fun k x h1 h2 h3 => h k x h1 (by omega) h3
theorem DrawnT.still (d : DrawnT call P num N ops xs n s0 sF S) {a : Nat} : ∀ q, a ≤ q → q ≤ n → (∀ j z, a ≤ j → j < q → xs[j]? = some z → zcm z.op = true) → (S q).mem = (S a).mem := by
  intro q
  induction q with
  | zero => intro h _ _; have : a = 0 := by omega
            subst this; rfl
  | succ q ih =>
    intro haq hq h
    by_cases ha : a = q + 1
    · subst ha; rfl
    · obtain ⟨x, hx⟩ := d.at (show q < n by omega)
      rw [← ih (by omega) (by omega) fun j z h1 h2 => h j z h1 (by omega)]
      rcases zis (d.step q x (by omega) hx) with ⟨v, s1, hx1, he, _⟩ | ⟨he, _⟩
      · obtain ⟨rfl, _, _⟩ := zoa (K := fun _ => True) (h q x (by omega) (by omega) hx) (t := S q) (zy1 _) (fun _ _ => rfl) (fun _ _ _ _ => trivial) hx1
        rw [he, zeb]
      · rw [he, zeb]
theorem ygw{m m':Mem}{agg:Option Nat}{a:AV}(h:zpq m m' agg a=true):loadAt m' agg a=loadAt m agg a/\∀v,loadAt m agg a=some v->∀j∈v.refs,j<m.length:=by
 unfold zpq at h
 split at h
 ·rename_i x y hx hy
  rw[xae]at h
  refine⟨by rw[hx,hy,zy8 _ _ h.1],fun v hv j hj=>?_⟩
  rw[hx]at hv
  cases hv
  simpa using xai.1 h.2 j hj
 ·cases h
theorem yiq{call:zac}{x:XO}{y:XOp}(hw:zjz x.op y=true){s s':St}(h:za9 call s x=some s'):∃agg u,y=.load agg (.t u)/\loadAt s'.mem agg (s.env.get u)=loadAt s.mem agg (s.env.get u)/\(s'.mem.length=s.mem.length\/∀v,loadAt s.mem agg (s.env.get u)=some v->∀j∈v.refs,j<s.mem.length)/\(x.guard=none->x.op.strict=true->∀v,loadAt s.mem agg (s.env.get u)=some v->∀j∈v.refs,j<s.k):=by
 unfold zjz at hw
 split at hw
 ·rename_i agg u
  obtain⟨p,hp,hpw⟩:=xcc.1 hw
  rw[xae,beq_iff_eq]at hpw
  obtain⟨hp1,hp2⟩:=hpw
  have hpu:p.2=.t u:=by
   split at hp2
   ·rename_i v hv;rw[hv];rw[beq_iff_eq]at hp2;rw[hp2]
   ·cases hp2
  refine⟨agg,u,rfl,?_⟩
  rcases zis h with⟨v,s1,hx1,rfl,_⟩|⟨rfl,_⟩
  ·rw[zeb]
   have hsl:zpq s.mem s1.mem agg (s.env.get u)=true/\(x.op.strict=true->∀v,loadAt s.mem agg (s.env.get u)=some v->∀j∈v.refs,j<s.k):=by
    cases hop:x.op with
    |callT g l w=>
     have hpw:p∈w:=by rw[hop]at hp;exact hp
     rw[hop]at hx1
     simp only[zag]at hx1
     split at hx1
     ·split at hx1
      ·split at hx1
       ·rename_i hcond
        cases hx1
        rw[xae,decide_eq_true_eq,xai]at hcond
        have:=hcond.2 p hpw
        rw[hp1,hpu]at this
        exact⟨this,fun h=>by cases h⟩
       ·cases hx1
      ·cases hx1
     ·cases hx1
    |appendT sz bytes a b w=>
     have hpw:p∈w:=by rw[hop]at hp;exact hp
     rw[hop]at hx1
     simp only[zag]at hx1
     split at hx1
     ·split at hx1
      ·rename_i hcond
       cases hx1
       rw[xai]at hcond
       have:=hcond p hpw
       rw[hp1,hpu,xae]at this
       refine⟨this.1,fun _ v hv j hj=>?_⟩
       have h2:=this.2
       unfold z2k at h2
       rw[show s.env.ev (.t u)=s.env.get u from rfl,hv]at h2
       simpa using xai.1 h2 j hj
      ·cases hx1
     ·cases hx1
    |_=>rw[hop]at hp;simp[XOp.watch]at hp
   have:=ygw hsl.1
   exact⟨this.1,.inr this.2,fun _=>hsl.2⟩
  ·rename_i hgg
   obtain⟨w,b,hg,_⟩:=hgg
   rw[zeb];exact⟨rfl,.inl rfl,fun h=>by rw[hg]at h;cases h⟩
 ·cases hw
theorem yay{call:zac}{K:Nat->Prop}{x:XO}{agg:Option Nat}{u:Nat}(hop:x.op=.load agg (.t u)){s t:St}(he:∀n∈x.reads,t.env.get n=s.env.get n)(hl:loadAt t.mem agg (s.env.get u)=loadAt s.mem agg (s.env.get u))(hk:∀v,loadAt t.mem agg (s.env.get u)=some v->In K v){s':St}(h:za9 call s x=some s'):
  ∃v,In K v/\s'=s.bind x.dst v/\za9 call t x=some (t.bind x.dst v):=by
 have r3:∀u b,x.guard=some (u,b)->u∈x.reads:=fun u b hg=>xaj.2 (.inr (xaj.2 (.inr (by simp[hg]))))
 have ru:t.env.get u=s.env.get u:=he u (xaj.2 (.inl (by rw[hop];simp[XOp.reads,za8])))
 rcases zis h with⟨v,s1,hx,rfl,hg⟩|⟨rfl,w,b,hg,hcc⟩
 ·rw[hop]at hx
  simp only[zag,Env.ev,xad,xay]at hx
  obtain⟨v',hv',rfl,rfl⟩:=hx
  refine⟨v',hk v' (hl.trans hv'),rfl,?_⟩
  unfold za9
  have hx2:zag call t x.op=some (v',t):=by
   rw[hop]
   simp only[zag,Env.ev,ru,hl,hv',xao]
  rcases hg with hg|⟨w,b,hg,hcc⟩
  ·simp only[hg,hx2,xao];cases x.dst<;>rfl
  ·have:t.env.get w=.imm (.val (.bool b)):=by rw[he w (r3 w b hg)];exact hcc
   simp only[hg,this,hx2,xao,if_true];cases x.dst<;>rfl
 ·refine⟨.tup [],in_tup.2 (fun y hy=>by cases hy),rfl,?_⟩
  unfold za9
  rcases hcc with⟨c,hcc,hne⟩|hcc
  ·have:t.env.get w=.imm (.val (.bool c)):=by rw[he w (r3 w b hg)];exact hcc
   simp only[hg,this,hne,if_false]
   cases x.dst<;>rfl
  ·have:t.env.get w=.tup []:=by rw[he w (r3 w b hg)];exact hcc
   simp only[hg,this]
   cases x.dst<;>rfl
end
end Go.EX

