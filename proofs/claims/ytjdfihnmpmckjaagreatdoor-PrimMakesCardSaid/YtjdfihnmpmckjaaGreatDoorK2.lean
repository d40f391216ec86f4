import Derived.Test.YtjdfihnmpmckjaaGreatDoorK1
import GoSem.Dispatch
import Derived.Laws.Slices
import Derived.Laws.Strings
import Derived.Laws.MakeOwn
set_option linter.unusedVariables false
set_option linter.unusedSimpArgs false
namespace Go.EX
section
variable {num:Names} {P:Program}
structure zas (num:Names) (C:Cx) (s:St) (a:Act):Prop where
 mem:MRep num C s.mem
 env:ERep num C s.env a.tmps
 k:s.k<=s.mem.length
def zbe(num:Names)(P:Program)(op:Op)(ty:TypeId)(pos:String)(after:Array Edge)(a:Act)(C:Cx)(s:St)(x:AV)(s':St):Prop:=
 ∃v D,(∀dst g,(execOp a.eval ⟨dst,op,ty,pos,after,g⟩).run P C.w=.ok (.value v) D.w\/((execOp a.eval ⟨dst,op,ty,pos,after,g⟩).run P C.w=.ok .skip D.w/\v=undef))/\
  Step num s.k C s.mem D s'.mem/\ERep num D s'.env a.tmps/\ARep num D x v/\s'.k=s.k
variable {ty:TypeId} {pos:String} {after:Array Edge} {a:Act} {C:Cx} {s:St}
theorem zbj(hs:zas num C s a){op:Op}{v:Value}(h:∀dst g,(execOp a.eval ⟨dst,op,ty,pos,after,g⟩).run P C.w=.ok (.value v) C.w){x:AV}(hx:ARep num C x v):
  zbe num P op ty pos after a C s x s:=⟨v,C,fun dst g=>.inl (h dst g),.refl hs.mem hs.k,hs.env,hx,rfl⟩
theorem zba(hs:zas num C s a){x:Operand}{y:Src}(h:zah num x=some y):ARep num C (s.env.ev y) (a.eval x):=by
 cases x with
 |tmp t=>cases h;exact hs.env t
 |const v=>
  simp only[zah]at h
  split at h
  ·cases h;rename_i hv;exact .imm _ _ (.val v (by rw[<-zjs];exact hv))
  ·cases h
 |global g=>cases h
 |func f=>cases h;exact .clo f [] #[] rfl (fun j x u hx _=>by simp at hx)
theorem zbw{v u:Value}(h:ARep num C (.imm (.val v)) u):u=v:=by
 cases h with|imm _ _ h=>cases h with|val=>rfl
theorem zgj(hs:zas num C s a){x:Operand}{y:Src}(h:zah num x=some y){v:Value}(hv:s.env.ev y=.imm (.val v)):a.eval x=v:=by
 have:=zba hs h
 rw[hv]at this
 exact zbw this
theorem zh8{x:AV}{u:Value}(h:ARep num C x u){i:Int}(hi:zdd x=some i):∃k,u=.int k i/\x=.imm (.val (.int k i)):=by
 unfold zdd at hi
 split at hi
 ·rename_i k j
  cases hi
  exact⟨k,zbw h,rfl⟩
 ·cases hi
theorem zd7{t:TypeId}(h:known P t=true):∃i d,P.info? t=some i/\P.underlying t=some d/\P.cellsOf t=i.size/\P.bytesOf t=i.bytes:=by
 unfold known at h
 simp only[xae,xbm]at h
 obtain⟨⟨i,hi⟩,d,hd⟩:=h
 exact⟨i,d,hi,hd,by simp[Program.cellsOf,hi],by simp[Program.bytesOf,hi]⟩
theorem zgf{t:TypeId}{i:TypeInfo}(h:P.info? t=some i)(w:World):(sizeOf t).run P w=.ok i.size w:=by simp[sizeOf,typeInfo,h]
theorem z3v{t:TypeId}{d:TypeDesc}(h:P.underlying t=some d)(w:World):(isAgg t).run P w=.ok (zdt P t).isSome w:=by
 simp only[isAgg,zdt,h,Sem.run_bind,run_underlying h,Result.andThen_ok]
 cases d<;>rfl
theorem zpk{x:AV}{v:Value}(h:ARep num C x v){cs:List AV}(hc:x.cells=some cs):
  cs.length=v.cells.size/\(∀(j:Nat) u,v.cells[j]?=some u->u.oneCell'=true)/\∀(j:Nat) y u,cs[j]?=some y->v.cells[j]?=some u->ARep num C y u:=by
 have one:∀(y:AV) (u:Value),u.cells= #[u]->u.oneCell'=true->ARep num C y u->[y].length=u.cells.size/\(∀(j:Nat) u',u.cells[j]?=some u'->u'.oneCell'=true)/\∀(j:Nat) z u',[y][j]?=some z->u.cells[j]?=some u'->ARep num C z u':=by
  intro y u hu h1 hr
  rw[hu]
  refine⟨rfl,fun j u' hj=>?_,fun j z u' hz hj=>?_⟩
  ·cases j with
   |zero=>simp at hj;subst hj;exact h1
   |succ j=>simp at hj
  ·cases j with
   |zero=>simp at hj hz;subst hj hz;exact hr
   |succ j=>simp at hj
 cases h with
 |imm y u h=>
  cases hc
  have h1:=h.one
  exact one _ _ (by cases v<;>first|rfl|cases h1) h1 (.imm y v h)
 |osl id off sz len cap c a arr e hid hl hk ha hw hs=>cases hc;exact one _ _ rfl rfl (.osl id off sz len cap c a arr e hid hl hk ha hw hs)
 |optr id off hid=>cases hc;exact one _ _ rfl rfl (.optr id off hid)
 |clo f caps vs hl h=>cases hc;exact one _ _ rfl rfl (.clo f caps vs hl h)
 |omap id hid=>cases hc;exact one _ _ rfl rfl (.omap id hid)
 |yld id hid=>cases hc;exact one _ _ rfl rfl (.yld id hid)
 |seat id off n e hid hw hb=>cases hc;exact one _ _ rfl rfl (.seat id off n e hid hw hb)
 |tag b a x v h ha=>
  cases hc
  have h1:=h.one
  exact one _ _ (by cases v<;>first|rfl|cases h1) h1 (.tag b a x v h ha)
 |err t v=>cases hc;exact one _ _ rfl rfl (.err t v)
 |agg cells vs hl h1 h=>cases hc;exact⟨hl,h1,h⟩
 |tup xs vs hl h=>cases hc
 |junk v=>cases hc
theorem yki(hs:zas num C s a){x:Operand}{y:Src}(h:zah num x=some y):zbe num P (.move x) ty pos after a C s (s.env.ev y) s:=
 zbj hs (fun _ _=>rfl) (zba hs h)
theorem yjx(hs:zas num C s a){x:Operand}{y:Src}(h:zah num x=some y):zbe num P (.assign x) ty pos after a C s (s.env.ev y) s:=
 zbj hs (fun _ _=>rfl) (zba hs h)
theorem ykl(hs:zas num C s a){x y z:Operand}{x' y' z':Src}(hx:zah num x=some x')(hy:zah num y=some y')(hz:zah num z=some z'){t:Bool}(ht:s.env.ev x'=.imm (.val (.bool t))):
  zbe num P (.pick x y z) ty pos after a C s (if t then s.env.ev y' else s.env.ev z') s:=by
 have h1:=zgj hs hx ht
 refine zbj (v:=if t then a.eval y else a.eval z) hs (fun _ _=>?_) ?_
 ·simp[execOp,h1,asBool]
 ·cases t
  ·exact zba hs hz
  ·exact zba hs hy
theorem run_equalIn_bool(d:Nat){t:TypeId}(ht:P.underlying t=some .bool)(x y:Bool)(w:World):(Op.equalIn (d+1) t (.bool x) (.bool y)).run P w=.ok (x==y) w:=by
 simp only[Op.equalIn,Sem.run_bind,run_underlying ht,Result.andThen_ok,Sem.run_pure]
theorem z3u{t:TypeId}(ht:P.underlying t=some .bool)(x y:Bool)(w:World):(Op.equal t (.bool x) (.bool y)).run P w=.ok (x==y) w:=
 run_equalIn_bool 9999 ht x y w
theorem ygs {op : BinOp} {t : TypeId} {x y v : Value} (h : zm8 op x y = some v) (w : World) : (binOp op t x y).run P w = .ok v w := by
  unfold zm8 at h
  split at h
  · rename_i k a j b
    split at h
    · simp only [zm3] at h
      split at h
      · cases h
      · rename_i hb
        cases h
        simp [binOp, Op.shift, hb]
    · simp only [zm3] at h
      split at h
      · cases h
      · rename_i hb
        cases h
        simp [binOp, Op.shift, hb]
    · split at h
      · rename_i hk
        subst hk
        cases op <;> simp only [zrh] at h <;> first
          | (cases h; done)
          | (obtain rfl := xau h; simp [binOp, Op.intArith, Op.intBits, Op.intCmp]; done)
          | (split at h <;> first | (cases h; done) | (rename_i hb; obtain rfl := xau h; simp [binOp, Op.intDiv, hb]; done))
          | simp_all
      · cases h
  · rename_i a b
    cases op <;> simp only [zsl] at h <;> first
      | (cases h; done)
      | (obtain rfl := xau h; simp [binOp, Op.stringOp]; done)
      | (split at h
         · rename_i hb
           obtain rfl := xau h
           have : ¬ (((a.size + b.size : Nat) : Int) > IntKind.i64.max) := by simp [IntKind.max, IntKind.signed, IntKind.bits]; omega
           simp only [binOp, Op.stringOp]
           rw [if_neg this]
           rfl
         · cases h)
  · cases h
theorem ygp{op:BinOp}{t:TypeId}{x y v:Value}(h:zl1 op x y=some v)(w:World)(ht:P.underlying t=some .bool):(binOp op t x y).run P w=.ok v w:=by
 unfold zl1 at h
 split at h
 ·split at h
  ·cases h
   simp[binOp,z3u ht]
  ·cases h
   simp[binOp,z3u ht]
  ·cases h
 ·cases h
theorem z3t{op:BinOp}{t:TypeId}{x y:Operand}{u v:Value}(hu:u.oneCell'=true)(h:u≠ .nilIface)(w:World):(eqGuard op t x y u v).run P w=.ok () w:=by
 unfold eqGuard
 cases op<;>cases u<;>first|rfl|(cases hu;done)|(exact absurd rfl h)|(cases v<;>rfl)
theorem yjy(hs:zas num C s a){op:BinOp}{t yt:TypeId}{x y:Operand}{x' y':Src}(hx:zah num x=some x')(hy:zah num y=some y')
  {u v r:Value} (hu:s.env.ev x'=.imm (.val u)) (hv:s.env.ev y'=.imm (.val v)) (hr:zm8 op u v=some r):
  zbe num P (.binOp op t x y yt) ty pos after a C s (.imm (.val r)) s:=by
 have h1:=zgj hs hx hu
 have h2:=zgj hs hy hv
 have hone:u.oneCell'=true/\u≠ .nilIface/\r.oneCell'=true:=by
  unfold zm8 at hr
  split at hr
  ·refine⟨rfl,by simp,?_⟩
   split at hr
   ·simp only[zm3]at hr;split at hr<;>cases hr;rfl
   ·simp only[zm3]at hr;split at hr<;>cases hr;rfl
   ·split at hr
    ·unfold zrh at hr
     split at hr<;>first|(cases hr;done)|(cases hr;rfl)|(split at hr<;>cases hr;rfl)
    ·cases hr
  ·refine⟨rfl,by simp,?_⟩
   unfold zsl at hr
   split at hr<;>first|(cases hr;done)|(cases hr;rfl)|(split at hr<;>cases hr;rfl)
  ·cases hr
 refine zbj (v:=r) hs (fun _ _=>?_) (.imm _ _ (.val r hone.2.2))
 simp only[execOp,h1,h2,Sem.run_bind,z3t hone.1 hone.2.1,Result.andThen_ok]
 rw[ygs hr C.w]
 rfl
theorem yjz(hs:zas num C s a){op:BinOp}{t yt:TypeId}{x y:Operand}{x' y':Src}(hx:zah num x=some x')(hy:zah num y=some y')
  (ht:P.underlying t=some .bool) {u v r:Value} (hu:s.env.ev x'=.imm (.val u)) (hv:s.env.ev y'=.imm (.val v)) (hr:zl1 op u v=some r):
  zbe num P (.binOp op t x y yt) ty pos after a C s (.imm (.val r)) s:=by
 have h1:=zgj hs hx hu
 have h2:=zgj hs hy hv
 have hone:u.oneCell'=true/\u≠ .nilIface/\r.oneCell'=true:=by
  unfold zl1 at hr
  split at hr
  ·refine⟨rfl,by simp,?_⟩
   split at hr<;>cases hr<;>rfl
  ·cases hr
 refine zbj (v:=r) hs (fun _ _=>?_) (.imm _ _ (.val r hone.2.2))
 simp only[execOp,h1,h2,Sem.run_bind,z3t hone.1 hone.2.1,Result.andThen_ok]
 rw[ygp hr C.w ht]
 rfl
theorem ykq(hs:zas num C s a){op:UnOp}{t:TypeId}{x:Operand}{x':Src}(hx:zah num x=some x'){u r:Value}(hu:s.env.ev x'=.imm (.val u))(hr:zp1 op u=some r):
  zbe num P (.unOp op t x) ty pos after a C s (.imm (.val r)) s:=by
 have h1:=zgj hs hx hu
 have h2:(Op.unary op u).run P C.w=.ok r C.w/\r.oneCell'=true:=by
  unfold zp1 at hr
  split at hr<;>first|(cases hr;done)|(cases hr;exact⟨by simp[Op.unary,Op.intArith,Op.intBits],rfl⟩)
 refine zbj (v:=r) hs (fun _ _=>?_) (.imm _ _ (.val r h2.2))
 simp only[execOp,h1,Sem.run_bind,h2.1,Result.andThen_ok]
 rfl
theorem yj4(hs:zas num C s a){src dst:TypeId}{j k:IntKind}{x:Operand}{x':Src}(hx:zah num x=some x')(h1:P.underlying src=some (.int j))(h2:P.underlying dst=some (.int k)){i:Int}(hi:zdd (s.env.ev x')=some i):
  zbe num P (.convert src dst x) ty pos after a C s (.imm (.val (.int k (k.wrap i)))) s:=by
 obtain⟨kk,hu,_⟩:=zh8 (zba hs hx) hi
 refine zbj (v:=.int k (k.wrap i)) hs (fun _ _=>?_) (.imm _ _ (.val _ rfl))
 simp[execOp,hu,convert,run_underlying h1,run_underlying h2,Conv.intToInt]
theorem yj5(hs:zas num C s a){src dst:TypeId}{x:Operand}{x':Src}(hx:zah num x=some x')(h1:P.underlying src=some .string)(h2:P.underlying dst=some .string){b:ByteArray}(hb:s.env.ev x'=.imm (.val (.string b))):
  zbe num P (.convert src dst x) ty pos after a C s (.imm (.val (.string b))) s:=by
 have hu:=zgj hs hx hb
 refine zbj (v:=.string b) hs (fun _ _=>?_) (.imm _ _ (.val _ rfl))
 simp[execOp,hu,convert,run_underlying h1,run_underlying h2]
theorem yj7(hs:zas num C s a){x:Operand}{x':Src}{i:Nat}(hx:zah num x=some x'){vs:List AV}(hv:s.env.ev x'=.tup vs){y:AV}(hy:vs[i]?=some y):
  zbe num P (.extract x i) ty pos after a C s y s:=by
 have h1:=zba hs hx
 rw[hv]at h1
 generalize hu:a.eval x=u at h1
 cases h1 with
 |tup _ us hl h=>
  have hi:i<us.size:=by rw[<-hl];exact(xab.1 hy).1
  refine zbj (v:=us[i]) hs (fun _ _=>?_) (h i y _ hy (by simp[hi]))
  simp[execOp,hu,Instr.extract,hi]
theorem zyp(hs:zas num C s a){t:TypeId}{fs:Array Field}{f:Nat}{fd:Field}{x:Operand}{x':Src}(hx:zah num x=some x')(ht:P.underlying t=some (.struct fs))(hf:fs[f]?=some fd)
  (hk:known P fd.type=true) (h0:0<P.cellsOf fd.type) {y:AV} (hy:(match s.env.ev x' with|.imm (.ptr row o)=>some (AV.imm (.ptr row (o+fd.offset)))|.tag b a (.ptr row o)=>some (.tag b (a+fd.offset) (.ptr row (o+fd.offset)))|.optr id o=>some (.optr id (o+fd.offset))|_=>none)=some y):
  zbe num P (.fieldAddr t x f) ty pos after a C s y s:=by
 obtain⟨i,d,hi,hd,hsz,_⟩:=zd7 hk
 have h1:=zba hs hx
 generalize hu:a.eval x=u at h1
 have hne:¬(i.size=0):=by omega
 have run:∀b o,u=.pointer (some ⟨b,o,none⟩)->∀dst g,(execOp a.eval ⟨dst,.fieldAddr t x f,ty,pos,after,g⟩).run P C.w=.ok (.value (.pointer (some ⟨b,o+fd.offset,none⟩))) C.w:=by
  intro b o hb dst g
  simp[execOp,hu,hb,Instr.fieldAt,run_underlying ht,hf,Instr.sureAddr,fieldPlace,zgf hi,hne,zel]
 split at hy
 ·rename_i row o heq
  cases hy
  rw[heq]at h1
  cases h1 with
  |imm _ _ h=>cases h with
   |ptr _ _ b o' u' hb hc hu'=>
    refine zbj hs (run b (o'+o) rfl) ?_
    rw[xb4]
    exact .imm _ _ (.ptr row (o+fd.offset) b o' u' hb hc hu')
 ·rename_i b0 a0 row o heq
  cases hy
  rw[heq]at h1
  cases h1 with
  |tag _ _ _ _ h ha=>cases h with
   |ptr _ _ b o' u' hb hc hu'=>
    simp only[zlz,xaf,xay]at ha
    obtain⟨rfl,rfl⟩:=ha
    refine zbj hs (run b (o'+o) rfl) (.tag _ _ _ _ ?_ rfl)
    rw[xb4]
    exact .ptr row (o+fd.offset) b o' u' hb hc hu'
 ·rename_i id o heq
  cases hy
  rw[heq]at h1
  cases h1 with
  |optr _ _ hid=>exact zbj hs (run (C.σ id) o rfl) (.optr id _ hid)
 ·cases hy
theorem zyq(hs:zas num C s a){t e:TypeId}{x i:Operand}{x' i':Src}(hx:zah num x=some x')(hi:zah num i=some i')(ht:P.underlying t=some (.slice e))(hk:known P e=true)
  {n:Int} (hn:zdd (s.env.ev i')=some n) {y:AV} (hy:(match s.env.ev x' with|.imm (.slice row off len _)=>if 0<=n/\n<len then some (AV.imm (.ptr row (off+n.toNat*P.cellsOf e)))else none|.tag b a (.slice row off len _)=>if 0<=n/\n<len then some (.tag b (a+n.toNat*P.cellsOf e) (.ptr row (off+n.toNat*P.cellsOf e)))else none|.osl id off _ len _=>if 0<=n/\n<len then some (.optr id (off+n.toNat*P.cellsOf e))else none|_=>none)=some y):
  zbe num P (.indexAddr t x i) ty pos after a C s y s:=by
 obtain⟨inf,d,hinf,hd,hsz,_⟩:=zd7 hk
 obtain⟨kk,hie,_⟩:=zh8 (zba hs hi) hn
 have h1:=zba hs hx
 generalize hu:a.eval x=u at h1
 have run:∀b o len c,u=.slice (some ⟨b,o,none⟩) len c->0<=n->n<len->∀dst g,(execOp a.eval ⟨dst,.indexAddr t x i,ty,pos,after,g⟩).run P C.w=.ok (.value (.pointer (some ⟨b,o+n.toNat*P.cellsOf e,none⟩))) C.w:=by
  intro b o len c hb h0 h2 dst g
  simp[execOp,hu,hb,hie,Instr.indexAt,asIntOf,run_underlying ht,zgf hinf,h0,h2,zel,hsz]
 split at hy
 ·rename_i row off len cap heq
  split at hy
  ·rename_i hb
   cases hy
   rw[heq]at h1
   cases h1 with
   |imm _ _ h=>cases h with
    |slice _ _ _ _ b o c ad u' hI hc hu' hl hk' ha=>
     rcases ha with rfl|rfl
     ·refine zbj hs (run b (o+off) len c rfl hb.1 hb.2) ?_
      rw[xb4]
      exact .imm _ _ (.ptr row _ b o u' hI hc hu')
     ·omega
    |vac=>omega
  ·cases hy
 ·rename_i b0 a0 row off len cap heq
  split at hy
  ·rename_i hb
   cases hy
   rw[heq]at h1
   cases h1 with
   |tag _ _ _ _ h hadr=>cases h with
    |slice _ _ _ _ b o c ad u' hI hc hu' hl hk' ha=>
     simp only[zlz,xaf,xay]at hadr
     obtain⟨rfl,rfl⟩:=hadr
     rcases ha with rfl|rfl
     ·refine zbj hs (run b (o+off) len c rfl hb.1 hb.2) (.tag _ _ _ _ ?_ rfl)
      rw[xb4]
      exact .ptr row _ b o u' hI hc hu'
     ·omega
    |vac=>omega
  ·cases hy
 ·rename_i id off sz len cap heq
  split at hy
  ·rename_i hb
   cases hy
   rw[heq]at h1
   cases h1 with
   |osl _ _ _ _ _ c ad arr e' hid hl hk' ha hw hs'=>
    rcases ha with rfl|rfl
    ·exact zbj hs (run (C.σ id) ad len c rfl hb.1 hb.2) (.optr id _ hid)
    ·omega
  ·cases hy
 ·cases hy
theorem ykb(hs:zas num C s a){t:TypeId}{x i:Operand}{x' i':Src}(hx:zah num x=some x')(hi:zah num i=some i')(ht:P.underlying t=some .string)
  {n:Int} (hn:zdd (s.env.ev i')=some n) {b:ByteArray} (hb:s.env.ev x'=.imm (.val (.string b))) (h0:0<=n) {c:UInt8} (hc:b[n.toNat]?=some c):
  zbe num P (.index t x i) ty pos after a C s (.imm (.val (.int .u8 c.toNat))) s:=by
 obtain⟨kk,hie,_⟩:=zh8 (zba hs hi) hn
 have hu:=zgj hs hx hb
 refine zbj (v:=.int .u8 c.toNat) hs (fun _ _=>?_) (.imm _ _ (.val _ rfl))
 simp[execOp,hu,hie,Instr.index,asIntOf,run_underlying ht,h0,hc]
theorem ykj(hs:zas num C s a){x:Operand}{x':Src}(hx:zah num x=some x')(hn:ze3 (s.env.ev x')=some false):zbe num P (.nilCheck x) ty pos after a C s (s.env.ev x') s:=by
 have h1:=zba hs hx
 refine zbj (v:=a.eval x) hs (fun _ _=>?_) h1
 generalize hu:a.eval x=u at h1
 generalize s.env.ev x'=y at h1 hn
 cases h1 with
 |imm z _ h=>
  cases h with
  |val v hv=>simp only[ze3]at hn;split at hn<;>simp_all
  |slice=>simp[execOp,hu]
  |vac=>simp[execOp,hu]
  |ptr=>simp[execOp,hu]
 |osl=>simp[execOp,hu]
 |optr=>simp[execOp,hu]
 |clo=>simp[execOp,hu]
 |omap=>simp[execOp,hu]
 |yld=>simp[ze3]at hn
 |seat=>simp[ze3]at hn
 |err=>simp[ze3]at hn
 |tag _ _ z _ h ha=>
  cases h with
  |val _ hv=>
   unfold zlz at ha
   split at ha
   ·simp[execOp,hu]
   ·simp[execOp,hu]
   ·cases ha
  |slice=>simp[execOp,hu]
  |vac=>simp[execOp,hu]
  |ptr=>simp[execOp,hu]
 |agg=>simp[ze3]at hn
 |tup=>simp[ze3]at hn
 |junk=>simp[ze3]at hn
theorem yke(hs:zas num C s a){t:TypeId}{x:Operand}{x':Src}(hx:zah num x=some x')(ht:P.underlying t=some .string){b:ByteArray}(hb:s.env.ev x'=.imm (.val (.string b))):
  zbe num P (.call { callee:=.builtin .len,args:= #[x],argTypes:= #[t] }) ty pos after a C s (.imm (.val (.int .i64 (b.size:Int)))) s:=by
 have hu:=zgj hs hx hb
 refine zbj (v:=.int .i64 (b.size:Int)) hs (fun _ _=>?_) (.imm _ _ (.val _ rfl))
 simp[execOp,resolve,invoke,builtin,hu,Builtin.len_,run_underlying ht,goInt]
theorem ykc(hs:zas num C s a){t e:TypeId}{x:Operand}{x':Src}(hx:zah num x=some x')(he:P.underlying t=some (.slice e)){n:Nat}(hn:lenOf (s.env.ev x')=some n):
  zbe num P (.call { callee:=.builtin .len,args:= #[x],argTypes:= #[t] }) ty pos after a C s (.imm (.val (.int .i64 (n:Int)))) s:=by
 have h1:=zba hs hx
 refine zbj (v:=.int .i64 (n:Int)) hs (fun _ _=>?_) (.imm _ _ (.val _ rfl))
 generalize hu:a.eval x=u at h1
 generalize s.env.ev x'=y at h1 hn
 unfold lenOf at hn
 split at hn
 ·cases hn
  have:=zbw h1
  subst this
  simp[execOp,resolve,invoke,builtin,hu,Builtin.len_,run_underlying he,goInt]
 ·cases hn
  cases h1 with|imm _ _ h=>cases h with
   |slice=>simp[execOp,resolve,invoke,builtin,hu,Builtin.len_,run_underlying he,goInt]
   |vac=>simp[execOp,resolve,invoke,builtin,hu,Builtin.len_,run_underlying he,goInt]
 ·cases hn
  cases h1 with|tag _ _ _ _ h _=>cases h with
   |slice=>simp[execOp,resolve,invoke,builtin,hu,Builtin.len_,run_underlying he,goInt]
   |vac=>simp[execOp,resolve,invoke,builtin,hu,Builtin.len_,run_underlying he,goInt]
 ·cases hn
  cases h1 with
   |osl=>simp[execOp,resolve,invoke,builtin,hu,Builtin.len_,run_underlying he,goInt]
 ·cases hn
theorem yj3(hs:zas num C s a){t e:TypeId}{x:Operand}{x':Src}(hx:zah num x=some x')(he:P.underlying t=some (.slice e)){n:Nat}(hn:zob (s.env.ev x')=some n):
  zbe num P (.call { callee:=.builtin .cap,args:= #[x],argTypes:= #[t] }) ty pos after a C s (.imm (.val (.int .i64 n))) s:=by
 have h1:=zba hs hx
 refine zbj (v:=.int .i64 n) hs (fun _ _=>?_) (.imm _ _ (.val _ rfl))
 generalize hu:a.eval x=u at h1
 generalize s.env.ev x'=y at h1 hn
 unfold zob at hn
 split at hn
 ·cases hn
  have:=zbw h1
  subst this
  simp[execOp,resolve,invoke,builtin,hu,Builtin.cap_,run_underlying he,goInt]
 ·subst hn
  cases h1 with|imm _ _ h=>cases h with
   |slice _ _ _ _ b o c ad u' hI hc hu' hl hk' ha=>simp[execOp,resolve,invoke,builtin,hu,Builtin.cap_,run_underlying he,goInt,hk' n rfl]
   |vac=>simp[execOp,resolve,invoke,builtin,hu,Builtin.cap_,run_underlying he,goInt]
 ·subst hn
  cases h1 with
   |osl _ _ _ _ _ c ad arr e' hid hl hk' ha hw hs'=>simp[execOp,resolve,invoke,builtin,hu,Builtin.cap_,run_underlying he,goInt,hk' n rfl]
 ·cases hn
end
section
variable {num:Names} {P:Program}
variable {ty:TypeId} {pos:String} {after:Array Edge} {a:Act} {C:Cx} {s:St}
def z5t(num:Names)(P:Program)(C:Cx)(ad:Addr)(x:AV):Option Nat->Prop
 |none=>∃u,C.w.cell? ad=some u/\ARep num C x u
 |some n=>∃vs:Array Value,(loadCells ad n).run P C.w=.ok vs C.w/\ARep num C x (.agg vs)
theorem z9n{l:List AV}{b o off:Nat}{agg:Option Nat}{x:AV}(h:zja num C b o l)(hx:zdw agg l off=some x):z5t num P C ⟨b,o+off,none⟩ x agg:=by
 cases agg with
 |none=>
  obtain⟨u,h1,_,h3⟩:=h off x hx
  exact⟨u,h1,h3⟩
 |some n=>
  simp only[zdw]at hx
  cases hc:cut l off n with
  |none=>simp[hc]at hx
  |some r=>
   simp[hc]at hx
   subst hx
   obtain⟨vs,h1,h2,h3,h4⟩:=yax (P:=P) h hc
   exact⟨vs,h1,.agg r vs (by rw[zhw hc,h2]) h3 h4⟩
theorem z3x{t:TypeId}(hk:known P t=true){m:Mem}(hm:MRep num C m){p x:AV}{v:Value}(hp:ARep num C p v)(hx:loadAt m (zdt P t) p=some x):
  ∃b o u,v=.pointer (some ⟨b,o,none⟩)/\(loadVar t ⟨b,o,none⟩).run P C.w=.ok u C.w/\ARep num C x u:=by
 obtain⟨i,d,hi,hd,hsz,_⟩:=zd7 hk
 obtain⟨b,o,off,l,rfl,hl,hg⟩:=yfa hm hp hx
 have hgr:=z9n (P:=P) hl hg
 have hag:(isAgg t).run P C.w=.ok (zdt P t).isSome C.w:=z3v hd C.w
 cases hagg:zdt P t with
 |none=>
  rw[hagg]at hgr hag
  obtain⟨u,h1,h2⟩:=hgr
  exact⟨b,o+off,u,rfl,by simp[loadVar,hag,h1],h2⟩
 |some n=>
  have hn:n=P.cellsOf t:=by
   unfold zdt at hagg
   rw[hd]at hagg
   cases d<;>simp at hagg<;>exact hagg.symm
  rw[hagg]at hgr hag
  obtain⟨vs,h1,h2⟩:=hgr
  refine⟨b,o+off,.agg vs,rfl,?_,h2⟩
  simp only[loadVar,Sem.run_bind,hag,Result.andThen_ok,Option.isSome_some,if_true,zgf hi]
  rw[<-hsz,<-hn,h1]
  rfl
theorem z5m(hs:zas num C s a){t:TypeId}{x:Operand}{x':Src}(hk:known P t=true)(hx:zah num x=some x'){y:AV}(hy:loadAt s.mem (zdt P t) (s.env.ev x')=some y):
  zbe num P (.load t x) ty pos after a C s y s:=by
 have h1:=zba hs hx
 obtain⟨b,o,u,hv,h2,h3⟩:=z3x hk hs.mem h1 hy
 refine zbj (v:=u) hs (fun _ _=>?_) h3
 simp[execOp,hv,Instr.loadAt,Instr.sureAddr,h2]
theorem yj8(hs:zas num C s a){t:TypeId}{fs:Array Field}{f:Nat}{fd:Field}{x:Operand}{x':Src}(hx:zah num x=some x')(ht:P.underlying t=some (.struct fs))(hf:fs[f]?=some fd)
  (hk:known P fd.type=true) {cs:List AV} (hc:s.env.ev x'=.agg cs) {y:AV} (hy:zdw (zdt P fd.type) cs fd.offset=some y):
  zbe num P (.field t x f) ty pos after a C s y s:=by
 obtain⟨i,d,hi,hd,hsz,_⟩:=zd7 hk
 have h1:=zba hs hx
 rw[hc]at h1
 generalize hu:a.eval x=u at h1
 cases h1 with
 |agg _ vs hl hone h=>
  have hag:(isAgg fd.type).run P C.w=.ok (zdt P fd.type).isSome C.w:=z3v hd C.w
  cases hagg:zdt P fd.type with
  |none=>
   rw[hagg]at hag hy
   simp only[zdw]at hy
   have hi':fd.offset<vs.size:=by rw[<-hl];exact(xab.1 hy).1
   refine zbj (v:=vs[fd.offset]) hs (fun _ _=>?_) (h _ y _ hy (by simp[hi']))
   simp[execOp,hu,Instr.field,run_underlying ht,hf,asAgg,part,hag,hi']
  |some n=>
   have hn:n=P.cellsOf fd.type:=by
    unfold zdt at hagg
    rw[hd]at hagg
    cases d<;>simp at hagg<;>exact hagg.symm
   rw[hagg]at hag hy
   simp only[zdw]at hy
   cases hc':cut cs fd.offset n with
   |none=>simp[hc']at hy
   |some r=>
    simp[hc']at hy
    subst hy
    have hrl:=zhw hc'
    have hb:n=0\/fd.offset+n<=cs.length:=by
     rcases xcx n with h0|h0
     ·exact .inl h0
     ·right
      have h2:=zai hc' (n-1) (by omega)
      rw[xaa (l:=r) (i:=n-1) (by omega)]at h2
      have:=(xab.1 h2).1
      omega
    have hex:∀j,j<n->(vs.extract fd.offset (fd.offset+n))[j]?=vs[fd.offset+j]?:=by
     intro j hj
     rw[Array.getElem?_extract]
     rw[if_pos (by rcases hb with h0|h0<;>omega)]
    refine zbj (v:=.agg (vs.extract fd.offset (fd.offset+n))) hs (fun _ _=>?_) ?_
    ·simp only[execOp,hu,Instr.field,Sem.run_bind,run_underlying ht,Result.andThen_ok,hf,asAgg,Sem.run_pure,part,hag,Option.isSome_some,if_true,zgf hi]
     rw[<-hsz,<-hn]
    ·have hsize:(vs.extract fd.offset (fd.offset+n)).size=n:=by
      rcases hb with rfl|hb
      ·simp;omega
      ·simp only[Array.size_extract];omega
     refine .agg r _ (by rw[hrl,hsize]) ?_ ?_
     ·intro j u hj
      have hj':j<n:=by rw[<-hsize];exact(xal.1 hj).1
      rw[hex j hj']at hj
      exact hone _ u hj
     ·intro j y u hy' hj
      have hj':j<n:=by rw[<-hsize];exact(xal.1 hj).1
      rw[hex j hj']at hj
      exact h (fd.offset+j) y u (by rw[zai hc' j hj'];exact hy') hj
theorem ygq(n:Nat){t:TypeId}{d:TypeDesc}(ht:P.underlying t=some d){z:Value}{k:Nat}(hk:zjq d (.const z)=some k){x:AV}{v:Value}(hx:ARep num C x v){b:Bool}(hb:zgs k x=some b)(w:World):
  (Op.equalIn (n+1) t v z).run P w=.ok b w:=by
 unfold zjq at hk
 split at hk<;>cases hk
 all_goals (rename_i heq;cases heq)
 all_goals (unfold zgs at hb;split at hb<;>first|(cases hb;done)|(rename_i h0;first|(cases h0;done)|skip))
 all_goals (cases hb)
 all_goals first
  |(have:=zbw hx;subst this;simp only[Op.equalIn,Sem.run_bind,run_underlying ht,Result.andThen_ok];rfl)
  |(cases hx with|imm _ _ h=>cases h<;>(simp only[Op.equalIn,Sem.run_bind,run_underlying ht,Result.andThen_ok];rfl))
  |(cases hx with|tag _ _ _ _ h _=>cases h<;>(simp only[Op.equalIn,Sem.run_bind,run_underlying ht,Result.andThen_ok];rfl))
  |(cases hx<;>(simp only[Op.equalIn,Sem.run_bind,run_underlying ht,Result.andThen_ok];rfl))
theorem z2a{op:BinOp}{t:TypeId}{d:TypeDesc}{z:Value}{k:Nat}(hk:zjq d (.const z)=some k){x:Operand}{v:Value}(w:World):(eqGuard op t x (.const z) v z).run P w=.ok () w:=by
 unfold zjq at hk
 split at hk<;>cases hk
 all_goals (rename_i heq;cases heq)
 all_goals (unfold eqGuard;cases op<;>first|rfl|(cases v<;>first|rfl|simp))
theorem z5k(hs:zas num C s a){t yt:TypeId}{d:TypeDesc}{x y:Operand}{x':Src}{neg:Bool}(hx:zah num x=some x')(ht:P.underlying t=some d){k:Nat}(hk:zjq d y=some k){b:Bool}(hb:zgs k (s.env.ev x')=some b):
  zbe num P (.binOp (if neg then .neq else .eql) t x y yt) ty pos after a C s (.imm (.val (.bool (if neg then !b else b)))) s:=by
 have h1:=zba hs hx
 obtain⟨z,rfl⟩:∃z,y=.const z:=by
  unfold zjq at hk
  split at hk<;>first|(cases hk;done)|exact⟨_,rfl⟩
 have h2:=ygq (P:=P) 9999 ht hk h1 hb C.w
 have h3:(Op.equal t (a.eval x) z).run P C.w=.ok b C.w:=h2
 have hb2:∀op:BinOp,(op=.eql\/op=.neq)->(binOp op t (a.eval x) z).run P C.w=.ok (.bool (if op=.neq then !b else b)) C.w:=by
  intro op hop
  have:∀v:Value,(∀j n,z≠ .int j n)->(∀k' n',z≠ .float k' n')->True:=fun _ _ _=>trivial
  unfold zjq at hk
  split at hk<;>cases hk
  all_goals (rename_i heq;cases heq)
  all_goals (rcases hop with rfl|rfl)
  all_goals (generalize a.eval x=v at h3 ⊢;cases v<;>simp[binOp,h3])
 refine zbj (v:=.bool (if neg then !b else b)) hs (fun _ _=>?_) (.imm _ _ (.val _ rfl))
 have hz:a.eval (.const z)=z:=rfl
 cases neg
 ·simp only[execOp,Sem.run_bind,hz,z2a hk,Result.andThen_ok,xan,if_false]
  rw[hb2 .eql (.inl rfl)]
  simp
 ·simp only[execOp,Sem.run_bind,hz,z2a hk,Result.andThen_ok,if_true]
  rw[hb2 .neq (.inr rfl)]
  simp
theorem zwq{m:Mem}(hm:MRep num C m){w1:World}(hw1:w1.heap=C.w.heap){v:Value}{cs:List AV}(hl:cs.length=v.cells.size)(h1:∀(j:Nat) u,v.cells[j]?=some u->u.oneCell'=true)(h:∀(j:Nat) y u,cs[j]?=some y->v.cells[j]?=some u->ARep num C y u)(e:TypeId):
  zc4 num (C.more w1 (.cells v.cells e (0,0))) C.n (.rich cs):=by
 refine⟨v.cells,e,?_,fun j x hx=>?_⟩
 ·simp only[Cx.more,if_true]
  rw[zd4,if_pos (by rw[hw1])]
 ·have hj:j<v.cells.size:=by rw[<-hl];exact(xab.1 hx).1
  have hu:v.cells[j]?=some v.cells[j]:=by simp[hj]
  exact⟨v.cells[j],hu,h1 j _ hu,(h j x _ hx hu).mono (zgb hm hw1 _)⟩
theorem yj0(hs:zas num C s a){t:TypeId}{x:Operand}{x':Src}(hx:zah num x=some x'){cs:List AV}(hc:(s.env.ev x').cells=some cs):
  zbe num P (.box t x) ty pos after a C s (.optr s.mem.length 0) { s with mem:=s.mem++[.rich cs] }:=by
 have h1:=zba hs hx
 obtain⟨hl,ho,hr⟩:=zpk h1 hc
 have hlen:=hs.mem.len
 refine⟨.pointer (some ⟨C.w.heap.size,0,none⟩),C.more C.w (.cells (a.eval x).cells t (0,0)),fun _ _=>.inl ?_,zh2 hs.mem rfl rfl rfl rfl _ _ (zwq hs.mem rfl hl ho hr t) hs.k,hs.env.mono (zgb hs.mem rfl _),?_,rfl⟩
 ·simp[execOp,Instr.box,newVar,newRow,Cx.more]
 ·rw[hlen]
  have:C.w.heap.size=(C.more C.w (.cells (a.eval x).cells t (0,0))).σ C.n:=by simp[Cx.more]
  rw[this]
  exact .optr _ _ (by simp[Cx.more])
theorem yju(hs:zas num C s a){t:TypeId}{zs:List Value}(hz:zd9 P t=some zs)(h1:zs.all zdy=true):
  zbe num P (.alloc t) ty pos after a C s (.optr s.mem.length 0) { s with mem:=s.mem++[.rich (imZ zs)] }:=by
 have hlen:=hs.mem.len
 obtain⟨i,z,hi,hzi,rfl⟩:∃i z,P.info? t=some i/\i.zero=some z/\zs=z.cells.toList:=by
  unfold zd9 at hz
  cases hi:P.info? t with
  |none=>simp[hi]at hz
  |some i=>cases hzi:i.zero with
   |none=>simp[hi,hzi]at hz
   |some z=>simp[hi,hzi]at hz;exact⟨i,z,rfl,hzi,hz.symm⟩
 have hone:∀(j:Nat) u,z.cells[j]?=some u->u.oneCell'=true:=by
  intro j u hu
  rw[<-zjs]
  exact xai.1 h1 u (by rw[xcy];exact Array.mem_of_getElem? hu)
 refine⟨.pointer (some ⟨C.w.heap.size,0,none⟩),C.more C.w (.cells z.cells t (0,0)),fun _ _=>.inl ?_,zh2 hs.mem rfl rfl rfl rfl _ _ (zwq hs.mem rfl (by simp[imZ]) hone ?_ t) hs.k,hs.env.mono (zgb hs.mem rfl _),?_,rfl⟩
 ·simp[execOp,Instr.alloc,zeroValue,typeInfo,hi,hzi,newVar,newRow,Cx.more]
 ·intro j y u hy hu
  simp only[imZ,xar,xbs,hu,xao,xaf]at hy
  subst hy
  exact .imm _ _ (.val u (hone j u hu))
 ·rw[hlen]
  have:C.w.heap.size=(C.more C.w (.cells z.cells t (0,0))).σ C.n:=by simp[Cx.more]
  rw[this]
  exact .optr _ _ (by simp[Cx.more])
theorem z19{m:Mem}(hm:MRep num C m){w1:World}(hw1:w1.heap=C.w.heap){v:Value}{cs:List AV}{off:Nat}(hl:cs.length=v.cells.size)(h1:∀(j:Nat) u,v.cells[j]?=some u->u.oneCell'=true)(h:∀(j:Nat) y u,cs[j]?=some y->v.cells[j]?=some u->ARep num C y u)(e:TypeId)
  (hoff:v.cells[off]?=some (.pointer none)) (hB:num.B e v.cells.size off):
  zc4 num (C.more w1 (.cells v.cells e (0,0))) C.n (.rich (cs.set off (.seat C.n off))):=by
 obtain⟨arr,e',hw,hc⟩:=zwq hm hw1 hl h1 h e
 have hw0:(C.more w1 (.cells v.cells e (0,0))).w.heap[(C.more w1 (.cells v.cells e (0,0))).σ C.n]?=some (.cells v.cells e (0,0)):=by
  simp only[Cx.more,if_true]
  rw[zd4,if_pos (by rw[hw1])]
 rw[hw]at hw0
 obtain⟨rfl,rfl⟩:arr=v.cells/\e'=e:=by simpa using hw0
 refine⟨v.cells,e',hw,fun j x hx=>?_⟩
 rw[zhi]at hx
 split at hx
 ·rename_i hj
  obtain⟨rfl,hj⟩:=hj
  cases hx
  exact⟨.pointer none,hoff,rfl,.seat _ _ v.cells.size e' (by simp[Cx.more]) (.of hw) hB⟩
 ·exact hc j x hx
theorem z34{t:TypeId}{zs:List Value}{off:Nat}(h:zm2 P t zs=some off):zjp P t zs.length off=true/\zs[off]?=some (.pointer none):=by
 unfold zm2 at h
 split at h
 ·rename_i o ho
  split at h
  ·rename_i hc
   cases h
   rw[xae]at hc
   refine⟨hc.1,?_⟩
   have h2:=hc.2
   cases hz:zs[off]? with
   |none=>simp[hz]at h2
   |some z=>
    rw[hz]at h2
    simp only[Option.any_some]at h2
    split at h2
    ·rfl
    ·cases h2
  ·cases h
 ·cases h
theorem yj1(hB:∀e n off,zjp P e n off=true->num.B e n off)(hs:zas num C s a){t:TypeId}{zs:List Value}{x:Operand}{x':Src}{off:Nat}(hx:zah num x=some x'){cs:List AV}(hc:(s.env.ev x').cells=some cs)(hoff:zm2 P t zs=some off)(hlen:cs.length=zs.length)
  (hnil:cs[off]?=some (.imm (.val (.pointer none)))):
  zbe num P (.box t x) ty pos after a C s (.optr s.mem.length 0) { s with mem:=s.mem++[.rich (cs.set off (.seat s.mem.length off))] }:=by
 have h1:=zba hs hx
 obtain⟨hl,ho,hr⟩:=zpk h1 hc
 have hlen':=hs.mem.len
 obtain⟨hlies,_⟩:=z34 hoff
 have hv:(a.eval x).cells[off]?=some (.pointer none):=by
  have hlt:off<(a.eval x).cells.size:=by rw[<-hl];exact(xab.1 hnil).1
  have hq:=hr off _ _ hnil (xbr hlt)
  rw[xbr hlt,zbw hq]
 have hb:num.B t (a.eval x).cells.size off:=hB _ _ _ (by rw[<-hl,hlen];exact hlies)
 rw[hlen']
 refine⟨.pointer (some ⟨C.w.heap.size,0,none⟩),C.more C.w (.cells (a.eval x).cells t (0,0)),fun _ _=>.inl ?_,zh2 hs.mem rfl rfl rfl rfl _ _ (z19 hs.mem rfl hl ho hr t hv hb) hs.k,hs.env.mono (zgb hs.mem rfl _),?_,rfl⟩
 ·simp[execOp,Instr.box,newVar,newRow,Cx.more]
 ·have:C.w.heap.size=(C.more C.w (.cells (a.eval x).cells t (0,0))).σ C.n:=by simp[Cx.more]
  rw[this]
  exact .optr _ _ (by simp[Cx.more])
theorem yjv(hB:∀e n off,zjp P e n off=true->num.B e n off)(hs:zas num C s a){t:TypeId}{zs:List Value}{off:Nat}(hz:zd9 P t=some zs)(h1:zs.all zdy=true)(hoff:zm2 P t zs=some off):
  zbe num P (.alloc t) ty pos after a C s (.optr s.mem.length 0) { s with mem:=s.mem++[.rich ((imZ zs).set off (.seat s.mem.length off))] }:=by
 have hlen:=hs.mem.len
 obtain⟨hlies,hat⟩:=z34 hoff
 obtain⟨i,z,hi,hzi,rfl⟩:∃i z,P.info? t=some i/\i.zero=some z/\zs=z.cells.toList:=by
  unfold zd9 at hz
  cases hi:P.info? t with
  |none=>simp[hi]at hz
  |some i=>cases hzi:i.zero with
   |none=>simp[hi,hzi]at hz
   |some z=>simp[hi,hzi]at hz;exact⟨i,z,rfl,hzi,hz.symm⟩
 have hone:∀(j:Nat) u,z.cells[j]?=some u->u.oneCell'=true:=by
  intro j u hu
  rw[<-zjs]
  exact xai.1 h1 u (by rw[xcy];exact Array.mem_of_getElem? hu)
 have hb:num.B t z.cells.size off:=hB _ _ _ (by simpa using hlies)
 rw[hlen]
 refine⟨.pointer (some ⟨C.w.heap.size,0,none⟩),C.more C.w (.cells z.cells t (0,0)),fun _ _=>.inl ?_,zh2 hs.mem rfl rfl rfl rfl _ _ (z19 hs.mem rfl (by simp[imZ]) hone ?_ t (by simpa using hat) hb) hs.k,hs.env.mono (zgb hs.mem rfl _),?_,rfl⟩
 ·simp[execOp,Instr.alloc,zeroValue,typeInfo,hi,hzi,newVar,newRow,Cx.more]
 ·intro j y u hy hu
  simp only[imZ,xar,xbs,hu,xao,xaf]at hy
  subst hy
  exact .imm _ _ (.val u (hone j u hu))
 ·have:C.w.heap.size=(C.more C.w (.cells z.cells t (0,0))).σ C.n:=by simp[Cx.more]
  rw[this]
  exact .optr _ _ (by simp[Cx.more])
theorem zse{α:Type}:∀(xs l:List α) (off:Nat),(setAll l off xs).length=l.length
 |[],l,off=>rfl
 |x::xs,l,off=>by simp[setAll,zse xs]
theorem zi5{α:Type}:∀(xs l:List α) (off j:Nat),(setAll l off xs)[j]?=if off<=j/\j<off+xs.length/\j<l.length then xs[j-off]? else l[j]?
 |[],l,off,j=>by simp only[setAll,xaz,xbi];rw[if_neg (by omega)]
 |x::xs,l,off,j=>by
  simp only[setAll]
  rw[zi5 xs (l.set off x) (off+1) j]
  simp only[xb8,xax]
  by_cases h:off+1<=j/\j<off+1+xs.length/\j<l.length
  ·rw[if_pos h,if_pos (by omega)]
   obtain⟨k,hk⟩:∃k,j-off=k+1:=⟨j-off-1,by omega⟩
   rw[hk,xba]
   congr 1
   omega
  ·rw[if_neg h,zhi]
   by_cases h2:off=j/\j<l.length
   ·obtain⟨rfl,h3⟩:=h2
    rw[if_pos ⟨rfl,h3⟩,if_pos (by omega)]
    simp
   ·rw[if_neg h2,if_neg (by omega)]
theorem zjy(arr:Array Value)(off:Nat)(us:List Value)(h:off+us.length<=arr.size)(j:Nat):
  (arr.toList.take off++us++arr.toList.drop (off+us.length)).toArray[j]?=if off<=j/\j<off+us.length then us[j-off]? else arr[j]?:=by
 rw[List.getElem?_toArray]
 have hl:(arr.toList.take off).length=off:=by simp;omega
 rw[xbj]
 rcases xa1 j off with h1|h1
 ·rw[xac (by omega),if_neg (by omega),List.getElem?_take_of_lt h1];simp
 ·rw[xag (by omega),hl]
  rcases xa1 j (off+us.length)with h2|h2
  ·rw[xac (by omega),if_pos ⟨h1,h2⟩]
  ·rw[xag (by omega),if_neg (by omega),xbv]
   simp
   congr 1
   omega
theorem zgi(arr:Array Value)(off:Nat)(us:List Value)(h:off+us.length<=arr.size):
  (arr.toList.take off++us++arr.toList.drop (off+us.length)).toArray.size=arr.size:=by
 simp;omega
theorem ziy:∀(cs:List AV) (xs:List IV),zdx cs=some xs->cs=xs.map .imm
 |[],xs,h=>by cases h;rfl
 |x::r,xs,h=>by
  cases x with
  |imm y=>
   simp only[zdx]at h
   cases hr:zdx r with
   |none=>simp[hr]at h
   |some l=>simp[hr]at h;subst h;simp[ziy r l hr]
  |_=>simp[zdx]at h
theorem z4g{m m':Mem}(hm:MRep num C m){p:AV}{v:Value}(hp:ARep num C p v){cs:List AV}{us:List Value}(hl:cs.length=us.length)(h1:∀u∈us,u.oneCell'=true)
  (hu:∀(j:Nat) y u,cs[j]?=some y->us[j]?=some u->ARep num C y u) (h:storeAt m p cs=some m') {k:Nat} (hk:k<=m.length):
  ∃b o w',v=.pointer (some ⟨b,o,none⟩)/\(storeCells ⟨b,o,none⟩ us).run P C.w=.ok () w'/\Step num k C m { C with w:=w' } m'/\Tr some C { C with w:=w' }:=by
 unfold storeAt at h
 split at h
 ·rename_i id off
  cases hp with
  |optr _ _ hid=>
   split at h
   ·rename_i cl mv ho
    split at h
    ·rename_i xs hxs
     split at h
     ·rename_i hb
      cases h
      have hcx:=ziy cs xs hxs
      have hxl:xs.length=us.length:=by rw[<-hl,hcx];simp
      obtain⟨arr,e,hw,hc⟩:=hm.obj id _ ho
      have hcl:cl.length<=arr.size:=by
       rcases xcx cl.length with h0|h0
       ·omega
       ·obtain⟨u,hu',_⟩:=hc (cl.length-1) cl[cl.length-1] (by rw[xaa (by omega)])
        have:=(xal.1 hu').1
        omega
      have hfit:off+us.length<=arr.size:=by omega
      refine⟨C.σ id,off,_,rfl,run_storeCells_at P (C.σ id) off e us 0 arr C.w hw (by simpa using hfit) h1,?_,?_⟩
      ·simp only[xbi]
       refine zp0 (o':=.flat (setAll cl off xs) mv) hm ho rfl hw (zgi arr off us hfit) rfl (fun hmv=>hmv) ?_ hk
       have ht:=zi7 hm ho rfl hw (zgi arr off us hfit)
       refine⟨_,e,by show(C.w.setRow _ _).heap[_]?=_;rw[zfn _ _ _ _ _ hw,if_pos rfl],fun j x hx=>?_⟩
       rw[zi5]at hx
       rw[zjy arr off us hfit]
       split at hx
       ·rename_i hj
        rw[if_pos (by omega)]
        have hj':j-off<us.length:=by omega
        refine⟨us[j-off],by simp[hj'],?_⟩
        have:=hu (j-off) (.imm x) us[j-off] (by rw[hcx,xar,hx];rfl) (by simp[hj'])
        cases this with|imm _ _ hr=>exact hr.mono ht.imm ht.keep
       ·rename_i hj
        have hj2:j<cl.length:=(xab.1 hx).1
        rw[if_neg (by omega)]
        obtain⟨u,hu',hr⟩:=hc j x hx
        exact⟨u,hu',hr.mono ht.imm ht.keep⟩
      ·simp only[xbi]
       exact zi7 hm ho rfl hw (zgi arr off us hfit)
     ·cases h
    ·split at h
     ·rename_i hb
      obtain⟨rfl,hb⟩:=hb
      cases h
      obtain⟨arr,e,hw,hc⟩:=hm.obj id _ ho
      have hcl:cl.length<=arr.size:=by
       rcases xcx cl.length with h0|h0
       ·omega
       ·obtain⟨u,hu',_⟩:=hc (cl.length-1) cl[cl.length-1] (by rw[xaa (by omega)])
        have:=(xal.1 hu').1
        omega
      have hfit:off+us.length<=arr.size:=by omega
      refine⟨C.σ id,off,_,rfl,run_storeCells_at P (C.σ id) off e us 0 arr C.w hw (by simpa using hfit) h1,?_,?_⟩
      ·simp only[xbi]
       refine zp0 (o':=.rich (setAll (cl.map .imm) off cs)) hm ho rfl hw (zgi arr off us hfit) rfl (fun hmv=>hmv) ?_ hk
       have ht:=zi7 hm ho rfl hw (zgi arr off us hfit)
       refine⟨_,e,by show(C.w.setRow _ _).heap[_]?=_;rw[zfn _ _ _ _ _ hw,if_pos rfl],fun j x hx=>?_⟩
       rw[zi5]at hx
       rw[zjy arr off us hfit]
       split at hx
       ·rename_i hj
        rw[if_pos (by omega)]
        have hj':j-off<us.length:=by omega
        refine⟨us[j-off],by simp[hj'],h1 _ (by simp),?_⟩
        exact(hu (j-off) x us[j-off] hx (by simp[hj'])).mono ht
       ·rename_i hj
        have hj2:j<cl.length:=by simpa using(xab.1 hx).1
        rw[xam]at hj
        rw[if_neg (by omega)]
        rw[xar]at hx
        cases hq:cl[j]? with
        |none=>simp[hq]at hx
        |some y=>
         simp[hq]at hx
         subst hx
         obtain⟨u,hu',hr⟩:=hc j y hq
         exact⟨u,hu',hr.one,(ARep.imm y u hr).mono ht⟩
      ·simp only[xbi]
       exact zi7 hm ho rfl hw (zgi arr off us hfit)
     ·cases h
   ·rename_i cl ho
    split at h
    ·rename_i hb
     cases h
     obtain⟨arr,e,hw,hc⟩:=hm.obj id _ ho
     have hcl:cl.length<=arr.size:=by
      rcases xcx cl.length with h0|h0
      ·omega
      ·obtain⟨u,hu',_⟩:=hc (cl.length-1) cl[cl.length-1] (by rw[xaa (by omega)])
       have:=(xal.1 hu').1
       omega
     have hfit:off+us.length<=arr.size:=by omega
     refine⟨C.σ id,off,_,rfl,run_storeCells_at P (C.σ id) off e us 0 arr C.w hw (by simpa using hfit) h1,?_,?_⟩
     ·simp only[xbi]
      refine zp0 (o':=.rich (setAll cl off cs)) hm ho rfl hw (zgi arr off us hfit) rfl (fun hmv=>hmv) ?_ hk
      have ht:=zi7 hm ho rfl hw (zgi arr off us hfit)
      refine⟨_,e,by show(C.w.setRow _ _).heap[_]?=_;rw[zfn _ _ _ _ _ hw,if_pos rfl],fun j x hx=>?_⟩
      rw[zi5]at hx
      rw[zjy arr off us hfit]
      split at hx
      ·rename_i hj
       rw[if_pos (by omega)]
       have hj':j-off<us.length:=by omega
       refine⟨us[j-off],by simp[hj'],h1 _ (by simp),?_⟩
       exact(hu (j-off) x us[j-off] hx (by simp[hj'])).mono ht
      ·rename_i hj
       have hj2:j<cl.length:=(xab.1 hx).1
       rw[if_neg (by omega)]
       obtain⟨u,hu',ho1,hr⟩:=hc j x hx
       exact⟨u,hu',ho1,hr.mono ht⟩
     ·simp only[xbi]
      exact zi7 hm ho rfl hw (zgi arr off us hfit)
    ·cases h
   ·cases h
 ·cases h
theorem zyr(hs:zas num C s a){t:TypeId}{p x:Operand}{p' x':Src}(hk:known P t=true)(hp:zah num p=some p')(hx:zah num x=some x'){cs:List AV}(hc:(s.env.ev x').cells=some cs)(hn:cs.length=P.cellsOf t)
  {m':Mem} (h:storeAt s.mem (s.env.ev p') cs=some m'):zbe num P (.store t p x) ty pos after a C s .junk { s with mem:=m' }:=by
 obtain⟨i,d,hi,hd,hsz,_⟩:=zd7 hk
 obtain⟨hl,ho,hr⟩:=zpk (zba hs hx) hc
 obtain⟨b,o,w',hv,hrun,hst,htr⟩:=z4g (P:=P) hs.mem (zba hs hp) (us:=(a.eval x).cells.toList) (by simpa using hl)
  (fun u hu=>by
   obtain⟨j,hj⟩:=xa3 hu
   exact ho j u (by simpa using hj)) (fun j y u hy hu=>hr j y u hy (by simpa using hu)) h hs.k
 refine⟨undef,{ C with w:=w' },fun _ _=>.inr ⟨?_,rfl⟩,hst,hs.env.mono htr,.junk _,rfl⟩
 have hne:¬((a.eval x).cells.size≠i.size):=by simp only[ne_eq,Decidable.not_not];omega
 simp only[execOp,Instr.storeAt,Sem.run_bind,hv,Instr.sureAddr,Sem.run_pure,Result.andThen_ok,storeVar,zgf hi]
 rw[if_neg hne]
 simp[hrun]
theorem ykh(hs:zas num C s a){f:FuncId}{caps:Array Operand}{cs:List Src}(hc:caps.toList.mapM (zah num)=some cs):
  zbe num P (.makeFunc (.func f) #[] caps) ty pos after a C s (.clo (num f) (cs.map s.env.ev)) s:=by
 have key:∀(l:List Operand) (cs:List Src),l.mapM (zah num)=some cs->l.length=cs.length/\∀(j:Nat) (x:AV) u,(cs.map s.env.ev)[j]?=some x->(l.map a.eval)[j]?=some u->ARep num C x u:=by
  intro l
  induction l with
  |nil=>intro cs h;simp at h;subst h;exact⟨rfl,fun j x u hx=>by simp at hx⟩
  |cons y l ih=>
   intro cs h
   simp only[xa5,xb0,xb5,xch,xaf]at h
   obtain⟨y',hy,l',hl,rfl⟩:=h
   obtain⟨h1,h2⟩:=ih l' hl
   refine⟨by simp[h1],fun j x u hx hu=>?_⟩
   cases j with
   |zero=>simp at hx hu;subst hx hu;exact zba hs hy
   |succ j=>simp at hx hu;exact h2 j x u (by simpa using hx) (by simpa using hu)
 obtain⟨h1,h2⟩:=key _ _ hc
 refine zbj (v:=.func (.func f) #[] (caps.map a.eval)) hs (fun _ _=>by simp[execOp,Instr.makeFunc]) (.clo f _ _ (by simp[<-h1]) fun j x u hx hu=>h2 j x u hx ?_)
 simpa using hu
end
section
variable {num:Names} {P:Program}
variable {ty:TypeId} {pos:String} {after:Array Edge} {a:Act} {C:Cx} {s:St}
theorem z3w{α β:Type}(g:α->Sem β)(h:α->β)(w:World):∀(l:List α),(∀x∈l,(g x).run P w=.ok (h x) w)->(l.mapM g).run P w=.ok (l.map h) w
 |[],_=>rfl
 |x::l,hx=>by
  simp only[xa5,Sem.run_bind,hx x (by simp),Result.andThen_ok,z3w g h w l (fun y hy=>hx y (by simp[hy])),Sem.run_pure,xa4]
theorem ygo{α β:Type}(g:α->Sem β)(h:α->β)(w:World)(l:Array α)(hx:∀x∈l,(g x).run P w=.ok (h x) w):(l.mapM g).run P w=.ok (l.map h) w:=by
 rw[Array.mapM_eq_mapM_toList]
 simp only[Sem.run_map,z3w g h w l.toList (fun x hm=>hx x (by simpa using hm)),Result.andThen_ok]
 congr 1
 apply Array.ext'
 simp
theorem z0w(off:Nat):∀(l:List Value) (k:Nat) (cur:Array Value),((l.zipIdx k).foldl (fun cs (p:Value×Nat)=>cs.setIfInBounds (off+p.2) p.1) cur).toList=setAll cur.toList (off+k) l
 |[],k,cur=>rfl
 |x::l,k,cur=>by
  simp only[List.zipIdx_cons,List.foldl_cons,setAll]
  rw[z0w off l (k+1)]
  simp[Array.toList_setIfInBounds,xb4]
structure Stands (num:Names) (C:Cx) (cs:List AV) (vs:List Value):Prop where
 len:cs.length=vs.length
 one:∀(j:Nat) u,vs[j]?=some u->u.oneCell'=true
 rep:∀(j:Nat) x u,cs[j]?=some x->vs[j]?=some u->ARep num C x u
theorem Stands.setAll{cs xs:List AV}{vs us:List Value}(h:Stands num C cs vs)(g:Stands num C xs us)(off:Nat):Stands num C (setAll cs off xs) (setAll vs off us):=by
 refine⟨by rw[zse,zse,h.len],fun j u hu=>?_,fun j x u hx hu=>?_⟩
 ·rw[zi5]at hu
  split at hu
  ·exact g.one _ u hu
  ·exact h.one _ u hu
 ·rw[zi5]at hu hx
  rw[h.len,g.len]at hx
  split at hu
  ·rename_i hj
   rw[if_pos hj]at hx
   exact g.rep _ x u hx hu
  ·rename_i hj
   rw[if_neg hj]at hx
   exact h.rep _ x u hx hu
theorem yhf{x:AV}{v:Value}(h:ARep num C x v){cs:List AV}(hc:x.cells=some cs):Stands num C cs v.cells.toList:=by
 obtain⟨h1,h2,h3⟩:=zpk h hc
 exact⟨by simpa using h1,fun j u hu=>h2 j u (by simpa using hu),fun j y u hy hu=>h3 j y u hy (by simpa using hu)⟩
theorem z4f{zs:List Value}(h:zs.all zdy=true):Stands num C (imZ zs) zs:=by
 have h1:∀(j:Nat) u,zs[j]?=some u->u.oneCell'=true:=by
  intro j u hu
  rw[<-zjs]
  exact xai.1 h u (xah hu)
 refine⟨by simp[imZ],h1,fun j x u hx hu=>?_⟩
 simp only[imZ,xar,hu,xao,xaf]at hx
 subst hx
 exact .imm _ _ (.val u (h1 j u hu))
theorem zv3(hs:zas num C s a)(place:Nat->Option (Nat×Nat)):∀(ps:List (Nat×Operand)) (qs:List (Nat×Nat×Src)) (cs r:List AV) (cur:Array Value),zib num place ps=some qs->
  Stands num C cs cur.toList->zco cs (qs.map fun (o,n,x)=>(o,n,s.env.ev x))=some r->∃cur',Instr.fill place cur (ps.map fun (i,x)=>(i,a.eval x))=some cur'/\Stands num C r cur'.toList
 |[],qs,cs,r,cur,hq,hc,hr=>by
  simp[zib]at hq
  subst hq
  cases hr
  exact⟨cur,rfl,hc⟩
 |(i,x)::ps,qs,cs,r,cur,hq,hc,hr=>by
  unfold zib at hq
  simp only[xa5,xb0,xb5,xch,xaf]at hq
  obtain⟨q,hq1,l,hq2,rfl⟩:=hq
  cases hp:place i with
  |none=>simp[hp]at hq1
  |some on=>
   obtain⟨o,n⟩:=on
   cases hx:zah num x with
   |none=>simp[hp,hx]at hq1
   |some y=>
    simp[hp,hx]at hq1
    subst hq1
    simp only[xa4,zco]at hr
    cases hce:(s.env.ev y).cells with
    |none=>simp[hce]at hr
    |some vs=>
     simp only[hce]at hr
     split at hr
     ·rename_i hb
      have hst:=yhf (zba hs hx) hce
      have hvl:(a.eval x).cells.size=n:=by have:=hst.len;simp at this;omega
      have hcl:cs.length=cur.size:=by have:=hc.len;simpa using this
      have hcur:((a.eval x).cells.zipIdx.foldl (fun cs (p:Value×Nat)=>cs.setIfInBounds (o+p.2) p.1) cur).toList=setAll cur.toList o (a.eval x).cells.toList:=by
       rw[<-Array.foldl_toList,Array.toList_zipIdx]
       exact z0w o _ 0 cur
      obtain⟨cur',h1,h2⟩:=zv3 hs place ps l (setAll cs o vs) r _ hq2 (by rw[hcur];exact hc.setAll hst o) hr
      refine⟨cur',?_,h2⟩
      simp only[xa4,Instr.fill,hp]
      have hsz:(((a.eval x).cells.size != n)||decide (o+(a.eval x).cells.size>cur.size))=false:=by
       simp only[Bool.or_eq_false_iff,bne_eq_false_iff_eq,decide_eq_false_iff_not]
       omega
      rw[if_neg (by simpa using hsz)]
      exact h1
     ·cases hr
theorem z5r{t:TypeId}{zs:List Value}(h:zd9 P t=some zs)(w:World):∃z,(zeroValue t).run P w=.ok z w/\z.cells.toList=zs:=by
 unfold zd9 at h
 cases hi:P.info? t with
 |none=>simp[hi]at h
 |some i=>
  cases hz:i.zero with
  |none=>simp[hi,hz]at h
  |some z=>simp[hi,hz]at h;exact⟨z,by simp[zeroValue,typeInfo,hi,hz],h⟩
theorem z5h(hs:zas num C s a){t:TypeId}{ps:Array (Nat×Operand)}{zs:List Value}(hz:zd9 P t=some zs)(hone:zs.all zdy=true){place:Nat->Option (Nat×Nat)}{qs:List (Nat×Nat×Src)}(hq:zib num place ps.toList=some qs)
  (hp:(∃fs,P.underlying t=some (.struct fs)/\(fs.all fun f=>known P f.type)=true/\place=fun (i:Nat)=>(fs[i]?).map fun (f:Field)=>(f.offset,P.cellsOf f.type))\/(∃n e,P.underlying t=some (.array n e)/\known P e=true/\place=fun i=>some (i*P.cellsOf e,P.cellsOf e)))
  {r:List AV} (hr:zco (imZ zs) (qs.map fun (o,n,x)=>(o,n,s.env.ev x))=some r):zbe num P (.build t ps) ty pos after a C s (.agg r) s:=by
 obtain⟨z,hzr,hzc⟩:=z5r hz C.w
 obtain⟨cur,h1,h2⟩:=zv3 hs place ps.toList qs (imZ zs) r z.cells hq (by rw[hzc];exact z4f hone) hr
 refine zbj (v:=.agg cur) hs (fun _ _=>?_) (.agg r cur (by have:=h2.len;simpa using this) (fun j u hu=>h2.one j u (by simpa using hu)) fun j x u hx hu=>h2.rep j x u hx (by simpa using hu))
 have hlist:(ps.map fun (p:Nat×Operand)=>(p.1,a.eval p.2)).toList=ps.toList.map fun (p:Nat×Operand)=>(p.1,a.eval p.2):=by simp
 rcases hp with⟨fs,ht,hk,rfl⟩|⟨n,e,ht,hk,rfl⟩
 ·have hm:(fs.mapM fun (f:Field)=>(do pure (f.offset,<-sizeOf f.type):Sem (Nat×Nat))).run P C.w=.ok (fs.map fun (f:Field)=>(f.offset,P.cellsOf f.type)) C.w:=by
   refine ygo _ _ C.w fs fun f hf=>?_
   have hkf:known P f.type=true:=by
    rw[xb9]at hk
    exact hk f hf
   obtain⟨i,d,hi,hd,hsz,_⟩:=zd7 hkf
   simp only[Sem.run_bind,zgf hi,Result.andThen_ok,Sem.run_pure,hsz]
  simp only[execOp,Instr.build,Sem.run_bind,hzr,Result.andThen_ok,run_underlying ht,hm]
  have hpl:(fun (i:Nat)=>(fs.map fun (f:Field)=>(f.offset,P.cellsOf f.type))[i]?)=fun (i:Nat)=>(fs[i]?).map fun (f:Field)=>(f.offset,P.cellsOf f.type):=by funext i;simp
  rw[hpl,hlist,h1]
  rfl
 ·obtain⟨i,d,hi,hd,hsz,_⟩:=zd7 hk
  simp only[execOp,Instr.build,Sem.run_bind,hzr,Result.andThen_ok,run_underlying ht,zgf hi]
  rw[<-hsz,hlist,h1]
  rfl
theorem zz2{α:Type}(n:Nat)(l:List α):(zaq n l).length=n*l.length:=by
 induction n with
 |zero=>simp[zaq]
 |succ n ih=>simp[zaq,ih,Nat.succ_mul,Nat.add_comm]
theorem z7v{α:Type}(n:Nat)(l:List α):∀(j:Nat),j<n*l.length->(zaq n l)[j]?=l[j%l.length]?:=by
 induction n with
 |zero=>intro j h;simp at h
 |succ n ih=>
  intro j h
  simp only[zaq]
  rcases xa1 j l.length with h1|h1
  ·rw[xac h1,Nat.mod_eq_of_lt h1]
  ·rw[xag h1,ih (j-l.length) (by rw[Nat.succ_mul]at h;omega)]
   congr 1
   rw[<-Nat.mod_eq_sub_mod h1]
theorem z25(z:Array Value)(n k:Nat)(hz:z.size=k)(hk:0<k):((Array.range (n*k)).map (z[· %z.size]!)).toList=zaq n z.toList:=by
 apply xbf
 intro j
 have hzl:z.toList.length=k:=by simpa using hz
 rcases xa1 j (n*k)with h|h
 ·rw[z7v n z.toList j (by rw[hzl];exact h)]
  have hm:j%k<z.size:=by rw[hz];exact Nat.mod_lt _ hk
  simp[h,hz,getElem!_pos z (j%k) hm]
 ·rw[xaq (by simp;exact h),xaq (by rw[zz2,hzl];exact h)]
theorem zz1{n:Nat}{zs:List Value}(h:zs.all zdy=true):(zaq n zs).all zdy=true:=by
 induction n with
 |zero=>rfl
 |succ n ih=>simp only[zaq,xc2,h,ih];rfl
theorem ycc{D:Cx}{id:Nat}{cs:List AV}{vs:Array Value}{e:TypeId}(h:Stands num D cs vs.toList)(hw:D.w.heap[D.σ id]?=some (.cells vs e (0,0))):zc4 num D id (zbp cs):=by
 unfold zbp
 have hg:∀(j:Nat) x,cs[j]?=some x->∃u,vs[j]?=some u/\u.oneCell'=true/\ARep num D x u:=by
  intro j x hx
  have hj:j<vs.toList.length:=by rw[<-h.len];exact(xab.1 hx).1
  have hu:vs.toList[j]?=some vs.toList[j]:=xaa hj
  exact⟨vs.toList[j],by rw[<-Array.getElem?_toList];exact hu,h.one j _ hu,h.rep j x _ hx hu⟩
 split
 ·rename_i xs hx
  refine⟨vs,e,hw,fun j x hj=>?_⟩
  have:=ziy cs xs hx
  obtain⟨u,h1,_,h3⟩:=hg j (.imm x) (by rw[this,xar,hj];rfl)
  cases h3 with|imm _ _ hr=>exact⟨u,h1,hr⟩
 ·exact⟨vs,e,hw,hg⟩
theorem yhg{D:Cx}(t:Tr some C D){cs:List AV}{vs:List Value}(h:Stands num C cs vs):Stands num D cs vs:=⟨h.len,h.one,fun j x u hx hu=>(h.rep j x u hx hu).mono t⟩
theorem zo0{w1:World}(hw1:w1.heap=C.w.heap)(arr:Array Value)(e:TypeId){len c sz:Nat}{cap:Option Nat}(hl:len<=c/\c<=9223372036854775807)(hk:∀k,cap=some k->c=k)(hs:c=0\/c*sz<=arr.size):
  ARep num (C.more w1 (.cells arr e (0,0))) (.osl C.n 0 sz len cap) (.slice (some ⟨C.w.heap.size,0,none⟩) len c):=by
 have:C.w.heap.size=(C.more w1 (.cells arr e (0,0))).σ C.n:=by simp[Cx.more]
 rw[this]
 refine .osl0 C.n 0 sz len cap c 0 arr e (by simp[Cx.more]) hl hk (.inl rfl) ?_ (by simpa using hs)
 simp only[Cx.more,if_true]
 rw[zd4,if_pos (by rw[hw1])]
theorem yj2(hs:zas num C s a){t e:TypeId}{len:Nat}{ps:Array (Nat×Operand)}{zs:List Value}(ht:P.underlying t=some (.slice e))(hz:zd9 P e=some zs)(hk:known P e=true)(hone:zs.all zdy=true)(hbig:len*P.cellsOf e<=16777216)
  (h0:0<P.cellsOf e) (hzl:zs.length=P.cellsOf e) {qs:List (Nat×Nat×Src)} (hq:zib num (fun i=>some (i*P.cellsOf e,P.cellsOf e)) ps.toList=some qs)
  {r:List AV} (hr:zco (imZ (zaq len zs)) (qs.map fun (o,n,x)=>(o,n,s.env.ev x))=some r):
  zbe num P (.buildSlice t len ps) ty pos after a C s (.osl s.mem.length 0 (P.cellsOf e) len (some len)) { s with mem:=s.mem++[zbp r] }:=by
 obtain⟨i,d,hi,hd,hsz,_⟩:=zd7 hk
 obtain⟨z,hzr,hzc⟩:=z5r hz C.w
 have hzs:z.cells.size=P.cellsOf e:=by rw[<-hzl,<-hzc];simp
 have hcells:=z25 z.cells len (P.cellsOf e) hzs h0
 obtain⟨cur,h1,h2⟩:=zv3 hs (fun i=>some (i*P.cellsOf e,P.cellsOf e)) ps.toList qs (imZ (zaq len zs)) r ((Array.range (len*P.cellsOf e)).map (z.cells[· %z.cells.size]!)) hq (by rw[hcells,hzc];exact z4f (zz1 hone)) hr
 have hlen:=hs.mem.len
 have hrl:cur.size=len*P.cellsOf e:=by
  have h3:=h2.len
  have h4:∀(l:List (Nat×Nat×AV)) (cs r:List AV),zco cs l=some r->r.length=cs.length:=by
   intro l
   induction l with
   |nil=>intro cs r h;cases h;rfl
   |cons x l ih=>
    intro cs r h
    obtain⟨o,n,v⟩:=x
    simp only[zco]at h
    cases hv:v.cells with
    |none=>simp[hv]at h
    |some vs=>
     simp only[hv]at h
     split at h
     ·rw[ih _ _ h,zse]
     ·cases h
  have h5:=h4 _ _ _ hr
  simp only[xck]at h3
  rw[<-h3,h5]
  simp[imZ,zz2,hzl]
 have hlist:(ps.map fun (p:Nat×Operand)=>(p.1,a.eval p.2)).toList=ps.toList.map fun (p:Nat×Operand)=>(p.1,a.eval p.2):=by simp
 refine⟨.slice (some ⟨C.w.heap.size,0,none⟩) len len,C.more C.w (.cells cur e (0,0)),fun _ _=>.inl ?_,zh2 hs.mem rfl rfl rfl rfl _ _ (ycc (e:=e) (yhg (zgb hs.mem rfl _) h2) ?_) hs.k,hs.env.mono (zgb hs.mem rfl _),?_,rfl⟩
 ·have hb:¬(len*P.cellsOf e>2^24):=by omega
  have hi2:(sizeOf e).run P C.w=.ok (P.cellsOf e) C.w:=by rw[zgf hi,hsz]
  simp only[execOp,Instr.buildSlice,Sem.run_bind,run_underlying ht,Result.andThen_ok,hi2]
  rw[if_neg hb]
  by_cases h00:len*P.cellsOf e=0
  ·have hl0:len=0:=by rcases Nat.mul_eq_zero.1 h00 with h|h;exact h;omega
   subst hl0
   rw[if_pos h00]
   have hemp:((Array.range (0*P.cellsOf e)).map ((#[]:Array Value)[· %(#[]:Array Value).size]!))=(Array.range (0*P.cellsOf e)).map (z.cells[· %z.cells.size]!):=by simp
   simp only[Sem.run_pure,Result.andThen_ok,hemp,hlist,h1,newRow,Sem.run_bind,run_newObj]
   rfl
  ·rw[if_neg h00]
   simp only[Sem.run_bind,hzr,Result.andThen_ok,Sem.run_pure,hlist,h1,newRow,run_newObj]
   rfl
 ·simp only[Cx.more,if_true]
  rw[zd4,if_pos rfl]
 ·rw[hlen]
  exact zo0 rfl cur e ⟨xap _,by have:len<=len*P.cellsOf e:=Nat.le_mul_of_pos_right _ (by assumption);omega⟩ (fun k hk=>by cases hk;rfl) (.inr (by rw[hrl];exact xap _))
theorem ykg(hs:zas num C s a){t e:TypeId}{l c:Operand}{l' c':Src}{zs:List Value}(ht:P.underlying t=some (.slice e))(hz:zd9 P e=some zs)(hk:known P e=true)(hone:zs.all zdy=true)
  (h0:0<P.cellsOf e) (hzl:zs.length=P.cellsOf e) (hl:zah num l=some l') (hc:zah num c=some c') {i j:Int} (hi:zdd (s.env.ev l')=some i) (hj:zdd (s.env.ev c')=some j) (hb:0<=i/\i<=j/\P.bytesOf e*j<=281474976710656/\j<=9223372036854775807):
  zbe num P (.makeSlice t l c) ty pos after a C s (.osl s.mem.length 0 (P.cellsOf e) i.toNat (some j.toNat)) { s with mem:=s.mem++[.flat (zaq j.toNat (zs.map .val)) false] }:=by
 obtain⟨inf,d,hinf,hd,hsz,hby⟩:=zd7 hk
 obtain⟨kl,hle,_⟩:=zh8 (zba hs hl) hi
 obtain⟨kc,hce,_⟩:=zh8 (zba hs hc) hj
 obtain⟨z,hzi,hzc⟩:∃z,inf.zero=some z/\z.cells.toList=zs:=by
  unfold zd9 at hz
  rw[hinf]at hz
  cases hzi:inf.zero with
  |none=>simp[hzi]at hz
  |some z=>simp[hzi]at hz;exact⟨z,rfl,hz⟩
 have hzs:z.cells.size=P.cellsOf e:=by rw[<-hzl,<-hzc];simp
 have hlen:=hs.mem.len
 have hrun:=run_make (P:=P) C.w t e inf z ht hinf hzi kl kc i j hb.1 hb.2.1 (by rw[<-hby];exact hb.2.2.1) hb.2.2.2
 have hcells:(madeCells z.cells (j.toNat*inf.size)).toList=zaq j.toNat zs:=by
  rw[<-hsz,<-hzc];exact z25 z.cells j.toNat (P.cellsOf e) hzs h0
 have hsize:(madeCells z.cells (j.toNat*inf.size)).size=j.toNat*P.cellsOf e:=by rw[size_madeCells,hsz]
 refine⟨.slice (some ⟨C.w.heap.size,0,none⟩) i.toNat j.toNat,C.more C.w (.cells (madeCells z.cells (j.toNat*inf.size)) e (0,0)),fun _ _=>.inl ?_,zh2 hs.mem rfl rfl rfl rfl _ _ ?_ hs.k,hs.env.mono (zgb hs.mem rfl _),?_,rfl⟩
 ·simp only[execOp,hle,hce,Sem.run_bind,hrun,Result.andThen_ok]
  rfl
 ·refine⟨madeCells z.cells (j.toNat*inf.size),e,?_,fun k x hx=>?_⟩
  ·simp only[Cx.more,if_true]
   rw[zd4,if_pos rfl]
  ·have hcm:zaq j.toNat (zs.map IV.val)=(zaq j.toNat zs).map .val:=by
    generalize j.toNat=n
    induction n with
    |zero=>rfl
    |succ n ih=>simp[zaq,ih]
   rw[hcm,xar]at hx
   cases hq:(zaq j.toNat zs)[k]? with
   |none=>simp[hq]at hx
   |some u=>
    simp[hq]at hx
    subst hx
    rw[<-hcells]at hq
    refine⟨u,by simpa using hq,.val u ?_⟩
    rw[hcells]at hq
    rw[<-zjs]
    exact xai.1 (zz1 hone) u (xah hq)
 ·rw[hlen]
  exact zo0 rfl _ e (by omega) (fun k hk=>by cases hk;rfl) (.inr (by rw[hsize];exact xap _))
end
section
variable {num:Names} {P:Program}
variable {ty:TypeId} {pos:String} {after:Array Edge} {a:Act} {C:Cx} {s:St}
theorem z2o(hs:zas num C s a){x:Option Operand}{y:Option Src}(h:x.mapM (zah num)=some y):(x=none/\y=none)\/∃o z,x=some o/\y=some z/\ARep num C (s.env.ev z) (a.eval o):=by
 cases x with
 |none=>simp at h;exact .inl ⟨rfl,h.symm⟩
 |some o=>
  cases ho:zah num o with
  |none=>simp[ho]at h
  |some z=>simp[ho]at h;exact .inr ⟨o,z,rfl,h.symm,zba hs ho⟩
theorem zpo(hs:zas num C s a){lo hi:Option Operand}{lo' hi':Option Src}(hl:lo.mapM (zah num)=some lo')(hh:hi.mapM (zah num)=some hi'){len cap cap':Nat}{l h:Nat}(isS:Bool)
  (hb:zio len cap' (lo'.map s.env.ev) (hi'.map s.env.ev)=some (l,h)) (hc:cap'<=cap) (w:World):
  (Instr.sliceBounds isS len cap (lo.map a.eval) (hi.map a.eval) none).run P w=.ok (l,h,cap) w/\l<=h/\h<=cap':=by
 unfold zio at hb
 cases e1:zin len (hi'.map s.env.ev)with
 |none=>simp[e1]at hb
 |some h1=>
  cases e2:zin 0 (lo'.map s.env.ev)with
  |none=>simp[e1,e2]at hb
  |some l1=>
   simp only[e1,e2]at hb
   split at hb
   ·rename_i hx
    simp only[xaf,xay]at hb
    obtain⟨rfl,rfl⟩:=hb
    refine⟨?_,by omega,by omega⟩
    have hB:∀(o:Operand) (z:Src) (n:Int) (top:Nat) code,ARep num C (s.env.ev z) (a.eval o)->zdd (s.env.ev z)=some n->0<=n->n<=(top:Int)->(Instr.sliceBound (a.eval o) top code).run P w=.ok n.toNat w:=by
     intro o z n top code ho hn h0 h1
     obtain⟨k,hv,_⟩:=zh8 ho hn
     simp only[hv,Instr.sliceBound,asIntOf,Sem.run_bind,Sem.run_pure,Result.andThen_ok]
     rw[if_pos ⟨h0,h1⟩]
     rfl
    rcases z2o hs hh with⟨rfl,rfl⟩|⟨o,z,rfl,rfl,ho⟩<;>rcases z2o hs hl with⟨rfl,rfl⟩|⟨o2,z2,rfl,rfl,ho2⟩
    ·simp only[xci,zin,xaf]at e1 e2
     subst e1 e2
     simp[Instr.sliceBounds]
    ·simp only[xci,xao,zin,xaf]at e1 e2
     subst e1
     have h2:=hB o2 z2 l1 len .sliceB ho2 e2 (by omega) (by omega)
     simp[Instr.sliceBounds,h2]
    ·simp only[xci,xao,zin,xaf]at e1 e2
     subst e2
     have h2:=hB o z h1 cap (if isS then .sliceAcap else .sliceAlen) ho e1 (by omega) (by omega)
     simp only[xao,xci,Instr.sliceBounds,Sem.run_bind,Sem.run_pure,Result.andThen_ok,h2]
     rfl
    ·simp only[xao,zin]at e1 e2
     have h2:=hB o z h1 cap (if isS then .sliceAcap else .sliceAlen) ho e1 (by omega) (by omega)
     have h3:=hB o2 z2 l1 h1.toNat .sliceB ho2 e2 (by omega) (by omega)
     simp only[xao,Instr.sliceBounds,Sem.run_bind,Sem.run_pure,Result.andThen_ok,h2,Option.isSome_none,xan,if_false,h3]
   ·cases hb
theorem yko(hs:zas num C s a){t:TypeId}{x:Operand}{x':Src}{lo hi:Option Operand}{lo' hi':Option Src}(hx:zah num x=some x')(hl:lo.mapM (zah num)=some lo')(hh:hi.mapM (zah num)=some hi')(ht:P.underlying t=some .string)
  {b:ByteArray} (hb:s.env.ev x'=.imm (.val (.string b))) {l h:Nat} (hbd:zio b.size b.size (lo'.map s.env.ev) (hi'.map s.env.ev)=some (l,h)):
  zbe num P (.slice t x lo hi none) ty pos after a C s (.imm (.val (.string (b.extract l h)))) s:=by
 have hu:=zgj hs hx hb
 have hr:=zpo (P:=P) hs hl hh false hbd (xap _) C.w
 refine zbj (v:=.string (b.extract l h)) hs (fun _ _=>?_) (.imm _ _ (.val _ rfl))
 simp[execOp,hu,Instr.sliceAt,Instr.slice,run_underlying ht,hr.1]
theorem ykm(hs:zas num C s a){t e:TypeId}{x:Operand}{x':Src}{lo hi:Option Operand}{lo' hi':Option Src}(hx:zah num x=some x')(hl:lo.mapM (zah num)=some lo')(hh:hi.mapM (zah num)=some hi')(ht:P.underlying t=some (.slice e))(hk:known P e=true)
  {y:AV} (hy:zf6 (P.cellsOf e) (s.env.ev x') (lo'.map s.env.ev) (hi'.map s.env.ev)=some y):
  zbe num P (.slice t x lo hi none) ty pos after a C s y s:=by
 obtain⟨inf,d,hinf,hd,hsz,_⟩:=zd7 hk
 have h1:=zba hs hx
 have hi2:∀w,(sizeOf e).run P w=.ok (P.cellsOf e) w:=fun w=>by rw[zgf hinf,hsz]
 generalize hu:a.eval x=u at h1
 have run:∀(b:Option Addr) len c l h,u=.slice b len c->(Instr.sliceBounds true len c (lo.map a.eval) (hi.map a.eval) none).run P C.w=.ok (l,h,c) C.w->
   ∀dst g,(execOp a.eval ⟨dst,.slice t x lo hi none,ty,pos,after,g⟩).run P C.w=.ok (.value (.slice (if c=l then b else b.map (·.add (l*P.cellsOf e))) (h-l) (c-l))) C.w:=by
  intro b len c l h hb hr dst g
  simp[execOp,hu,hb,Instr.sliceAt,Instr.slice,run_underlying ht,hr,hi2]
 unfold zf6 at hy
 split at hy
 ·rename_i heq
  simp only[xad]at hy
  obtain⟨⟨l,h⟩,hb,rfl⟩:=hy
  rw[heq]at h1
  have:=zbw h1
  subst this
  obtain⟨hr1,hr2,hr3⟩:=zpo (P:=P) hs hl hh true hb (xap 0) C.w
  refine zbj hs (run none 0 0 l h rfl hr1) ?_
  rw[heq]
  have h00:h-l=0:=by omega
  simp only[xci,ite_self,h00,Nat.zero_sub]
  exact h1
 ·rename_i row off len cap heq
  simp only[xad]at hy
  obtain⟨⟨l,h⟩,hb,rfl⟩:=hy
  rw[heq]at h1
  cases h1 with
  |imm _ _ h1=>cases h1 with
   |slice _ _ _ _ b o c ad u' hI hc hu' hlc hk' ha=>
    have hcap:cap.getD len<=c:=by cases cap with|none=>exact hlc|some k=>simp[hk' k rfl]
    obtain⟨hr1,hr2,hr3'⟩:=zpo (P:=P) hs hl hh true hb hcap C.w
    have hr3:h<=c:=xb1 hr3' hcap
    refine zbj hs (run _ len c l h rfl hr1) ?_
    simp only[xao,zel]
    by_cases hcl:c=l
    ·rw[if_pos hcl]
     refine .imm _ _ (.slice row _ _ _ b o (c-l) ad u' hI hc hu' (by omega) ?_ (.inr (by omega)))
     intro k hk2
     cases cap with
     |none=>simp at hk2
     |some k0=>simp at hk2;rw[hk' k0 rfl];exact hk2
    ·rw[if_neg hcl]
     refine .imm _ _ (.slice row _ _ _ b o (c-l) _ u' hI hc hu' (by omega) ?_ ?_)
     ·intro k hk2
      cases cap with
      |none=>simp at hk2
      |some k0=>simp at hk2;rw[hk' k0 rfl];exact hk2
     ·rcases ha with rfl|rfl
      ·left;omega
      ·right;omega
   |vac _ _ ad=>
    obtain⟨hr1,hr2,hr3⟩:=zpo (P:=P) hs hl hh true hb (xap 0) C.w
    have hh0:h=0:=by simpa using hr3
    have hl0:l=0:=by omega
    subst hh0
    subst hl0
    refine zbj hs (run _ 0 0 0 0 rfl hr1) ?_
    simp only[if_true,Nat.sub_zero,xao,Nat.zero_mul,xbi]
    exact .imm _ _ (.vac row off ad)
 ·rename_i id off sz' len cap heq
  split at hy
  ·rename_i hsz'
   subst hsz'
   simp only[xad]at hy
   obtain⟨⟨l,h⟩,hb,rfl⟩:=hy
   rw[heq]at h1
   cases h1 with
   |osl _ _ _ _ _ c ad arr e' hid hlc hk' ha hw hss=>
    have hcap:cap.getD len<=c:=by cases cap with|none=>exact hlc.1|some k=>simp[hk' k rfl]
    obtain⟨hr1,hr2,hr3'⟩:=zpo (P:=P) hs hl hh true hb hcap C.w
    have hr3:h<=c:=xb1 hr3' hcap
    refine zbj hs (run _ len c l h rfl hr1) ?_
    simp only[xao,zel]
    have hcap2:∀k,cap.map (· -l)=some k->c-l=k:=by
     intro k hk2
     cases cap with
     |none=>simp at hk2
     |some k0=>simp at hk2;rw[hk' k0 rfl];exact hk2
    have hfit:c-l=0\/off+l*P.cellsOf e+(c-l)*P.cellsOf e<=arr:=by
     rcases hss with h0|h0
     ·left;omega
     ·right
      rw[xb4,<-Nat.add_mul]
      have:l+(c-l)=c:=by omega
      rw[this];exact h0
    by_cases hcl:c=l
    ·rw[if_pos hcl]
     exact .osl id _ _ _ _ (c-l) ad arr e' hid (by omega) hcap2 (.inr (by omega)) hw (.inl (by omega))
    ·rw[if_neg hcl]
     refine .osl id _ _ _ _ (c-l) _ arr e' hid (by omega) hcap2 ?_ hw hfit
     rcases ha with rfl|rfl
     ·exact .inl rfl
     ·right;omega
  ·cases hy
 ·cases hy
theorem ykn(hs:zas num C s a){t e:TypeId}{x:Operand}{x':Src}{h m:Operand}{h' m':Src}(hx:zah num x=some x')(hh:zah num h=some h')(hm:zah num m=some m')(ht:P.underlying t=some (.slice e))(hk:known P e=true)
  {y:AV} (hy:zfj (P.cellsOf e) (s.env.ev x') (s.env.ev h') (s.env.ev m')=some y):
  zbe num P (.slice t x none (some h) (some m)) ty pos after a C s y s:=by
 obtain⟨inf,d,hinf,hd,hsz,_⟩:=zd7 hk
 have h1:=zba hs hx
 have h2:=zba hs hh
 have h3:=zba hs hm
 have hi2:∀w,(sizeOf e).run P w=.ok (P.cellsOf e) w:=fun w=>by rw[zgf hinf,hsz]
 generalize hu:a.eval x=u at h1
 unfold zfj at hy
 split at hy
 ·rename_i hn mn e1 e2
  obtain⟨k1,hv1,_⟩:=zh8 h2 e1
  obtain⟨k2,hv2,_⟩:=zh8 h3 e2
  have run:∀(b:Option Addr) len c,u=.slice b len c->0<=hn->hn<=mn->mn<=(c:Int)->
    ∀dst g,(execOp a.eval ⟨dst,.slice t x none (some h) (some m),ty,pos,after,g⟩).run P C.w=.ok (.value (.slice (if mn.toNat=0 then b else b.map (·.add (0*P.cellsOf e))) hn.toNat mn.toNat)) C.w:=by
   intro b len c hb g0 g1 g2 dst g
   have q1:(0:Int)<=mn:=by omega
   have q2:(hn:Int)<=(mn.toNat:Int):=by omega
   have q3:(mn.toNat:Int)=mn:=by omega
   simp[execOp,hu,hb,Instr.sliceAt,Instr.slice,run_underlying ht,hi2,Instr.sliceBounds,Instr.sliceBound,asIntOf,hv1,hv2,g0,g1,g2,q1,q3]
  split at hy
  ·rename_i heq
   split at hy
   ·rename_i hc
    cases hy
    rw[heq]at h1 ⊢
    have:=zbw h1
    subst this
    refine zbj hs (run none 0 0 rfl (by omega) (by omega) (by omega)) ?_
    have q1:hn.toNat=0:=by omega
    have q2:mn.toNat=0:=by omega
    simp only[xci,ite_self,q1,q2]
    exact h1
   ·cases hy
  ·rename_i row off len cap heq
   split at hy
   ·rename_i hc
    cases hy
    rw[heq]at h1
    cases h1 with
    |imm _ _ h1=>cases h1 with
     |slice _ _ _ _ b o c ad u' hI hc' hu' hlc hk' ha=>
      have hcap:cap.getD len<=c:=by cases cap with|none=>exact hlc|some k=>simp[hk' k rfl]
      refine zbj hs (run _ len c rfl hc.1 hc.2.1 (by omega)) ?_
      simp only[xao,zel,Nat.zero_mul,xbi,ite_self]
      refine .imm _ _ (.slice row _ _ _ b o mn.toNat ad u' hI hc' hu' (by omega) (fun k hk2=>xau hk2) ?_)
      rcases ha with rfl|rfl
      ·exact .inl rfl
      ·right;omega
     |vac _ _ ad=>
      have hc2:=hc.2.2
      simp only[xa0]at hc2
      refine zbj hs (run _ 0 0 rfl hc.1 hc.2.1 (by omega)) ?_
      have q1:hn.toNat=0:=by omega
      have q2:mn.toNat=0:=by omega
      simp only[if_true,q1,q2]
      exact .imm _ _ (.vac row off ad)
   ·cases hy
  ·rename_i id off sz' len cap heq
   split at hy
   ·rename_i hc
    cases hy
    rw[heq]at h1
    cases h1 with
    |osl _ _ _ _ _ c ad arr e' hid hlc hk' ha hw hss=>
     have hcap:cap.getD len<=c:=by cases cap with|none=>exact hlc.1|some k=>simp[hk' k rfl]
     obtain⟨rfl,hc1,hc2,hc3⟩:=hc
     refine zbj hs (run _ len c rfl hc1 hc2 (by omega)) ?_
     simp only[xao,zel,Nat.zero_mul,xbi,ite_self]
     refine .osl id off _ _ _ mn.toNat ad arr e' hid ⟨by omega,by omega⟩ (fun k hk2=>xau hk2) ?_ hw ?_
     ·rcases ha with rfl|rfl
      ·exact .inl rfl
      ·right;omega
     ·rcases hss with h0|h0
      ·left;omega
      ·right
       have:mn.toNat*P.cellsOf e<=c*P.cellsOf e:=xb6 _ (by omega)
       omega
   ·cases hy
  ·cases hy
 ·cases hy
end
section
variable {num:Names} {P:Program}
variable {ty:TypeId} {pos:String} {after:Array Edge} {a:Act} {C:Cx} {s:St}
structure zqt (num:Names) (P:Program) (C:Cx) (sz:Nat) (v:Value) (n:Nat) (news:List IV) (us:Array Value):Prop where
 len:∀w,(Builtin.lenOf v).run P w=.ok n w
 cells:∀w,w.heap=C.w.heap->(Builtin.firstCells sz n v).run P w=.ok us w
 size:us.size=n*sz
 count:news.length=n*sz
 rep:∀(j:Nat) x,news[j]?=some x->∃u,us[j]?=some u/\IRep C.I C.w x u
theorem z1f{w w':World}(h:w'.heap=w.heap)(ad:Addr):w'.cell? ad=w.cell? ad:=by simp[World.cell?,h]
theorem zxd{b o n:Nat}{r:List IV}(h:∀(j:Nat) x,r[j]?=some x->∃u:Value,C.w.cell? ⟨b,o+j,none⟩=some u/\IRep C.I C.w x u)(hl:r.length=n):
  ∃us:Array Value,(∀w,w.heap=C.w.heap->(loadCells ⟨b,o,none⟩ n).run P w=.ok us w)/\us.size=n/\∀(j:Nat) x,r[j]?=some x->∃u,us[j]?=some u/\IRep C.I C.w x u:=by
 let f:Nat->Value:=fun j=>(C.w.cell? ⟨b,o+j,none⟩).getD undef
 have hf:∀j,j<n->C.w.cell? ((⟨b,o,none⟩:Addr).add j)=some (f j):=by
  intro j hj
  obtain⟨u,hu,_⟩:=h j r[j] (xaa (by omega))
  rw[zel,hu]
  simp[f,hu]
 refine⟨((List.range n).map f).toArray,fun w hw=>run_loadCells w _ n f (fun j hj=>by rw[z1f hw];exact hf j hj),by simp,fun j x hx=>?_⟩
 obtain⟨u,hu,hr⟩:=h j x hx
 have hj:j<n:=by rw[<-hl];exact(xab.1 hx).1
 exact⟨u,by simp[f,hu,hj],hr⟩
theorem zrd{m:Mem}(hm:MRep num C m){sz:Nat}{x:AV}{v:Value}(hx:ARep num C x v){n:Nat}{news:List IV}(h:elems m sz x=some (n,news)):
  ∃us,zqt num P C sz v n news us:=by
 unfold elems at h
 split at h
 ·cases h
  have:=zbw hx
  subst this
  exact⟨#[],⟨fun w=>rfl,fun w _=>rfl,by simp,by simp,fun j x hx=>by simp at hx⟩⟩
 ·rename_i b
  split at h
  ·rename_i h1
   cases h
   subst h1
   have:=zbw hx
   subst this
   have hex:(b.extract 0 b.size).data=b.data:=by rw[ByteArray.data_extract];exact Array.extract_size
   refine⟨b.data.map fun c=>.int .u8 c.toNat,⟨fun w=>rfl,fun w _=>by simp only[Builtin.firstCells,hex,Sem.run_pure],by rw[Array.size_map,Nat.mul_one];rfl,by rw[xam,Nat.mul_one];exact xck,fun j x hx=>?_⟩⟩
   rw[xar]at hx
   cases hq:b.data.toList[j]? with
   |none=>simp[hq]at hx
   |some c=>
    simp[hq]at hx
    subst hx
    have hq':b.data[j]?=some c:=by rw[<-Array.getElem?_toList];exact hq
    exact⟨_,by simp[hq'],.val _ rfl⟩
  ·cases h
 ·rename_i row off len cap
  cases hc:cut row off (len*sz)with
  |none=>simp[hc]at h
  |some r=>
   simp[hc]at h
   obtain⟨rfl,rfl⟩:=h
   cases hx with|imm _ _ hx=>cases hx with
    |slice _ _ _ _ b o c ad u hI hcl hu hl hk ha=>
     have hrl:=zhw hc
     rcases ha with rfl|rfl
     ·have hh:∀(j:Nat) x,r[j]?=some x->∃u':Value,C.w.cell? ⟨b,o+off+j,none⟩=some u'/\IRep C.I C.w x u':=by
       intro j x hx
       have hj:j<len*sz:=by rw[<-hrl];exact(xab.1 hx).1
       have h2:=zai hc j hj
       rw[hx]at h2
       exact⟨u (off+j),by rw[xb4];exact hcl _ x h2,hu _ x h2⟩
      obtain⟨us,h1,h2,h3⟩:=zxd (P:=P) hh hrl
      exact⟨us,⟨fun w=>rfl,fun w hw=>h1 w hw,h2,hrl,h3⟩⟩
     ·have hl0:len=0:=by omega
      subst hl0
      have hr0:r=[]:=xat (by omega)
      subst hr0
      exact⟨#[],⟨fun w=>rfl,fun w _=>by simp[Builtin.firstCells,loadCells,loadCellsFrom],by simp,by simp,fun j x hx=>by simp at hx⟩⟩
    |vac _ _ ad=>
     have hrl:=zhw hc
     have hr0:r=[]:=xat (by omega)
     subst hr0
     exact⟨#[],⟨fun w=>rfl,fun w _=>by simp[Builtin.firstCells,loadCells,loadCellsFrom],by simp,by simp,fun j x hx=>by simp at hx⟩⟩
 ·rename_i id off sz' len cap
  have key:∀r:List IV,r.length=len*sz->(∀(j:Nat) x,r[j]?=some x->∃u:Value,C.w.cell? ⟨C.σ id,off+j,none⟩=some u/\IRep C.I C.w x u)->∃us,zqt num P C sz v len r us:=by
   intro r hrl hh
   cases hx with
   |osl _ _ _ _ _ c ad arr e hid hl hk ha hw hs=>
    rcases ha with rfl|rfl
    ·obtain⟨us,h1,h2,h3⟩:=zxd (P:=P) hh hrl
     exact⟨us,⟨fun w=>rfl,fun w hw=>h1 w hw,h2,hrl,h3⟩⟩
    ·have hl0:len=0:=by omega
     subst hl0
     have hr0:r=[]:=xat (by omega)
     subst hr0
     exact⟨#[],⟨fun w=>rfl,fun w _=>by simp[Builtin.firstCells,loadCells,loadCellsFrom],by simp,by simp,fun j x hx=>by simp at hx⟩⟩
  have hcutmem:∀(l:List AV) (r:List IV),zja num C (C.σ id) 0 l->cut l off (len*sz)=some (r.map .imm)->n=len->news=r->∃us,zqt num P C sz v n news us:=by
   rintro l r hl hc rfl rfl
   have hrl:=zhw hc
   rw[xam]at hrl
   refine key news hrl fun j x hx=>?_
   have hj:j<n*sz:=by rw[<-hrl];exact(xab.1 hx).1
   have h2:=zai hc j hj
   rw[xar,hx]at h2
   obtain⟨u,hu,_,hr⟩:=hl _ _ h2
   cases hr with|imm _ _ hr=>exact⟨u,by rw[xaw]at hu;exact hu,hr⟩
  split at h
  ·rename_i cs mv ho
   cases hc:cut cs off (len*sz)with
   |none=>simp[hc]at h
   |some r=>
    simp[hc]at h
    obtain⟨rfl,rfl⟩:=h
    exact hcutmem _ r (zl2 (hm.obj id _ ho)) (by rw[zof,hc];rfl) rfl rfl
  ·rename_i cs ho
   cases hc:cut cs off (len*sz)with
   |none=>simp[hc]at h
   |some r=>
    simp only[hc]at h
    cases hi:zdx r with
    |none=>simp[hi]at h
    |some r'=>
     simp[hi]at h
     obtain⟨rfl,rfl⟩:=h
     exact hcutmem _ r' (zve (hm.obj id _ ho)) (by rw[hc,ziy r r' hi]) rfl rfl
  ·rename_i cs mv op ho
   cases hc:cut cs off (len*sz)with
   |none=>simp[hc]at h
   |some r=>
    simp[hc]at h
    obtain⟨rfl,rfl⟩:=h
    exact hcutmem _ r (zl2 (mv:=mv) (z1i (hm.obj id _ ho))) (by rw[zof,hc];rfl) rfl rfl
  ·rename_i cs ho
   cases hc:cut cs off (len*sz)with
   |none=>simp[hc]at h
   |some r=>
    simp[hc]at h
    obtain⟨rfl,rfl⟩:=h
    obtain⟨arr,e,h1,_,h2⟩:=hm.obj id _ ho
    exact hcutmem _ r (zl2 (mv:=false) ⟨arr,e,h1,h2⟩) (by rw[zof,hc];rfl) rfl rfl
  ·cases h
 ·cases h
theorem zpn {t u e : TypeId} {d : TypeDesc} {i : TypeInfo} {z : Value} (ht : P.underlying t = some (.slice e)) (hu : P.underlying u = some d) (hd : zmm d = true) (hi : P.info? e = some i) (hz : i.zero = some z)
    (w : World) (b : Option Addr) (l c n : Nat) (v : Value) (olds us : Array Value) (hlen : (Builtin.lenOf v).run P w = .ok n w) (hnew : (Builtin.firstCells i.size n v).run P w.drew = .ok us w.drew)
    (hold : (Builtin.firstCells i.size l (.slice b l c)).run P w.drew = .ok olds w.drew) (hgt : c < l + n) (hby : (l + n) * i.bytes ≤ 140737488355328) (h1 : 0 < i.bytes) :
    (Builtin.append_ #[t, u] ty #[.slice b l c, v]).run P w = .ok (.slice (some ⟨w.heap.size, 0, none⟩) (l + n) (grownCap w (l + n) c e)) (w.drew.alloc (.cells (olds ++ us ++ Builtin.zeroCells z.cells (grownCap w (l + n) c e - (l + n))) e)) := by
  have hn : ¬ (l + n ≤ c) := by omega
  have hle : l + n ≤ 140737488355328 := by
    have := Nat.le_mul_of_pos_right (l + n) h1
    omega
  have h63 : ¬ ((l : Int) + (n : Int) > IntKind.i64.max) := by simp [IntKind.max, IntKind.signed, IntKind.bits]; omega
  have h48 : ¬ (Builtin.nextslicecap (l + n) c * i.bytes > 2 ^ 48) := by have := growslice_fits hgt hby; omega
  have hzr : (zeroValue e).run P w.drew = .ok z w.drew := by simp [zeroValue, typeInfo, hi, hz]
  have hti : ∀ w', (typeInfo e).run P w' = .ok i w' := fun w' => by simp [typeInfo, hi]
  cases d <;> first
    | (cases hd; done)
    | (simp only [Builtin.append_, List.getElem?_toArray, xbw, xba, Sem.run_bind, run_underlying ht, Result.andThen_ok, sizeOf, hti, Sem.run_pure, run_underlying hu, xan, if_false, hlen, hn]
       simp [h48, hti, Question.forced, hold, hnew, hzr, newRow, grownCap]
       intro h9
       exfalso
       omega)
theorem zm0 {t u e : TypeId} {d : TypeDesc} {i : TypeInfo} (ht : P.underlying t = some (.slice e)) (hu : P.underlying u = some d) (hd : zmm d = true) (hi : P.info? e = some i)
    (w : World) (b : Option Addr) (l c n : Nat) (v : Value) (us : Array Value) (hlen : (Builtin.lenOf v).run P w = .ok n w) (hnew : (Builtin.firstCells i.size n v).run P w = .ok us w) (hle : l + n ≤ c) {w' : World}
    (hst : ∀ ad, b = some ad → (storeCells (ad.add (l * i.size)) us.toList).run P w = .ok () w') (hno : b = none → w' = w) :
    (Builtin.append_ #[t, u] ty #[.slice b l c, v]).run P w = .ok (.slice b (l + n) c) w' := by
  have hti : ∀ w', (typeInfo e).run P w' = .ok i w' := fun w' => by simp [typeInfo, hi]
  cases d <;> first
    | (cases hd; done)
    | (simp only [Builtin.append_, List.getElem?_toArray, xbw, xba, Sem.run_bind, run_underlying ht, Result.andThen_ok, sizeOf, hti, Sem.run_pure, run_underlying hu, xan, if_false, hlen, hle, if_true]
       cases b with
       | none => simp [hnew, hno rfl]
       | some ad => simp [hnew, hst ad rfl])
theorem zon{w:World}{need old b:Nat}{e:TypeId}(h:need*b<=140737488355328)(h0:0<b):need<=grownCap w need old e/\grownCap w need old e<=9223372036854775807:=
 ⟨grownCap_ge _ _ _ _,by
  have h1:need<=140737488355328:=xb1 (Nat.le_mul_of_pos_right _ h0) h
  have:=grownCap_le_maxLen w need old e (by unfold maxLen;omega)
  unfold maxLen at this
  omega⟩
theorem zqr(z:Array Value)(n:Nat):(Builtin.zeroCells z n).size=n*z.size:=by simp[Builtin.zeroCells]
end
section
variable {num:Names} {P:Program}
variable {ty:TypeId} {pos:String} {after:Array Edge} {a:Act} {C:Cx} {s:St}
def zix(id:Nat):Nat->Option Nat:=fun j=>if j=id then none else some j
theorem zow{α β:Type}(f:α->β)(l:List α)(i:Nat)(p:β)(h:(l.map f)[i]?=some p):∃q,l[i]?=some q/\p=f q:=by
 rw[xar]at h
 cases hq:l[i]? with
 |none=>simp[hq]at h
 |some q=>simp[hq]at h;exact⟨q,rfl,h.symm⟩
theorem zge(f:Nat->Option Nat)(o:AObj):(o.ren f).live=o.live:=by cases o<;>rfl
theorem zmw(f:Nat->Option Nat)(o:AObj):(o.ren f).moved=o.moved:=by cases o<;>rfl
theorem zro{m:Mem}(hm:MRep num C m){id:Nat}{o:AObj}(ho:m[id]?=some o)(hlo:o.live=true){σ':Nat->Nat}{w':World}(hσ:∀j,j≠id->σ' j=C.σ j)
  (hw:∀b,b<C.w.heap.size->b≠C.σ id->w'.heap[b]?=C.w.heap[b]?) (hsz:∀n e,RowAt C.w (C.σ id) n e->RowAt (w') (C.σ id) n e):
  Tr (zix id) C { C with σ:=σ',w:=w' }:=by
 refine⟨fun _ h=>h,fun b hb=>hw b (hm.bd b hb) fun e=>hm.imm b ⟨id,o,ho,hlo,e.symm⟩ hb,fun i j hi hj=>?_⟩
 unfold zix at hj
 split at hj
 ·cases hj
 ·rename_i hne
  cases hj
  refine⟨hi,hσ i hne,fun arr e h=>?_⟩
  by_cases hc:C.σ i=C.σ id
  ·rw[hc]at h ⊢;exact hsz arr e h
  ·exact h.same (hw _ h.lt hc)
theorem zwr{m:Mem}(hm:MRep num C m){id:Nat}{o:AObj}(ho:m[id]?=some o)(hlo:o.live=true){σ':Nat->Nat}{w':World}(hσ:∀j,j≠id->σ' j=C.σ j)
  (hnew:σ' id=C.σ id\/C.w.heap.size<=σ' id)
  (hos:w'.os=C.w.os) (htp:w'.tape=C.w.tape) (hout:w'.output=C.w.output) (hsize:C.w.heap.size<=w'.heap.size)
  (hw:∀b,b<C.w.heap.size->b≠C.σ id->w'.heap[b]?=C.w.heap[b]?) (hsz:∀n e,RowAt C.w (C.σ id) n e->RowAt (w') (C.σ id) n e)
  {cs:List IV} {mb:Bool} (hr:zc4 num { C with σ:=σ',w:=w' } id (.flat cs mb)) {k:Nat} (hk:k<=m.length) (hof:o.isFix=false:=by rfl) (hmb:id<k->mb=true:=by first|exact fun _=>rfl|(intro hmb;exfalso;omega)):
  Step num k C m { C with σ:=σ',w:=w' } ((m.map (AObj.ren (zix id))).set id (.flat cs mb)):=by
 have ht:=zro hm ho hlo hσ hw hsz
 have hid:id<m.length:=(xab.1 ho).1
 have split:∀(i:Nat) (p:AObj),((m.map (AObj.ren (zix id))).set id (.flat cs mb))[i]?=some p->(i=id/\p=.flat cs mb)\/(i≠id/\∃q,m[i]?=some q/\p=q.ren (zix id)):=by
  intro i p hp
  rw[zhi]at hp
  split at hp
  ·rename_i hi;exact .inl ⟨hi.1.symm,(xau hp).symm⟩
  ·rename_i hi
   obtain⟨q,hq,rfl⟩:=zow _ _ _ _ hp
   refine .inr ⟨fun e=>hi ⟨e.symm,by rw[xam,e];exact hid⟩,q,hq,rfl⟩
 have hown:∀b,Own { C with σ:=σ',w:=w' } ((m.map (AObj.ren (zix id))).set id (.flat cs mb)) b->C.w.heap.size<=b\/Own C m b:=by
  rintro b ⟨i,p,hp,hl,hb⟩
  rcases split i p hp with⟨rfl,rfl⟩|⟨hne,q,hq,rfl⟩
  ·rcases hnew with h|h
   ·exact .inr ⟨i,o,ho,hlo,by rw[<-h];exact hb⟩
   ·exact .inl (by rw[<-hb];exact h)
  ·rw[zge]at hl
   exact .inr ⟨i,q,hq,hl,by rw[<-hσ i hne];exact hb⟩
 have hlt:∀i q,m[i]?=some q->q.live=true->C.σ i<C.w.heap.size:=fun i q hq hl=>MRep.lt num hm ⟨i,q,hq,hl,rfl⟩
 refine⟨⟨by simpa using hm.len,?_,?_,?_,fun b hb=>xbz (hm.bd b hb) hsize,num.up hm.glo ht.imm ht.keep⟩,hos,htp,hout,hsize,?_,?_,fun _ h=>h,fun _ h=>.inl h,hown,?_,by simpa using hk⟩
 ·intro i p hp
  rcases split i p hp with⟨rfl,rfl⟩|⟨hne,q,hq,rfl⟩
  ·exact hr
  ·by_cases hlq:q.live=true
   ·refine zk2 ht (hσ i hne) (fun x h=>?_) (hm.obj i q hq)
    show w'.heap[C.σ i]?=_
    rw[hw _ (hlt i q hq hlq) fun e=>hne (hm.inj2 num i id q o hq ho hlq hlo hof e)]
    exact h
   ·cases q with
    |dead=>trivial
    |_=>exact absurd rfl hlq
 ·intro i j p q hp hq hlp hlq he
  rcases split i p hp with⟨rfl,rfl⟩|⟨hne,p',hp',rfl⟩<;>rcases split j q hq with⟨rfl,rfl⟩|⟨hne2,q',hq',rfl⟩
  ·exact .inl rfl
  ·rw[zge]at hlq
   have he':σ' i=C.σ j:=by rw[<-hσ j hne2];exact he
   rcases hnew with h|h
   ·exact .inl (hm.inj1 num i j o q' ho hq' hlo hlq hof (by rw[<-h];exact he'))
   ·have:=hlt j q' hq' hlq;omega
  ·rw[zge]at hlp
   have he':C.σ i=σ' j:=by rw[<-hσ i hne];exact he
   rcases hnew with h|h
   ·exact .inl (hm.inj2 num i j p' o hp' ho hlp hlo hof (by rw[<-h];exact he'))
   ·have:=hlt i p' hp' hlp;omega
  ·rw[zge]at hlp hlq
   have he':C.σ i=C.σ j:=by rw[<-hσ i hne,<-hσ j hne2];exact he
   rw[zpx];exact hm.inj i j p' q' hp' hq' hlp hlq he'
 ·intro b hb hI
  rcases hown b hb with h|h
  ·have:=hm.bd b hI;omega
  ·exact hm.imm b h hI
 ·intro b hb hno
  exact hw b hb fun e=>hno ⟨id,o,ho,hlo,e.symm⟩
 ·intro b arr e h
  by_cases hb:b=C.σ id
  ·subst hb;exact hsz arr e h
  ·exact h.same (hw b h.lt hb)
 ·intro i hik p hp hmp
  rcases split i p hp with⟨rfl,rfl⟩|⟨hne,q,hq,rfl⟩
  ·have:=hmb hik
   subst this
   cases hmp
  ·rw[zmw]at hmp
   exact⟨q,hq,hmp,hσ i hne⟩
theorem zxu(s:St)(id:Nat):s.scrub id={ s with env:=s.env.ren (zix id),mem:=s.mem.map (AObj.ren (zix id)) }:=rfl
theorem z1c{w1:World}(hw1:w1.heap=C.w.heap){m:Mem}(hm:MRep num C m){olds us rest:Array Value}{ol nl:List IV}(ho:∀(j:Nat) x,ol[j]?=some x->∃u,olds[j]?=some u/\IRep C.I C.w x u)(hol:ol.length=olds.size)
  (hn:∀(j:Nat) x,nl[j]?=some x->∃u,us[j]?=some u/\IRep C.I C.w x u) (hnl:nl.length=us.size) (e:TypeId):
  ∀(j:Nat) x,(ol++nl)[j]?=some x->∃u,(olds++us++rest)[j]?=some u/\IRep C.I (w1.alloc (.cells (olds++us++rest) e (0,0))) x u:=by
 have hk:∀b,C.I b->(w1.alloc (.cells (olds++us++rest) e (0,0))).heap[b]?=C.w.heap[b]?:=by
  intro b hb
  rw[zd4,hw1,if_neg (by have:=hm.bd b hb;omega)]
 intro j x hx
 rcases xa1 j ol.length with h|h
 ·rw[xac h]at hx
  obtain⟨u,hu,hr⟩:=ho j x hx
  refine⟨u,?_,hr.mono (fun _ h=>h) hk⟩
  rw[Array.append_assoc,xbt (by omega)]
  exact hu
 ·rw[xag h]at hx
  obtain⟨u,hu,hr⟩:=hn _ x hx
  refine⟨u,?_,hr.mono (fun _ h=>h) hk⟩
  have hj:=(xal.1 hu).1
  rw[Array.append_assoc,xcq (by omega),xbt (by omega),<-hol]
  exact hu
theorem z85{arr:Array Value}{cs:List IV}(h:∀(j:Nat) x,cs[j]?=some x->∃u,arr[j]?=some u/\IRep C.I C.w x u):cs.length<=arr.size:=by
 rcases xcx cs.length with h0|h0
 ·omega
 ·obtain⟨u,hu,_⟩:=h (cs.length-1) cs[cs.length-1] (by rw[xaa (by omega)])
  have:=(xal.1 hu).1
  omega
theorem z1a{sz n:Nat}{v:Value}{news:List IV}{us:Array Value}(h:zqt num P C sz v n news us):∀u∈us.toList,u.oneCell'=true:=by
 intro u hu
 obtain⟨j,hj⟩:=xa3 hu
 rw[xbs]at hj
 have hlt:j<news.length:=by rw[h.count,<-h.size];exact(xal.1 hj).1
 obtain⟨u',hu',hr⟩:=h.rep j news[j] (xaa hlt)
 rw[hj]at hu'
 cases hu'
 exact hr.one
theorem yjw(hs:zas num C s a){t u e:TypeId}{d:TypeDesc}{x y:Operand}{x' y':Src}(ht:P.underlying t=some (.slice e))(hu:P.underlying u=some d)(hd:zmm d=true)(hk:known P e=true)(h0:0<P.cellsOf e)(hb0:0<P.bytesOf e)
  (hz:zns P e=true) (hx:zah num x=some x') (hy:zah num y=some y') {r:AV} {s':St} (h:za0 s (P.cellsOf e) (P.bytesOf e) (s.env.ev x') (s.env.ev y')=some (r,s')):
  zbe num P (.call { callee:=.builtin .append,args:= #[x,y],argTypes:= #[t,u] }) ty pos after a C s r s':=by
 obtain⟨i,dd,hi,_,hsz,hby⟩:=zd7 hk
 obtain⟨z,hzi,hzs⟩:∃z,i.zero=some z/\z.cells.size=P.cellsOf e:=by
  unfold zns zd9 at hz
  rw[hi]at hz
  cases hq:i.zero with
  |none=>simp[hq]at hz
  |some z=>simp[hq]at hz;exact⟨z,rfl,hz⟩
 have hm:=hs.mem
 have hlen:=hm.len
 unfold za0 at h
 cases hel:elems s.mem (P.cellsOf e) (s.env.ev y')with
 |none=>simp[hel]at h
 |some nn=>
  obtain⟨n,news⟩:=nn
  simp only[hel]at h
  obtain⟨us,hg⟩:=zrd (P:=P) hm (zba hs hy) hel
  have hax:=zba hs hx
  have hexec:∀(b:Option Addr) (l c:Nat) (v:Value) (w':World),a.eval x=.slice b l c->(Builtin.append_ #[t,u] ty #[.slice b l c,a.eval y]).run P C.w=.ok v w'->
    ∀dst g,(execOp a.eval ⟨dst,.call { callee:=.builtin .append,args:= #[x,y],argTypes:= #[t,u] },ty,pos,after,g⟩).run P C.w=.ok (.value v) w':=by
   intro b l c v w' hb hr dst g
   simp[execOp,resolve,invoke,builtin,hb,hr]
  have grow:∀(b:Option Addr) (l c:Nat) (olds:Array Value) (ol:List IV),a.eval x=.slice b l c->(∀w,w.heap=C.w.heap->(Builtin.firstCells (P.cellsOf e) l (.slice b l c)).run P w=.ok olds w)->ol.length=olds.size->olds.size=l*P.cellsOf e->
    (∀(j:Nat) x,ol[j]?=some x->∃u,olds[j]?=some u/\IRep C.I C.w x u)->c<l+n->(l+n)*P.bytesOf e<=140737488355328->
    zbe num P (.call { callee:=.builtin .append,args:= #[x,y],argTypes:= #[t,u] }) ty pos after a C s (.osl s.mem.length 0 (P.cellsOf e) (l+n) none) { s with mem:=s.mem++[.flat (ol++news) false] }:=by
   intro b l c olds ol hb hold hol hos hor hc hbd
   have hr:=zpn (P:=P) (ty:=ty) ht hu hd hi hzi C.w b l c n (a.eval y) olds us (hg.len _) (by rw[<-hsz];exact hg.cells _ rfl) (by rw[<-hsz];exact hold _ rfl) hc (by rw[<-hby];exact hbd) (by rw[<-hby];exact hb0)
   generalize hrest:Builtin.zeroCells z.cells (grownCap C.w (l+n) c e-(l+n))=rest at hr
   refine⟨_,C.more C.w.drew (.cells (olds++us++rest) e (0,0)),fun dst g=>.inl (hexec b l c _ _ hb hr dst g),zh2 (w1:=C.w.drew) hm rfl rfl rfl rfl _ _ ?_ hs.k,hs.env.mono (zgb (w1:=C.w.drew) hm rfl _),?_,rfl⟩
   ·refine⟨olds++us++rest,e,?_,z1c (w1:=C.w.drew) rfl hm hor hol hg.rep (by rw[hg.count,hg.size]) e⟩
    simp only[Cx.more,if_true]
    rw[zd4,if_pos (show C.w.heap.size=C.w.drew.heap.size from rfl)]
   ·rw[hlen]
    refine zo0 (w1:=C.w.drew) rfl _ e (zon hbd hb0) (fun k hk=>by cases hk) (.inr ?_)
    have hge:=grownCap_ge C.w (l+n) c e
    have hrs:rest.size=(grownCap C.w (l+n) c e-(l+n))*P.cellsOf e:=by rw[<-hrest,zqr,hzs]
    rw[xb2,xb2,hos,hg.size,hrs,<-Nat.add_mul,<-Nat.add_mul]
    exact Nat.le_of_eq (by congr 1;omega)
  have same:∀(b:Option Addr) (l c:Nat),a.eval x=.slice b l c->n=0->l<=c->zbe num P (.call { callee:=.builtin .append,args:= #[x,y],argTypes:= #[t,u] }) ty pos after a C s (s.env.ev x') s:=by
   intro b l c hb hn hlc
   subst hn
   have hus:us.toList=[]:=xat (by have:=hg.size;simp at this;simpa using this)
   have hr:=zm0 (P:=P) (ty:=ty) ht hu hd hi C.w b l c 0 (a.eval y) us (hg.len _) (by rw[<-hsz];exact hg.cells _ rfl) (by omega) (w':=C.w) (fun ad _=>by rw[hus];rfl) (fun _=>rfl)
   exact zbj hs (fun dst g=>hexec b l c _ _ hb hr dst g) (by rw[xbi,<-hb];exact hax)
  split at h
  ·rename_i heq
   have hxv:a.eval x=.slice none 0 0:=by rw[heq]at hax;exact zbw hax
   split at h
   ·rename_i hn
    cases h
    exact same none 0 0 hxv hn (xap 0)
   ·rename_i hn
    split at h
    ·rename_i hbd
     simp only[fresh,xaf,xay]at h
     obtain⟨rfl,rfl⟩:=h
     have:=grow none 0 0 #[] [] hxv (fun w _=>rfl) rfl (by simp) (fun j x hx=>by simp at hx) (by omega) (by rw[xaw];exact hbd)
     rw[xaw,xa7]at this
     exact this
    ·cases h
  ·rename_i row off l c heq
   rw[heq]at hax
   generalize hxv:a.eval x=v at hax
   cases hax with|imm _ _ hax=>cases hax with
    |slice _ _ _ _ b o c' ad u' hI hc hu' hl hk' ha=>
     have hcc:=hk' c rfl
     subst hcc
     split at h
     ·rename_i hn
      cases h
      exact same _ l c' hxv hn hl
     ·rename_i hn
      split at h
      ·cases h
      ·rename_i hroom
       cases hcut:cut row off (l*P.cellsOf e)with
       |none=>simp[hcut]at h
       |some old=>
        simp only[hcut]at h
        split at h
        ·rename_i hbd
         simp only[fresh,xaf,xay]at h
         obtain⟨rfl,rfl⟩:=h
         have hrl:=zhw hcut
         rcases ha with rfl|h00
         ·have hh:∀(j:Nat) x,old[j]?=some x->∃u'':Value,C.w.cell? ⟨b,o+off+j,none⟩=some u''/\IRep C.I C.w x u'':=by
           intro j x hx
           have hj:j<l*P.cellsOf e:=by rw[<-hrl];exact(xab.1 hx).1
           have h2:=zai hcut j hj
           rw[hx]at h2
           exact⟨u' (off+j),by rw[xb4];exact hc _ x h2,hu' _ x h2⟩
          obtain⟨olds,h1,h2,h3⟩:=zxd (P:=P) hh hrl
          exact grow _ l c' olds old hxv (fun w hw=>by simp only[Builtin.firstCells];exact h1 w hw) (by rw[hrl,h2]) h2 h3 (by omega) hbd
         ·have hl0:l=0:=by omega
          subst hl0
          have:old=[]:=xat (by omega)
          subst this
          exact grow _ 0 c' #[] [] hxv (fun w _=>by simp[Builtin.firstCells,loadCells,loadCellsFrom]) rfl (by simp) (fun j x hx=>by simp at hx) (by omega) hbd
        ·cases h
    |vac _ _ ad=>
     split at h
     ·rename_i hn
      cases h
      exact same _ 0 0 hxv hn (xap 0)
     ·rename_i hn
      split at h
      ·cases h
      ·rename_i hroom
       cases hcut:cut row off (0*P.cellsOf e)with
       |none=>rw[hcut]at h;cases h
       |some old=>
        simp only[hcut]at h
        split at h
        ·rename_i hbd
         simp only[fresh,xaf,xay]at h
         obtain⟨rfl,rfl⟩:=h
         have hrl:=zhw hcut
         have:old=[]:=xat (by omega)
         subst this
         exact grow _ 0 0 #[] [] hxv (fun w _=>by simp[Builtin.firstCells,loadCells,loadCellsFrom]) rfl (by simp) (fun j x hx=>by simp at hx) (by omega) hbd
        ·cases h
  ·rename_i id off sz' l c heq
   split at h
   ·rename_i hsz'
    subst hsz'
    have hax0:=hax
    rw[heq]at hax
    generalize hxv:a.eval x=v at hax
    cases hax with
    |osl _ _ _ _ _ c' ad arr e' hid hl hk' ha hw hss=>
     obtain⟨arr,fz0,hw,rfl⟩:=hw
     have hcc:=hk' c rfl
     subst hcc
     split at h
     ·rename_i cs mv ho
      obtain⟨arr2,e2,hw2,hcs⟩:=hm.obj id _ ho
      rw[hw]at hw2
      obtain⟨rfl,rfl,rfl⟩:arr=arr2/\e'=e2/\fz0=(0,0):=by simpa using hw2
      split at h
      ·rename_i hroom
       split at h
       ·rename_i hfitc
        simp only[xaf,xay]at h
        obtain⟨rfl,rfl⟩:=h
        have hcl:=z85 hcs
        rcases ha with rfl|h00
        ·have hus:us.toList.length=n*P.cellsOf e:=by rw[xck,hg.size]
         have hfit:ad+l*P.cellsOf e+us.toList.length<=arr.size:=by rw[hus,xb4,<-Nat.add_mul];omega
         have hone:∀u∈us.toList,u.oneCell'=true:=z1a hg
         have hst:=run_storeCells_at P (C.σ id) (ad+l*P.cellsOf e) e' us.toList 0 arr C.w hw (by rw[xbi];exact hfit) hone
         simp only[xbi]at hst
         have hr:=zm0 (P:=P) (ty:=ty) ht hu hd hi C.w (some ⟨C.σ id,ad,none⟩) l c' n (a.eval y) us (hg.len _) (by rw[<-hsz];exact hg.cells _ rfl) hroom
          (fun ad' had=>by cases had;rw[zel,<-hsz];exact hst) (fun h=>by cases h)
         have hsp:=zgi arr (ad+l*P.cellsOf e) us.toList hfit
         have htr:=zi7 hm ho rfl hw hsp
         refine⟨_,_,fun dst g=>.inl (hexec _ l c' _ _ hxv hr dst g),zp0 (o':=.flat (setAll cs (ad+l*P.cellsOf e) news) mv) hm ho rfl hw hsp rfl (fun hmv=>hmv) ?_ hs.k,hs.env.mono htr,?_,rfl⟩
         ·refine⟨_,e',by show(C.w.setRow _ _).heap[_]?=_;rw[zfn _ _ _ _ _ hw,if_pos rfl],fun j x hx=>?_⟩
          have hnl:news.length=us.toList.length:=by rw[hg.count,hus]
          rw[zi5]at hx
          rw[zjy arr _ us.toList hfit]
          split at hx
          ·rename_i hj
           rw[if_pos (by omega)]
           obtain⟨u,hu',hr'⟩:=hg.rep _ x hx
           exact⟨u,by rw[xbs];exact hu',hr'.mono htr.imm htr.keep⟩
          ·rename_i hj
           have hj2:j<cs.length:=(xab.1 hx).1
           rw[if_neg (by omega)]
           obtain⟨u,hu',hr'⟩:=hcs j x hx
           exact⟨u,hu',hr'.mono htr.imm htr.keep⟩
         ·refine .osl0 id ad _ _ _ c' ad _ e' hid (by omega) (fun k hk=>by cases hk;rfl) (.inl rfl) (by show(C.w.setRow _ _).heap[_]?=_;rw[zfn _ _ _ _ _ hw,if_pos rfl]) (by rw[hsp];exact hss)
        ·have hn:n=0:=by omega
         have hl0:l=0:=by omega
         have hnews:news=[]:=xat (by rw[hg.count,hn];simp)
         have hset:s.mem.set id (.flat (setAll cs (off+l*P.cellsOf e) news) mv)=s.mem:=by
          rw[hnews]
          simp only[setAll]
          apply xbf
          intro j
          rw[zhi]
          split
          ·rename_i hj;rw[<-hj.1,ho]
          ·rfl
         rw[hset,hn,xbi,<-heq]
         exact same _ l c' hxv hn hl.1
       ·cases h
      ·rename_i hroom
       cases hcut:cut cs off (l*P.cellsOf e)with
       |none=>simp[hcut]at h
       |some old=>
        simp only[hcut]at h
        split at h
        ·rename_i hbd
         simp only[fresh,xaf,xay]at h
         obtain⟨rfl,rfl⟩:=h
         obtain⟨olds,hg2⟩:=zrd (P:=P) hm hax0 (sz:=P.cellsOf e) (n:=l) (news:=old) (by rw[heq];simp only[elems,ho,hcut];rfl)
         rw[hxv]at hg2
         exact grow _ l c' olds old hxv hg2.cells (by rw[hg2.count,hg2.size]) hg2.size hg2.rep (by omega) hbd
        ·cases h
     ·cases h
   ·cases h
  ·rename_i id sz' l heq
   split at h
   ·rename_i hsk
    obtain⟨hsz',hki⟩:=hsk
    subst hsz'
    have hax0:=hax
    rw[heq]at hax
    generalize hxv:a.eval x=v at hax
    cases hax with
    |osl _ _ _ _ _ c' ad arr e' hid hl hk' ha hw hss=>
     obtain⟨arr,fz0,hw,rfl⟩:=hw
     split at h
     ·rename_i cs mv ho
      obtain⟨arr2,e2,hw2,hcs⟩:=hm.obj id _ ho
      rw[hw]at hw2
      obtain⟨rfl,rfl,rfl⟩:arr=arr2/\e'=e2/\fz0=(0,0):=by simpa using hw2
      cases hcut:cut cs 0 (l*P.cellsOf e)with
      |none=>simp[hcut]at h
      |some old=>
       simp only[hcut]at h
       split at h
       ·rename_i hbd
        simp only[xaf,xay]at h
        obtain⟨rfl,rfl⟩:=h
        rw[zxu]
        obtain⟨olds,hg2⟩:=zrd (P:=P) hm hax0 (sz:=P.cellsOf e) (n:=l) (news:=old) (by rw[heq];simp only[elems,ho,hcut];rfl)
        rw[hxv]at hg2
        rcases xa1 c' (l+n)with hgt|hroom
        ·
         have hr:=zpn (P:=P) (ty:=ty) ht hu hd hi hzi C.w (some ⟨C.σ id,ad,none⟩) l c' n (a.eval y) olds us (hg.len _) (by rw[<-hsz];exact hg.cells _ rfl) (by rw[<-hsz];exact hg2.cells _ rfl) hgt (by rw[<-hby];exact hbd) (by rw[<-hby];exact hb0)
         generalize hrest:Builtin.zeroCells z.cells (grownCap C.w (l+n) c' e-(l+n))=rest at hr
         have hlt:C.σ id<C.w.heap.size:=(xal.1 hw).1
         have hwk:∀b,b<C.w.heap.size->(C.w.drew.alloc (.cells (olds++us++rest) e)).heap[b]?=C.w.heap[b]?:=by
          intro b hb
          rw[zd4,if_neg (show ¬b=C.w.drew.heap.size by show ¬b=C.w.heap.size;omega)]
          rfl
         have hnew:(C.w.drew.alloc (.cells (olds++us++rest) e)).heap[C.w.heap.size]?=some (.cells (olds++us++rest) e (0,0)):=by
          rw[zd4,if_pos (show C.w.heap.size=C.w.drew.heap.size from rfl)]
         let σ':Nat->Nat:=fun j=>if j=id then C.w.heap.size else C.σ j
         have hσ:∀j,j≠id->σ' j=C.σ j:=fun j hj=>by simp[σ',hj]
         have hσi:σ' id=C.w.heap.size:=by simp[σ']
         have htr:=zro hm ho rfl (σ':=σ') (w':=C.w.drew.alloc (.cells (olds++us++rest) e)) hσ (fun b hb _=>hwk b hb) (fun _ _ h=>h.same (hwk _ hlt))
         refine⟨_,{ C with σ:=σ',w:=C.w.drew.alloc (.cells (olds++us++rest) e) },fun dst g=>.inl (hexec _ l c' _ _ hxv hr dst g),zwr hm ho rfl (w':=C.w.drew.alloc (.cells (olds++us++rest) e)) hσ (.inr (by rw[hσi];exact xap _)) rfl rfl rfl (by rw[World.size_alloc];exact Nat.le_succ C.w.heap.size) (fun b hb _=>hwk b hb) (fun _ _ h=>h.same (hwk _ hlt)) ?_ hs.k,hs.env.tr htr,?_,rfl⟩
         ·refine⟨olds++us++rest,e,by show(C.w.drew.alloc _).heap[σ' id]?=_;rw[hσi];exact hnew,z1c (w1:=C.w.drew) rfl hm hg2.rep (by rw[hg2.count,hg2.size]) hg.rep (by rw[hg.count,hg.size]) e⟩
         ·have hrs:rest.size=(grownCap C.w (l+n) c' e-(l+n))*P.cellsOf e:=by rw[<-hrest,zqr,hzs]
          have hge:=grownCap_ge C.w (l+n) c' e
          rw[<-hσi]
          refine .osl0 id 0 _ _ none _ 0 _ e hid (zon (by assumption) hb0) (fun k hk=>by cases hk) (.inl rfl) (by show(C.w.drew.alloc _).heap[σ' id]?=_;rw[hσi];exact hnew) (.inr ?_)
          rw[xb2,xb2,hg2.size,hg.size,hrs,<-Nat.add_mul,<-Nat.add_mul,xaw]
          exact Nat.le_of_eq (by congr 1;omega)
        ·
         have hus:us.toList.length=n*P.cellsOf e:=by rw[xck,hg.size]
         have holdl:=zhw hcut
         rcases ha with rfl|h00
         ·have hfit:l*P.cellsOf e+us.toList.length<=arr.size:=by
           rw[hus,<-Nat.add_mul]
           rcases hss with h0|h0
           ·have:l+n=0:=by omega
            rw[this];simp
           ·have:=xb6 (P.cellsOf e) hroom
            omega
          have hone:∀u∈us.toList,u.oneCell'=true:=z1a hg
          have hst:=run_storeCells_at P (C.σ id) (l*P.cellsOf e) e' us.toList 0 arr C.w hw (by rw[xbi];exact hfit) hone
          simp only[xbi]at hst
          have hr:=zm0 (P:=P) (ty:=ty) ht hu hd hi C.w (some ⟨C.σ id,0,none⟩) l c' n (a.eval y) us (hg.len _) (by rw[<-hsz];exact hg.cells _ rfl) hroom
           (fun ad' had=>by cases had;rw[zel,<-hsz,xaw];exact hst) (fun h=>by cases h)
          have hsp:=zgi arr (l*P.cellsOf e) us.toList hfit
          have hwk:∀b,b<C.w.heap.size->b≠C.σ id->(C.w.setRow (C.σ id) (arr.toList.take (l*P.cellsOf e)++us.toList++arr.toList.drop (l*P.cellsOf e+us.toList.length)).toArray).heap[b]?=C.w.heap[b]?:=by
           intro b _ hb
           rw[zfn _ _ _ _ _ hw,if_neg hb]
          have hws:(C.w.setRow (C.σ id) (arr.toList.take (l*P.cellsOf e)++us.toList++arr.toList.drop (l*P.cellsOf e+us.toList.length)).toArray).heap[C.σ id]?=some (.cells (arr.toList.take (l*P.cellsOf e)++us.toList++arr.toList.drop (l*P.cellsOf e+us.toList.length)).toArray e' (0,0)):=by
           rw[zfn _ _ _ _ _ hw,if_pos rfl]
          have hsz3:∀n9 e9,RowAt C.w (C.σ id) n9 e9->RowAt (C.w.setRow (C.σ id) (arr.toList.take (l*P.cellsOf e)++us.toList++arr.toList.drop (l*P.cellsOf e+us.toList.length)).toArray) (C.σ id) n9 e9:=by
           intro n0 e0 h0'
           exact h0'.put hw hws hsp
          have htr:=zro hm ho rfl (σ':=C.σ) (fun _ _=>rfl) hwk hsz3
          refine⟨_,_,fun dst g=>.inl (hexec _ l c' _ _ hxv hr dst g),zwr hm ho rfl (σ':=C.σ) (w':=(C.w.setRow (C.σ id) (arr.toList.take (l*P.cellsOf e)++us.toList++arr.toList.drop (l*P.cellsOf e+us.toList.length)).toArray)) (fun _ _=>rfl) (.inl rfl) rfl rfl rfl (by rw[size_setRow];exact xap _) hwk hsz3 ?_ hs.k,hs.env.tr htr,?_,rfl⟩
          ·refine⟨_,e',hws,fun j x hx=>?_⟩
           rw[zjy arr _ us.toList hfit]
           rcases xa1 j old.length with hj|hj
           ·rw[xac hj]at hx
            rw[if_neg (by omega)]
            have h2:=zai hcut j (by omega)
            rw[hx,xaw]at h2
            obtain⟨u,hu',hr'⟩:=hcs j x h2
            exact⟨u,hu',hr'.mono htr.imm htr.keep⟩
           ·rw[xag hj]at hx
            have hjn:j-old.length<news.length:=(xab.1 hx).1
            rw[if_pos (by rw[hus,<-hg.count];omega)]
            obtain⟨u,hu',hr'⟩:=hg.rep _ x hx
            exact⟨u,by rw[xbs,<-holdl];exact hu',hr'.mono htr.imm htr.keep⟩
          ·exact .osl0 id 0 _ _ none c' 0 _ e' hid (by omega) (fun k hk=>by cases hk) (.inl rfl) hws (by rw[hsp];exact hss)
         ·have hn:n=0:=by omega
          have hl0:l=0:=by omega
          have hnews:news=[]:=xat (by rw[hg.count,hn];simp)
          have hold0:old=[]:=xat (by rw[holdl,hl0];simp)
          have hus0:us.toList=[]:=xat (by rw[hus,hn];simp)
          have hr:=zm0 (P:=P) (ty:=ty) ht hu hd hi C.w (some ⟨C.σ id,ad,none⟩) l c' n (a.eval y) us (hg.len _) (by rw[<-hsz];exact hg.cells _ rfl) hroom (w':=C.w) (fun ad _=>by rw[hus0];rfl) (fun _=>rfl)
          have htr:=zro hm ho rfl (σ':=C.σ) (w':=C.w) (fun _ _=>rfl) (fun _ _ _=>rfl) (fun _ _ h=>h)
          refine⟨_,_,fun dst g=>.inl (hexec _ l c' _ _ hxv hr dst g),zwr hm ho rfl (σ':=C.σ) (w':=C.w) (fun _ _=>rfl) (.inl rfl) rfl rfl rfl (xap _) (fun _ _ _=>rfl) (fun _ _ h=>h) ?_ hs.k,hs.env.tr htr,?_,rfl⟩
          ·refine⟨arr,e',hw,fun j x hx=>?_⟩
           rw[hold0,hnews]at hx
           simp at hx
          ·exact .osl0 id 0 _ _ none c' ad arr e' hid (by omega) (fun k hk=>by cases hk) (.inr h00) hw (.inl h00)
       ·cases h
     ·cases h
   ·cases h
  ·cases h
end
end Go.EX

