import GoSem.Core.Ast
import GoSem.Core.View
import GoSem.Core.Utf8
import GoSem.Op.String
import Derived.Attr
import GoSem.Core.Region
import GoSem.Core.Program
import GoSem.Core.Layout
import GoSem.Op.Equal
import Derived.StillTail
import Derived.Laws.CopyRow
import Derived.Laws.Rows
import Derived.Laws.World
import Derived.Laws.AppendOwn
set_option linter.unusedVariables false
set_option linter.unusedSimpArgs false
namespace Go.EX
theorem xaa:type_of% @List.getElem?_eq_getElem:=@List.getElem?_eq_getElem
theorem xab:type_of% @List.getElem?_eq_some_iff:=@List.getElem?_eq_some_iff
theorem xac:type_of% @List.getElem?_append_left:=@List.getElem?_append_left
theorem xad:type_of% @Option.map_eq_some_iff:=@Option.map_eq_some_iff
theorem xae:type_of% @Bool.and_eq_true:=@Bool.and_eq_true
theorem xaf:type_of% @Option.some.injEq:=@Option.some.injEq
theorem xag:type_of% @List.getElem?_append_right:=@List.getElem?_append_right
theorem xah:type_of% @List.mem_of_getElem?:=@List.mem_of_getElem?
theorem xai:type_of% @List.all_eq_true:=@List.all_eq_true
theorem xaj:type_of% @List.mem_append:=@List.mem_append
theorem xak:type_of% @List.length_append:=@List.length_append
theorem xal:type_of% @Array.getElem?_eq_some_iff:=@Array.getElem?_eq_some_iff
theorem xam:type_of% @List.length_map:=@List.length_map
theorem xan:type_of% @Bool.false_eq_true:=@Bool.false_eq_true
theorem xao:type_of% @Option.map_some:=@Option.map_some
theorem xap:type_of% @Nat.le_refl:=@Nat.le_refl
theorem xaq:type_of% @List.getElem?_eq_none:=@List.getElem?_eq_none
theorem xar:type_of% @List.getElem?_map:=@List.getElem?_map
theorem xas:type_of% @List.append_nil:=@List.append_nil
theorem xat:type_of% @List.eq_nil_of_length_eq_zero:=@List.eq_nil_of_length_eq_zero
theorem xau:type_of% @Option.some.inj:=@Option.some.inj
theorem xav:type_of% @List.mem_singleton:=@List.mem_singleton
theorem xaw:type_of% @Nat.zero_add:=@Nat.zero_add
theorem xax:type_of% @List.length_cons:=@List.length_cons
theorem xay:type_of% @Prod.mk.injEq:=@Prod.mk.injEq
theorem xaz:type_of% @List.length_nil:=@List.length_nil
theorem xa0:type_of% @Option.getD_some:=@Option.getD_some
theorem xa1:type_of% @Nat.lt_or_ge:=@Nat.lt_or_ge
theorem xa2:type_of% @List.mem_flatMap:=@List.mem_flatMap
theorem xa3:type_of% @List.getElem?_of_mem:=@List.getElem?_of_mem
theorem xa4:type_of% @List.map_cons:=@List.map_cons
theorem xa5:type_of% @List.mapM_cons:=@List.mapM_cons
theorem xa6:type_of% @List.getElem?_set_ne:=@List.getElem?_set_ne
theorem xa7:type_of% @List.nil_append:=@List.nil_append
theorem xa8:type_of% @List.getElem_mem:=@List.getElem_mem
theorem xa9:type_of% @List.mem_range:=@List.mem_range
theorem xba:type_of% @List.getElem?_cons_succ:=@List.getElem?_cons_succ
theorem xbb:type_of% @List.set_append_right:=@List.set_append_right
theorem xbc:type_of% @List.mem_cons_of_mem:=@List.mem_cons_of_mem
theorem xbd:type_of% @List.mem_map:=@List.mem_map
theorem xbe:type_of% @Option.bind_some:=@Option.bind_some
theorem xbf:type_of% @List.ext_getElem?:=@List.ext_getElem?
theorem xbg:type_of% @List.take_add_one:=@List.take_add_one
theorem xbh:type_of% @List.mem_cons_self:=@List.mem_cons_self
theorem xbi:type_of% @Nat.add_zero:=@Nat.add_zero
theorem xbj:type_of% @List.append_assoc:=@List.append_assoc
theorem xbk:type_of% @List.map_congr_left:=@List.map_congr_left
theorem xbl:type_of% @List.drop_eq_getElem_cons:=@List.drop_eq_getElem_cons
theorem xbm:type_of% @Option.isSome_iff_exists:=@Option.isSome_iff_exists
theorem xbn:type_of% @Array.getD_eq_getD_getElem?:=@Array.getD_eq_getD_getElem?
theorem xbo:type_of% @List.cons_append:=@List.cons_append
theorem xbp:type_of% @List.take_length:=@List.take_length
theorem xbq:type_of% @Nat.add_sub_cancel_left:=@Nat.add_sub_cancel_left
theorem xbr:type_of% @Array.getElem?_eq_getElem:=@Array.getElem?_eq_getElem
theorem xbs:type_of% @Array.getElem?_toList:=@Array.getElem?_toList
theorem xbt:type_of% @Array.getElem?_append_left:=@Array.getElem?_append_left
theorem xbu:type_of% @Bool.or_eq_true:=@Bool.or_eq_true
theorem xbv:type_of% @List.getElem?_drop:=@List.getElem?_drop
theorem xbw:type_of% @List.getElem?_cons_zero:=@List.getElem?_cons_zero
theorem xbx:type_of% @List.getElem?_range:=@List.getElem?_range
theorem xby:type_of% @List.eq_of_mem_replicate:=@List.eq_of_mem_replicate
theorem xbz:type_of% @Nat.lt_of_lt_of_le:=@Nat.lt_of_lt_of_le
theorem xb0:type_of% @Option.bind_eq_bind:=@Option.bind_eq_bind
theorem xb1:type_of% @Nat.le_trans:=@Nat.le_trans
theorem xb2:type_of% @Array.size_append:=@Array.size_append
theorem xb3:type_of% @List.any_eq_false:=@List.any_eq_false
theorem xb4:type_of% @Nat.add_assoc:=@Nat.add_assoc
theorem xb5:type_of% @Option.bind_eq_some_iff:=@Option.bind_eq_some_iff
theorem xb6:type_of% @Nat.mul_le_mul_right:=@Nat.mul_le_mul_right
theorem xb7:type_of% @List.length_take:=@List.length_take
theorem xb8:type_of% @List.length_set:=@List.length_set
theorem xb9:type_of% @Array.all_eq_true_iff_forall_mem:=@Array.all_eq_true_iff_forall_mem
theorem xca:type_of% @List.mem_cons:=@List.mem_cons
theorem xcb:type_of% @Nat.zero_le:=@Nat.zero_le
theorem xcc:type_of% @List.any_eq_true:=@List.any_eq_true
theorem xcd:type_of% @Bool.not_eq_true':=@Bool.not_eq_true'
theorem xce:type_of% @List.getElem?_take:=@List.getElem?_take
theorem xcf:type_of% @List.getElem?_set_self:=@List.getElem?_set_self
theorem xcg:type_of% @List.set_cons_succ:=@List.set_cons_succ
theorem xch:type_of% @Option.pure_def:=@Option.pure_def
theorem xci:type_of% @Option.map_none:=@Option.map_none
theorem xcj:type_of% @List.map_append:=@List.map_append
theorem xck:type_of% @Array.length_toList:=@Array.length_toList
theorem xcl:type_of% @Nat.sub_self:=@Nat.sub_self
theorem xcm:type_of% @Int.natCast_zero:=@Int.natCast_zero
theorem xcn:type_of% @Classical.choose_spec:=@Classical.choose_spec
theorem xco:type_of% @List.nodup_append:=@List.nodup_append
theorem xcp:type_of% @List.all_cons:=@List.all_cons
theorem xcq:type_of% @Array.getElem?_append_right:=@Array.getElem?_append_right
theorem xcr:type_of% @List.take_zero:=@List.take_zero
theorem xcs:type_of% @List.drop_eq_nil_of_le:=@List.drop_eq_nil_of_le
theorem xct:type_of% @List.flatMap_cons:=@List.flatMap_cons
theorem xcu:type_of% @List.cons.injEq:=@List.cons.injEq
theorem xcv:type_of% @Bool.and_true:=@Bool.and_true
theorem xcw:type_of% @Nat.not_lt_zero:=@Nat.not_lt_zero
theorem xcx:type_of% @Nat.eq_zero_or_pos:=@Nat.eq_zero_or_pos
theorem xcy:type_of% @Array.mem_toList_iff:=@Array.mem_toList_iff
theorem xcz:type_of% @Option.getD_none:=@Option.getD_none
theorem xc0:type_of% @List.mem_append_left:=@List.mem_append_left
theorem xc1:type_of% @List.mem_range'_1:=@List.mem_range'_1
theorem xc2:type_of% @List.all_append:=@List.all_append
theorem xc3:type_of% @List.map_map:=@List.map_map
theorem xc4:type_of% @Nat.one_mul:=@Nat.one_mul
theorem xc5:type_of% @List.drop_zero:=@List.drop_zero
inductive IV where
 |val (v:Value)
 |slice (row:List IV) (off len:Nat) (cap:Option Nat)
 |ptr (row:List IV) (off:Nat)
 deriving Inhabited
inductive AV where
 |imm (x:IV)
 |osl (id off sz len:Nat) (cap:Option Nat)
 |optr (id off:Nat)
 |omap (id:Nat)
 |clo (fn:Nat) (caps:List AV)
 |agg (cells:List AV)
 |tup (vs:List AV)
 |yld (id:Nat)
 |seat (id off:Nat)
 |tag (b a:Nat) (x:IV)
 |err
 |junk
 deriving Inhabited
inductive Src where
 |t (n:Nat)
 |c (v:Value)
 |f (fn:Nat)
inductive CallMode where
 |view|own|share|peek|look|touch|whole
inductive XOp where
 |mv (x:Src)
 |frz (x:Src)
 |ice (x:Src)
 |pick (c a b:Src)
 |alloc (zs:List Value)
 |allocB (off:Nat) (zs:List Value)
 |box (n:Nat) (x:Src)
 |boxB (off n:Nat) (x:Src)
 |build (zs:List Value) (parts:List (Nat×Nat×Src))
 |buildSlice (sz:Nat) (zs:List Value) (len:Nat) (parts:List (Nat×Nat×Src))
 |load (agg:Option Nat) (a:Src)
 |store (n:Nat) (a x:Src)
 |restore (n:Nat) (a x:Src)
 |storeF (c n:Nat) (a x:Src)
 |nilCheck (x:Src)
 |bin (op:BinOp) (x y:Src)
 |binB (op:BinOp) (x y:Src)
 |eqNil (neg:Bool) (kind:Nat) (x:Src)
 |eqCells (neg:Bool) (kinds:List Nat) (x y:Src)
 |un (op:UnOp) (x:Src)
 |conv (k:IntKind) (x:Src)
 |convS (x:Src)
 |fieldA (off:Nat) (x:Src)
 |field (off:Nat) (agg:Option Nat) (x:Src)
 |idxA (sz:Nat) (x i:Src)
 |idxS (x i:Src)
 |slice (sz:Nat) (x:Src) (lo hi:Option Src)
 |sliceS (x:Src) (lo hi:Option Src)
 |slice3 (sz:Nat) (x hi mx:Src)
 |len (x:Src)
 |lenS (x:Src)
 |cap (x:Src)
 |append (sz bytes:Nat) (s x:Src)
 |appendK (sz bytes:Nat) (s x:Src)
 |appendS (s x:Src)
 |appendN (sz bytes:Nat) (s x:Src)
 |appendC (sz bytes:Nat) (s x:Src)
 |appendT (sz bytes:Nat) (s x:Src) (w:List (Option Nat×Src))
 |makeSlice (sz bytes:Nat) (zs:List Value) (l c:Src)
 |extract (x:Src) (i:Nat)
 |mkClo (fn:Nat) (caps:List Src)
 |call (mode:CallMode) (fn:Nat) (args:List Src)
 |callV (f:Src) (args:List Src)
 |callP (f:Src) (args:List Src)
 |callW (f:Src) (args:List Src)
 |callT (f:Src) (args:List Src) (w:List (Option Nat×Src))
 |loadI (agg:Option Nat) (a:Src)
 |copy (sz:Nat) (d s:Src)
 |makeMap (hint:Option Src)
 |lookup (kind:Nat) (zs:List Value) (agg:Bool) (m k:Src) (ok:Bool)
 |mapSet (kind:Nat) (m k v:Src)
 |lenM (m:Src)
 |idxP (n sz:Nat) (x i:Src)
 |idxV (n sz:Nat) (agg:Option Nat) (x i:Src)
 |strOf (x:Src)
 |bytesOf (x:Src)
 |minmax (min:Bool) (x y:Src)
 |clear (sz:Nat) (zs:List Value) (x:Src)
 |junk
 |litA
 |litI (kind:Nat) (m k v:Src)
 |litM (x:Src)
 |litL (kind:Nat) (zs:List Value) (m k:Src) (y n:Value)
 |rangeS (x:Src)
 |nextS (x:Src)
structure XO where
 dst:Option Nat
 op:XOp
 guard:Option (Nat×Bool)
@[simp] def o0(d:Nat)(x:XOp):XO:=⟨some d,x,none⟩
@[simp] def o1(d g:Nat)(b:Bool)(x:XOp):XO:=⟨some d,x,some (g,b)⟩
@[simp] def o2(x:XOp):XO:=⟨none,x,none⟩
@[simp] def o3(d n:Nat):XO:=⟨some d,.mv (.t n),none⟩
@[simp] def o4(d n:Nat):XO:=⟨some d,.load none (.t n),none⟩
@[simp] def o5(d k n:Nat):XO:=⟨some d,.fieldA k (.t n),none⟩
@[simp] def o6(d k n:Nat):XO:=⟨some d,.load (some k) (.t n),none⟩
@[simp] def o7(d n:Nat):XO:=⟨some d,.nilCheck (.t n),none⟩
@[simp] def o8(d n:Nat):XO:=⟨some d,.len (.t n),none⟩

inductive XCode where
 |skip
 |region (keep:List Nat) (ops:List XO)
 |lregion (keep:List Nat) (ops:List XO)
 |seq (a b:XCode)
 |cond (c:Src) (a b:XCode)
 |block (id:Nat) (b:XCode)
 |loop (keep:List Nat) (b:XCode)
 |exit (id:Nat)
 |ret
 |rangeF (f:Src) (ps keep:List Nat) (as b:XCode)
 deriving Inhabited
def XCode.still:XCode->Bool
 |.seq a b=>a.still&&b.still
 |.cond _ a b=>a.still&&b.still
 |.block _ b=>b.still
 |.loop _ b=>b.still
 |.rangeF .. =>false
 |_=>true
abbrev Env:=List (Nat×AV)
inductive AObj where
 |flat (cells:List IV) (moved:Bool)
 |rich (cells:List AV)
 |map (es:List (AV×AV))
 |dead
 |fix (cells:List IV) (moved open_:Bool)
 |loop (env:Env) (ps:List Nat) (as b:XCode) (busy:Bool)
 |text (cells:List IV)
 |iter (s:ByteArray) (pos:Nat)
 deriving Inhabited
def zld:Value->Value->Bool
 |.int k a,.int l b=>decide (k=l)&&decide (a=b)
 |.bool a,.bool b=>decide (a=b)
 |.string a,.string b=>decide (a=b)
 |.pointer none,.pointer none=>true
 |.slice none 0 0,.slice none 0 0=>true
 |.map none,.map none=>true
 |.nilFunc,.nilFunc=>true
 |_,_=>false
theorem yio{a b:Value}(h:zld a b=true):a=b:=by
 unfold zld at h
 split at h<;>simp only[xae,decide_eq_true_eq,reduceCtorEq]at h<;>first|(obtain⟨rfl,rfl⟩:=h;rfl)|(subst h;rfl)|rfl|cases h
mutual
def IV.same:IV->IV->Bool
 |.val a,.val b=>zld a b
 |.slice r o l c,.slice r' o' l' c'=>IV.sameL r r'&&(decide (o=o')&&(decide (l=l')&&decide (c=c')))
 |.ptr r o,.ptr r' o'=>IV.sameL r r'&&decide (o=o')
 |_,_=>false
def IV.sameL:List IV->List IV->Bool
 |[],[]=>true
 |a::r,b::s=>IV.same a b&&IV.sameL r s
 |_,_=>false
end
mutual
theorem zwf:∀(a b:IV),IV.same a b=true->a=b
 |.val a,.val b,h=>by simp only[IV.same]at h;rw[yio h]
 |.slice r o l c,.slice r' o' l' c',h=>by
  simp only[IV.same,xae,decide_eq_true_eq]at h
  obtain⟨h1,rfl,rfl,rfl⟩:=h
  rw[zmh r r' h1]
 |.ptr r o,.ptr r' o',h=>by
  simp only[IV.same,xae,decide_eq_true_eq]at h
  obtain⟨h1,rfl⟩:=h
  rw[zmh r r' h1]
 |.val _,.slice ..,h=>by simp[IV.same]at h
 |.val _,.ptr ..,h=>by simp[IV.same]at h
 |.slice ..,.val _,h=>by simp[IV.same]at h
 |.slice ..,.ptr ..,h=>by simp[IV.same]at h
 |.ptr ..,.val _,h=>by simp[IV.same]at h
 |.ptr ..,.slice ..,h=>by simp[IV.same]at h
theorem zmh:∀(a b:List IV),IV.sameL a b=true->a=b
 |[],[],_=>rfl
 |a::r,b::s,h=>by
  simp only[IV.sameL,xae]at h
  rw[zwf a b h.1,zmh r s h.2]
 |[],_::_,h=>by simp[IV.sameL]at h
 |_::_,[],h=>by simp[IV.sameL]at h
end
mutual
def AV.same:AV->AV->Bool
 |.imm a,.imm b=>IV.same a b
 |.osl a b c d e,.osl a' b' c' d' e'=>decide (a=a')&&(decide (b=b')&&(decide (c=c')&&(decide (d=d')&&decide (e=e'))))
 |.optr a b,.optr a' b'=>decide (a=a')&&decide (b=b')
 |.omap a,.omap a'=>decide (a=a')
 |.clo f l,.clo f' l'=>decide (f=f')&&AV.sameL l l'
 |.agg l,.agg l'=>AV.sameL l l'
 |.tup l,.tup l'=>AV.sameL l l'
 |.junk,.junk=>true
 |.seat a b,.seat a' b'=>decide (a=a')&&decide (b=b')
 |.tag a b x,.tag a' b' x'=>decide (a=a')&&(decide (b=b')&&IV.same x x')
 |.err,.err=>true
 |_,_=>false
def AV.sameL:List AV->List AV->Bool
 |[],[]=>true
 |a::r,b::s=>AV.same a b&&AV.sameL r s
 |_,_=>false
end
mutual
theorem zy8:∀(a b:AV),AV.same a b=true->a=b
 |.imm a,b,h=>by
  cases b<;>simp only[AV.same,reduceCtorEq]at h
  rw[zwf _ _ h]
 |.osl ..,b,h=>by
  cases b<;>simp only[AV.same,xae,decide_eq_true_eq,reduceCtorEq]at h
  obtain⟨rfl,rfl,rfl,rfl,rfl⟩:=h;rfl
 |.optr ..,b,h=>by
  cases b<;>simp only[AV.same,xae,decide_eq_true_eq,reduceCtorEq]at h
  obtain⟨rfl,rfl⟩:=h;rfl
 |.omap _,b,h=>by
  cases b<;>simp only[AV.same,decide_eq_true_eq,reduceCtorEq]at h
  subst h;rfl
 |.clo f l,b,h=>by
  cases b<;>simp only[AV.same,xae,decide_eq_true_eq,reduceCtorEq]at h
  obtain⟨rfl,h⟩:=h
  rw[zko l _ h]
 |.agg l,b,h=>by
  cases b<;>simp only[AV.same,reduceCtorEq]at h
  rw[zko l _ h]
 |.tup l,b,h=>by
  cases b<;>simp only[AV.same,reduceCtorEq]at h
  rw[zko l _ h]
 |.yld _,b,h=>by cases b<;>simp only[AV.same,reduceCtorEq]at h
 |.seat ..,b,h=>by
  cases b<;>simp only[AV.same,xae,decide_eq_true_eq,reduceCtorEq]at h
  obtain⟨rfl,rfl⟩:=h;rfl
 |.tag _ _ x,b,h=>by
  cases b<;>simp only[AV.same,xae,decide_eq_true_eq,reduceCtorEq]at h
  obtain⟨rfl,rfl,h⟩:=h
  rw[zwf _ _ h]
 |.err,b,h=>by
  cases b<;>simp only[AV.same,reduceCtorEq]at h
  rfl
 |.junk,b,h=>by
  cases b<;>simp only[AV.same,reduceCtorEq]at h
  rfl
theorem zko:∀(a b:List AV),AV.sameL a b=true->a=b
 |[],[],_=>rfl
 |a::r,b::s,h=>by
  simp only[AV.sameL,xae]at h
  rw[zy8 a b h.1,zko r s h.2]
 |[],_::_,h=>by simp[AV.sameL]at h
 |_::_,[],h=>by simp[AV.sameL]at h
end
def AObj.same:AObj->AObj->Bool
 |.flat l m,.flat l' m'=>IV.sameL l l'&&decide (m=m')
 |.rich l,.rich l'=>AV.sameL l l'
 |.map l,.map l'=>AV.sameL (l.map (·.1)) (l'.map (·.1))&&AV.sameL (l.map (·.2)) (l'.map (·.2))
 |.dead,.dead=>true
 |.text l,.text l'=>IV.sameL l l'
 |.iter a i,.iter b j=>decide (a=b)&&decide (i=j)
 |.fix l m o,.fix l' m' o'=>IV.sameL l l'&&(decide (m=m')&&decide (o=o'))
 |_,_=>false
theorem z2u{α β:Type}:∀{l m:List (α×β)},l.map (·.1)=m.map (·.1)->l.map (·.2)=m.map (·.2)->l=m
 |[],[],_,_=>rfl
 |[],_::_,h,_=>by cases h
 |_::_,[],h,_=>by cases h
 |(a,b)::l,(c,d)::m,h1,h2=>by
  simp only[xa4,xcu]at h1 h2
  obtain⟨rfl,h1⟩:=h1
  obtain⟨rfl,h2⟩:=h2
  rw[z2u h1 h2]
theorem yeb{a b:AObj}(h:AObj.same a b=true):a=b:=by
 unfold AObj.same at h
 split at h
 ·simp only[xae,decide_eq_true_eq]at h
  obtain⟨h,rfl⟩:=h
  rw[zmh _ _ h]
 ·rw[zko _ _ h]
 ·simp only[xae]at h
  rw[z2u (zko _ _ h.1) (zko _ _ h.2)]
 ·rfl
 ·rw[zmh _ _ h]
 ·simp only[xae,decide_eq_true_eq]at h
  obtain⟨rfl,rfl⟩:=h
  rfl
 ·simp only[xae,decide_eq_true_eq]at h
  obtain⟨h,rfl,rfl⟩:=h
  rw[zmh _ _ h]
 ·cases h
noncomputable instance decObj:DecidableEq AObj:=fun a b=>if h:AObj.same a b=true then isTrue (yeb h)else Classical.propDecidable _
abbrev Mem:=List AObj
structure St where
 k:Nat
 env:Env
 mem:Mem
inductive XExit where
 |normal
 |exit (id:Nat)
 |ret
inductive XRes where
 |tmp (t:Nat)
 |cell (t:Nat) (agg:Option Nat)
 |whole
def XRes.outs:List XRes->List XRes
 |[]=>[]
 |.tmp t::l=>.tmp t::l
 |.cell t a::l=>.cell t a::l
 |.whole::l=>l
def XRes.asIs:List XRes->Bool
 |[]=>false
 |.tmp _::_=>false
 |.cell .. ::_=>false
 |.whole::_=>true
structure zab where
 res:List XRes
 body:XCode
def Env.get:Env->Nat->AV
 |[],_=>.junk
 |(k,v)::r,n=>if n=k then v else Env.get r n
def Env.keep(e:Env)(l:List Nat):Env:=l.map fun n=>(n,e.get n)
def Env.ev(e:Env):Src->AV
 |.t n=>e.get n
 |.c v=>.imm (.val v)
 |.f n=>.clo n []
def AV.refs:AV->List Nat
 |.imm _=>[]
 |.osl id .. =>[id]
 |.optr id _=>[id]
 |.omap id=>[id]
 |.clo _ caps=>refsL caps
 |.agg cells=>refsL cells
 |.tup vs=>refsL vs
 |.yld id=>[id]
 |.seat id _=>[id]
 |.tag .. =>[]
 |.err=>[]
 |.junk=>[]
where
 refsL:List AV->List Nat
  |[]=>[]
  |x::r=>x.refs++refsL r
def Env.roots:Env->List Nat
 |[]=>[]
 |(_,v)::r=>v.refs++Env.roots r
def AObj.refs:AObj->List Nat
 |.flat .. =>[]
 |.rich cells=>AV.refs.refsL cells
 |.map es=>AV.refs.refsL (es.map (·.1))++AV.refs.refsL (es.map (·.2))
 |.dead=>[]
 |.fix .. =>[]
 |.loop env .. =>Env.roots env
 |.text _=>[]
 |.iter .. =>[]
def place(l:List Nat)(id:Nat):Option Nat:=
 match l with
 |[]=>none
 |x::r=>if id=x then some 0 else(place r id).map (· +1)
def AV.ren(f:Nat->Option Nat):AV->AV
 |.imm x=>.imm x
 |.osl id off sz len cap=>match f id with|some j=>.osl j off sz len cap|none=>.junk
 |.optr id off=>match f id with|some j=>.optr j off|none=>.junk
 |.omap id=>match f id with|some j=>.omap j|none=>.junk
 |.clo fn caps=>.clo fn (renL f caps)
 |.agg cells=>.agg (renL f cells)
 |.tup vs=>.tup (renL f vs)
 |.yld id=>match f id with|some j=>.yld j|none=>.junk
 |.seat id off=>match f id with|some j=>.seat j off|none=>.junk
 |.tag b a x=>.tag b a x
 |.err=>.err
 |.junk=>.junk
where
 renL (f:Nat->Option Nat):List AV->List AV
  |[]=>[]
  |x::r=>x.ren f::renL f r
def Env.ren(f:Nat->Option Nat):Env->Env
 |[]=>[]
 |(k,v)::r=>(k,v.ren f)::Env.ren f r
def AObj.ren(f:Nat->Option Nat):AObj->AObj
 |.flat cells m=>.flat cells m
 |.rich cells=>.rich (AV.ren.renL f cells)
 |.map es=>.map (es.map fun p=>(p.1.ren f,p.2.ren f))
 |.dead=>.dead
 |.fix cells m o=>.fix cells m o
 |.loop env ps as b y=>.loop (env.ren f) ps as b y
 |.text cells=>.text cells
 |.iter s pos=>.iter s pos
def reach(m:Mem):Nat->List Nat->List Nat->List Nat
 |0,_,acc=>acc
 |_+1,[],acc=>acc
 |n+1,id::todo,acc=>if id∈acc then reach m n todo acc else if id<m.length then reach m n (todo++((m[id]?).getD .dead).refs) (acc++[id])else reach m n todo acc
def Mem.refs:Mem->List Nat
 |[]=>[]
 |o::r=>o.refs++Mem.refs r
def order(k:Nat)(roots:List Nat)(m:Mem):List Nat:=reach m 1000000000000 (roots++Mem.refs (m.take k)) (List.range k)
def Mem.pickAll(m:Mem)(l:List Nat):Mem:=l.map fun id=>((m[id]?).getD .dead).ren (place l)
def zwg:List Nat->Bool
 |[]=>false
 |n::_=>decide (n=1000000)
def St.tidy(s:St)(keep:List Nat):St:=
 if s.mem.length=s.k then { s with env:=s.env.keep keep }else
 if zwg keep=true then { s with env:=s.env.keep keep }else
 let e:=s.env.keep keep
 let l:=order s.k e.roots s.mem
 { k:=s.k,env:=e.ren (place l),mem:=s.mem.pickAll l }
def za5(m:Mem):Nat->AV->Option IV
 |_,.imm x=>some x
 |_,.tag _ _ x=>some x
 |n+1,.osl id off _ len cap=>match m[id]? with
  |some (.flat cells _)=>some (.slice cells off len cap)
  |some (.rich cells)=>(cells.mapM (za5 m n)).map fun row=>.slice row off len cap
  |_=>none
 |n+1,.optr id off=>match m[id]? with
  |some (.flat cells _)=>some (.ptr cells off)
  |some (.rich cells)=>(cells.mapM (za5 m n)).map fun row=>.ptr row off
  |_=>none
 |_,_=>none
def frz(m:Mem):AV->Option AV
 |.agg cells=>(cells.mapM (za5 m 20)).map fun l=>.agg (l.map .imm)
 |.tup vs=>(vs.mapM (frz1 m)).map .tup
 |.clo fn caps=>(caps.mapM (frzC m)).map (.clo fn)
 |x=>(za5 m 20 x).map .imm
where
 frzC (m:Mem):AV->Option AV
  |.clo fn caps=>some (.clo fn (AV.ren.renL (fun _=>none) caps))
  |x=>(za5 m 20 x).map .imm
 frz1 (m:Mem):AV->Option AV
  |.agg cells=>(cells.mapM (za5 m 20)).map fun l=>.agg (l.map .imm)
  |x=>(za5 m 20 x).map .imm
def AV.plain1:AV->Bool
 |.imm (.val _)=>true
 |.err=>true
 |_=>false
def AV.plain2:AV->Bool
 |.agg cells=>cells.all AV.plain1
 |x=>x.plain1
def AV.plain:AV->Bool
 |.tup vs=>vs.all AV.plain2
 |x=>x.plain2
def AV.own1:AV->Bool
 |.imm (.val _)=>true
 |.osl .. =>true
 |.optr .. =>true
 |_=>false
def AV.own2:AV->Bool
 |.agg cells=>cells.all AV.own1
 |x=>x.own1
def AV.own:AV->Bool
 |.tup vs=>vs.all AV.own2
 |x=>x.own2
def IV.plain:IV->Bool
 |.val _=>true
 |_=>false
def AObj.own:AObj->Bool
 |.flat cs _=>cs.all IV.plain
 |.rich cs=>cs.all AV.own1
 |.map _=>false
 |.dead=>true
 |.fix .. =>false
 |.loop .. =>false
 |.text _=>false
 |.iter .. =>false
def AObj.isFix:AObj->Bool
 |.fix .. =>true
 |_=>false
def AObj.live:AObj->Bool
 |.dead=>false
 |_=>true
def zdx:List AV->Option (List IV)
 |[]=>some []
 |.imm x::r=>(zdx r).map (x:: ·)
 |_::_=>none
def AV.isImm:AV->Bool
 |.imm _=>true
 |.agg cells=>(zdx cells).isSome
 |_=>false
def zrh(op:BinOp)(k:IntKind)(a b:Int):Option Value:=
 match op with
 |.add=>some (.int k (k.wrap (a+b)))
 |.sub=>some (.int k (k.wrap (a-b)))
 |.mul=>some (.int k (k.wrap (a*b)))
 |.quo=>if b=0 then none else some (.int k (k.wrap (a.tdiv b)))
 |.rem=>if b=0 then none else some (.int k (a.tmod b))
 |.and=>some (.int k (k.wrap (BitVec.ofInt k.bits a &&& BitVec.ofInt k.bits b).toNat))
 |.or=>some (.int k (k.wrap (BitVec.ofInt k.bits a ||| BitVec.ofInt k.bits b).toNat))
 |.xor=>some (.int k (k.wrap (BitVec.ofInt k.bits a ^^^ BitVec.ofInt k.bits b).toNat))
 |.andNot=>some (.int k (k.wrap (BitVec.ofInt k.bits a &&& ~~~ BitVec.ofInt k.bits b).toNat))
 |.eql=>some (.bool (a==b))
 |.neq=>some (.bool (a != b))
 |.lss=>some (.bool (a<b))
 |.leq=>some (.bool (a<=b))
 |.gtr=>some (.bool (a>b))
 |.geq=>some (.bool (a≥b))
 |_=>none
def zm3(op:BinOp)(k:IntKind)(a b:Int):Option Value:=
 if b<0 then none else
 match op with
 |.shl=>some (.int k (k.wrap (a*2^(min b.toNat k.bits))))
 |.shr=>some (.int k (a.fdiv (2^(min b.toNat k.bits))))
 |_=>none
def zsl(op:BinOp)(a b:ByteArray):Option Value:=
 match op with
 |.add=>if a.size+b.size<=9223372036854775807 then some (.string (a++b))else none
 |.eql=>some (.bool (a.toList==b.toList))
 |.neq=>some (.bool !(a.toList==b.toList))
 |.lss=>some (.bool (Op.bytesLess a.toList b.toList))
 |.leq=>some (.bool (Op.bytesLess a.toList b.toList||a.toList==b.toList))
 |_=>none
def zm8(op:BinOp)(x y:Value):Option Value:=
 match x,y with
 |.int k a,.int j b=>match op with
  |.shl|.shr=>zm3 op k a b
  |op=>if k=j then zrh op k a b else none
 |.string a,.string b=>zsl op a b
 |_,_=>none
def zl1(op:BinOp)(x y:Value):Option Value:=
 match x,y with
 |.bool a,.bool b=>match op with
  |.eql=>some (.bool (a==b))
  |.neq=>some (.bool (!(a==b)))
  |_=>none
 |_,_=>none
def zp1(op:UnOp)(x:Value):Option Value:=
 match op,x with
 |.neg,.int k n=>some (.int k (k.wrap (0-n)))
 |.not,.bool b=>some (.bool !b)
 |.xor,.int k n=>some (.int k (k.wrap (BitVec.ofInt k.bits (if k.signed then -1 else k.max) ^^^ BitVec.ofInt k.bits n).toNat))
 |_,_=>none
def cut{α:Type}(l:List α)(off n:Nat):Option (List α):=
 let r:=(l.drop off).take n
 if r.length=n then some r else none
def setAll{α:Type}:List α->Nat->List α->List α
 |l,_,[]=>l
 |l,off,x::xs=>setAll (l.set off x) (off+1) xs
def AV.cells:AV->Option (List AV)
 |.agg cs=>some cs
 |.tup _=>none
 |.junk=>none
 |x=>some [x]
def zdw(agg:Option Nat)(l:List AV)(off:Nat):Option AV:=
 match agg with
 |none=>l[off]?
 |some n=>(cut l off n).map .agg
def zf9(agg:Option Nat)(l:List IV)(off:Nat):Option AV:=
 match agg with
 |none=>(l[off]?).map .imm
 |some n=>(cut l off n).map fun r=>.agg (r.map .imm)
def loadAt(m:Mem)(agg:Option Nat):AV->Option AV
 |.imm (.ptr row off)=>zf9 agg row off
 |.tag _ _ (.ptr row off)=>zf9 agg row off
 |.optr id off=>match m[id]? with
  |some (.flat cs _)=>zf9 agg cs off
  |some (.rich cs)=>zdw agg cs off
  |some (.fix cs _ _)=>zf9 agg cs off
  |_=>none
 |_=>none
def storeAt(m:Mem)(a:AV)(vs:List AV):Option Mem:=
 match a with
 |.optr id off=>match m[id]? with
  |some (.flat cs mv)=>match zdx vs with
   |some xs=>if off+xs.length<=cs.length then some (m.set id (.flat (setAll cs off xs) mv))else none
   |none=>if mv=false/\off+vs.length<=cs.length then some (m.set id (.rich (setAll (cs.map .imm) off vs)))else none
  |some (.rich cs)=>if off+vs.length<=cs.length then some (m.set id (.rich (setAll cs off vs)))else none
  |_=>none
 |_=>none
def elems(m:Mem)(sz:Nat):AV->Option (Nat×List IV)
 |.imm (.val (.slice none 0 0))=>some (0,[])
 |.imm (.val (.string s))=>if sz=1 then some (s.size,s.data.toList.map fun b=>.val (.int .u8 b.toNat))else none
 |.imm (.slice row off len _)=>(cut row off (len*sz)).map fun r=>(len,r)
 |.osl id off _ len _=>match m[id]? with
  |some (.flat cs _)=>(cut cs off (len*sz)).map fun r=>(len,r)
  |some (.rich cs)=>match cut cs off (len*sz)with
   |some r=>(zdx r).map fun r=>(len,r)
   |none=>none
  |some (.fix cs _ _)=>(cut cs off (len*sz)).map fun r=>(len,r)
  |some (.text cs)=>(cut cs off (len*sz)).map fun r=>(len,r)
  |_=>none
 |_=>none
def St.scrub(s:St)(id:Nat):St:=
 { s with env:=s.env.ren (fun j=>if j=id then none else some j),mem:=s.mem.map (AObj.ren fun j=>if j=id then none else some j) }
def fresh(s:St)(o:AObj)(v:Nat->AV):AV×St:=(v s.mem.length,{ s with mem:=s.mem++[o] })
def za0(s:St)(sz bytes:Nat)(a x:AV):Option (AV×St):=
 match elems s.mem sz x with
 |none=>none
 |some (n,news)=>
  match a with
  |.imm (.val (.slice none 0 0))=>
   if n=0 then some (a,s)else
   if n*bytes<=140737488355328 then some (fresh s (.flat news false) fun id=>.osl id 0 sz n none)else none
  |.imm (.slice row off l (some c))=>
   if n=0 then some (a,s)else
   if l+n<=c then none else
   match cut row off (l*sz)with
   |some old=>if (l+n)*bytes<=140737488355328 then some (fresh s (.flat (old++news) false) fun id=>.osl id 0 sz (l+n) none)else none
   |none=>none
  |.osl id off sz' l (some c)=>
   if sz'=sz then
    match s.mem[id]? with
    |some (.flat cs mv)=>
     if l+n<=c then
      if off+(l+n)*sz<=cs.length then some (.osl id off sz (l+n) (some c),{ s with mem:=s.mem.set id (.flat (setAll cs (off+l*sz) news) mv) })else none
     else
      match cut cs off (l*sz)with
      |some old=>if (l+n)*bytes<=140737488355328 then some (fresh s (.flat (old++news) false) fun id=>.osl id 0 sz (l+n) none)else none
      |none=>none
    |_=>none
   else none
  |.osl id 0 sz' l none=>
   if sz'=sz/\s.k<=id then
    match s.mem[id]? with
    |some (.flat cs _)=>
     match cut cs 0 (l*sz)with
     |some old=>
      if (l+n)*bytes<=140737488355328 then
       let s':=s.scrub id
       some (.osl id 0 sz (l+n) none,{ s' with mem:=s'.mem.set id (.flat (old++news) false) })
      else none
     |none=>none
    |_=>none
   else none
  |_=>none
def zbr(m:Mem)(sz:Nat):AV->Option (Nat×List AV)
 |.osl id off _ len _=>match m[id]? with
  |some (.rich cs)=>(cut cs off (len*sz)).map fun r=>(len,r)
  |some (.flat cs _)=>(cut cs off (len*sz)).map fun r=>(len,r.map .imm)
  |_=>none
 |.imm (.slice row off len _)=>(cut row off (len*sz)).map fun r=>(len,r.map .imm)
 |_=>none
def zhh(m:Mem)(id:Nat):Option (List AV):=
 match m[id]? with
 |some (.rich cs)=>some cs
 |some (.flat cs false)=>some (cs.map .imm)
 |_=>none
def zb8(s:St)(sz bytes:Nat)(a x:AV):Option (AV×St):=
 match zbr s.mem sz x with
 |none=>none
 |some (n,news)=>
  if n=0 then none else
  match a with
  |.imm (.val (.slice none 0 0))=>if n*bytes<=140737488355328 then some (fresh s (.rich news) fun id=>.osl id 0 sz n none)else none
  |.osl id 0 sz' l none=>
   if sz'=sz then
    match zbr s.mem sz (.osl id 0 sz' l none)with
    |some (_,old)=>if (l+n)*bytes<=140737488355328 then some (.osl s.mem.length 0 sz (l+n) none,{ s with mem:=s.mem.set id .dead++[.rich (old++news)] })else none
    |none=>none
   else none
  |.osl id off sz' l (some c)=>
   if sz'=sz/\l+n<=c then
    match zhh s.mem id with
    |some cs=>if off+(l+n)*sz<=cs.length then some (.osl id off sz (l+n) (some c),{ s with mem:=s.mem.set id (.rich (setAll cs (off+l*sz) news)) })else none
    |none=>none
   else if sz'=sz then
    match zbr s.mem sz (.osl id off sz' l (some c))with
    |some (_,old)=>if (l+n)*bytes<=140737488355328 then some (fresh s (.rich (old++news)) fun id=>.osl id 0 sz (l+n) none)else none
    |none=>none
   else none
  |_=>none
def zaz(s:St)(sz bytes:Nat)(a x:AV):Option (AV×St):=
 match za0 s sz bytes a x with
 |some r=>some r
 |none=>zb8 s sz bytes a x
def zl7(s:St)(sz bytes:Nat)(a x:AV):Option (AV×St):=
 match a with
 |.imm (.val (.slice none 0 0))=>match elems s.mem sz x with
  |some (n,news)=>if n=0 then some (.imm (.val (.slice none 0 0)),s)else if n*bytes<=140737488355328 then some (fresh s (.flat news false) fun id=>.osl id 0 sz n none)else none
  |none=>none
 |_=>none
def AV.isOpen:AV->Bool
 |.osl _ 0 _ _ none=>true
 |_=>false
def zdj(s:St)(sz bytes:Nat)(a x:AV):Option (AV×St):=
 if a.isOpen=true then match zb8 s sz bytes a x with
  |some r=>some r
  |none=>zaz s sz bytes a x
 else zaz s sz bytes a x
def zdd:AV->Option Int
 |.imm (.val (.int _ i))=>some i
 |_=>none
def zin(d:Nat):Option AV->Option Int
 |none=>some d
 |some v=>zdd v
def zio(len top:Nat)(lo hi:Option AV):Option (Nat×Nat):=
 match zin len hi,zin 0 lo with
 |some h,some l=>if 0<=l/\l<=h/\h<=top then some (l.toNat,h.toNat)else none
 |_,_=>none
def zf6(sz:Nat)(x:AV)(lo hi:Option AV):Option AV:=
 match x with
 |.imm (.val (.slice none 0 0))=>(zio 0 0 lo hi).map fun _=>x
 |.imm (.slice row off len cap)=>(zio len (cap.getD len) lo hi).map fun (l,h)=>.imm (.slice row (off+l*sz) (h-l) (cap.map (· -l)))
 |.osl id off sz' len cap=>if sz'=sz then(zio len (cap.getD len) lo hi).map fun (l,h)=>.osl id (off+l*sz) sz (h-l) (cap.map (· -l))else none
 |_=>none
def zfj(sz:Nat)(x hi mx:AV):Option AV:=
 match zdd hi,zdd mx with
 |some h,some m=>match x with
  |.imm (.val (.slice none 0 0))=>if h=0/\m=0 then some x else none
  |.imm (.slice row off len cap)=>if 0<=h/\h<=m/\m<=cap.getD len then some (.imm (.slice row off h.toNat (some m.toNat)))else none
  |.osl id off sz' len cap=>if sz'=sz/\0<=h/\h<=m/\m<=cap.getD len then some (.osl id off sz h.toNat (some m.toNat))else none
  |_=>none
 |_,_=>none
def zco:List AV->List (Nat×Nat×AV)->Option (List AV)
 |cs,[]=>some cs
 |cs,(off,n,v)::r=>match v.cells with
  |some vs=>if vs.length=n/\off+n<=cs.length then zco (setAll cs off vs) r else none
  |none=>none
def zbp(cells:List AV):AObj:=
 match zdx cells with
 |some xs=>.flat xs false
 |none=>.rich cells
def imZ(zs:List Value):List AV:=zs.map fun z=>.imm (.val z)
def zaq{α:Type}(n:Nat)(l:List α):List α:=
 match n with
 |0=>[]
 |n+1=>l++zaq n l
def lenOf:AV->Option Nat
 |.imm (.val (.slice none 0 0))=>some 0
 |.imm (.slice _ _ len _)=>some len
 |.tag _ _ (.slice _ _ len _)=>some len
 |.osl _ _ _ len _=>some len
 |_=>none
def zob:AV->Option Nat
 |.imm (.val (.slice none 0 0))=>some 0
 |.imm (.slice _ _ _ cap)=>cap
 |.osl _ _ _ _ cap=>cap
 |_=>none
def zcy:List Nat->List AV->List AV->Option Bool
  |[],[],[]=>some true
  |0::ks,.imm (.val (.int k a))::xs,.imm (.val (.int j b))::ys=>if k=j then(zcy ks xs ys).map fun r=>a==b&&r else none
  |1::ks,.imm (.val (.bool a))::xs,.imm (.val (.bool b))::ys=>(zcy ks xs ys).map fun r=>a==b&&r
  |2::ks,.imm (.val (.string a))::xs,.imm (.val (.string b))::ys=>(zcy ks xs ys).map fun r=>a==b&&r
  |_,_,_=>none
def AObj.hasCells:AObj->Bool
 |.flat .. =>true
 |.rich _=>true
 |_=>false
def zoh:Nat->Nat->List Nat
 |0,_=>[]
 |f+1,n=>if n=0 then[]else(n%4-1)::zoh f (n / 4)
def zeo(m:Mem):Nat->AV->AV->Option Bool
 |0,.imm (.val (.int k a)),.imm (.val (.int j b))=>if k=j then some (a==b)else none
 |1,.imm (.val (.bool a)),.imm (.val (.bool b))=>some (a==b)
 |2,.imm (.val (.string a)),.imm (.val (.string b))=>some (a==b)
 |3,.optr i o,.optr j p=>if ((m[i]?).getD .dead).hasCells&&((m[j]?).getD .dead).hasCells then some (i==j&&o==p)else none
 |3,.tag b a (.ptr ..),.tag c d (.ptr ..)=>if b=c then some (a==d)else none
 |n+4,.agg xs,.agg ys=>zcy (zoh 64 n) xs ys
 |_,_,_=>none
def zcp(m:Mem)(kind:Nat)(k:AV):List (AV×AV)->Nat->Option (Option Nat)
 |[],_=>some none
 |e::es,i=>match zeo m kind k e.1 with
  |some true=>some (some i)
  |some false=>zcp m kind k es (i+1)
  |none=>none
def zg9:Nat->AV->Bool
 |0,.imm (.val (.int ..))|1,.imm (.val (.bool _))|2,.imm (.val (.string _))=>true
 |3,.optr .. =>true
 |3,.tag _ _ (.ptr ..)=>true
 |n+4,.agg xs=>(zcy (zoh 64 n) xs xs).isSome
 |_,_=>false
def zih(zs:List Value)(agg:Bool):AV:=if agg then .agg (imZ zs)else match zs with
 |[z]=>.imm (.val z)
 |_=>.junk
def ze3:AV->Option Bool
 |.imm (.val (.slice none _ _))|.imm (.val (.pointer none))|.imm (.val (.map none))|.imm (.val .nilFunc)=>some true
 |.imm (.slice ..)|.imm (.ptr ..)|.osl .. |.optr .. |.omap _|.clo .. |.tag .. =>some false
 |_=>none
def zgs:Nat->AV->Option Bool
 |0,.imm (.val (.slice none _ _))=>some true
 |0,.imm (.slice ..)=>some false
 |0,.osl .. =>some false
 |0,.tag _ _ (.slice ..)=>some false
 |1,.imm (.val (.pointer none))=>some true
 |1,.seat .. =>some true
 |1,.imm (.ptr ..)=>some false
 |1,.optr .. =>some false
 |1,.tag _ _ (.ptr ..)=>some false
 |2,.imm (.val (.map none))=>some true
 |3,.imm (.val .nilFunc)=>some true
 |3,.clo .. =>some false
 |4,.imm (.val .nilIface)=>some true
 |4,.err=>some false
 |_,_=>none
abbrev zac:=Nat->List AV->Mem->Option (AV×Mem)
def zbl(call:zac)(s:St)(fn:Nat)(args:List AV):Option (AV×St):=
 match args.mapM (frz s.mem)with
 |none=>none
 |some as=>match call fn as []with
  |none=>none
  |some (r,mc)=>if r.plain then some (r,s)else
   if args.all AV.isImm then(frz mc r).map fun r=>(r,s)else none
def zbk(call:zac)(s:St)(fn:Nat)(args:List AV):Option (AV×St):=
 match args.mapM (frz s.mem)with
 |none=>none
 |some as=>match call fn as []with
  |none=>none
  |some (r,mc)=>
   if args.all AV.isImm||(r.own&&mc.all AObj.own)then
    let up:=fun i=>some (s.mem.length+i)
    some (r.ren up,{ s with mem:=s.mem++mc.map (AObj.ren up) })
   else none
def AObj.moved:AObj->Bool
 |.flat _ m=>m
 |.rich _=>false
 |.map _=>false
 |.dead=>true
 |.fix _ m _=>m
 |.loop .. =>false
 |.text _=>false
 |.iter .. =>false
def AObj.orMoved:AObj->Bool->AObj
 |.flat cs m,b=>.flat cs (m||b)
 |.fix cs m o,b=>.fix cs (m||b) o
 |o,_=>o
def zd1(s:St)(l:List Nat)(mc:Mem)(back stay:Nat->Option Nat)(id:Nat):AObj:=
 match place l id with
 |some i=>(((mc[i]?).getD .dead).ren back).orMoved (((s.mem[id]?).getD .dead).moved)
 |none=>if id<s.mem.length then((s.mem[id]?).getD .dead).ren stay else((mc[l.length+(id-s.mem.length)]?).getD .dead).ren back
def zgh(m:Mem)(l:List Nat):Bool:=
 (l.all fun id=> !((m[id]?).getD .dead).isFix)||(List.range m.length).all fun id=>l.contains id|| !((m[id]?).getD .dead).isFix
def zb2(call:zac)(s:St)(fn:Nat)(args:List AV):Option (AV×St):=
 let l:=order 0 (AV.refs.refsL args) s.mem
 if zgh s.mem l=false then none else
 match call fn (AV.ren.renL (place l) args) (s.mem.pickAll l)with
 |none=>none
 |some (r,mc)=>
  let back:=fun i=>if i<l.length then l[i]? else some (s.mem.length+(i-l.length))
  let stay:=fun id=>match place l id with
   |some i=>if ((mc[i]?).getD .dead).moved then none else some id
   |none=>some id
  some (r.ren back,{ s with env:=s.env.ren stay,mem:=(List.range (s.mem.length+(mc.length-l.length))).map (zd1 s l mc back stay) })
noncomputable def zdc(call:zac)(s:St)(fn:Nat)(args:List AV):Option (AV×St):=
 let l:=order 0 (AV.refs.refsL args) s.mem
 match call fn (AV.ren.renL (place l) args) (s.mem.pickAll l)with
 |none=>none
 |some (r,mc)=>if mc=s.mem.pickAll l/\r.plain=true/\(l.all fun id=> !((s.mem[id]?).getD .dead).isFix&&(!((s.mem[id]?).getD .dead).moved&&((s.mem[id]?).getD .dead).refs.all fun j=>l.contains j))=true then some (r,s)else none
noncomputable def zbg(call:zac)(s:St)(fn:Nat)(args:List AV):Option (AV×St):=
 let l:=order 0 (AV.refs.refsL args) s.mem
 match call fn (AV.ren.renL (place l) args) (s.mem.pickAll l)with
 |none=>none
 |some (r,mc)=>if mc.take l.length=s.mem.pickAll l/\((l.all fun id=> !((s.mem[id]?).getD .dead).isFix&&(!((s.mem[id]?).getD .dead).moved&&((s.mem[id]?).getD .dead).refs.all fun j=>l.contains j))&&(r.refs.all (fun j=>decide (j<mc.length))&&mc.all fun o=>o.refs.all fun j=>decide (j<mc.length)))=true then
   let back:=fun i=>if i<l.length then l[i]? else some (s.mem.length+(i-l.length))
   some (r.ren back,{ s with mem:=s.mem++(mc.drop l.length).map (AObj.ren back) })
  else none
def zf7(call:zac)(s:St)(fn:Nat)(args:List AV):Option (AV×St):=
 let l:=order 0 (AV.refs.refsL args) s.mem
 match call fn (AV.ren.renL (place l) args) (s.mem.pickAll l)with
 |none=>none
 |some (r,mc)=>if l.length<=mc.length/\((l.all fun id=> !((s.mem[id]?).getD .dead).isFix&& !((s.mem[id]?).getD .dead).moved)&&((mc.take l.length).all (fun o=> !o.moved)&&(r.refs.all (fun j=>decide (j<mc.length))&&mc.all fun o=>o.refs.all fun j=>decide (j<mc.length))))=true then
   let back:=fun i=>if i<l.length then l[i]? else some (s.mem.length+(i-l.length))
   some (r.ren back,{ s with mem:=(List.range (s.mem.length+(mc.length-l.length))).map (zd1 s l mc back some) })
  else none
def zdk(call:zac)(s:St)(fn:Nat)(args:List AV):Option (AV×St):=
 match call fn args s.mem with
 |none=>none
 |some (r,mc)=>some (r,{ s with env:=s.env.ren (fun id=>if ((mc[id]?).getD .dead).moved then none else some id),mem:=mc })
def zpq(m m':Mem)(agg:Option Nat)(a:AV):Bool:=
  match loadAt m agg a,loadAt m' agg a with
  |some x,some y=>AV.same x y&&x.refs.all fun j=>decide (j<m.length)
  |_,_=>false
def z2k(k:Nat)(m:Mem)(agg:Option Nat)(a:AV):Bool:=
 match loadAt m agg a with
 |some x=>x.refs.all fun j=>decide (j<k)
 |none=>false
def zoi(s:St)(x:AV):Option (AV×St):=
 match x with
 |.imm y=>some (.imm y,s)
 |.osl id off sz len cap=>match s.mem[id]? with
  |some (.flat cs _)=>some (.imm (.slice cs off len cap),{ s with mem:=s.mem.set id .dead })
  |_=>none
 |_=>none
def zen(s:St)(c n:Nat)(a x:AV):Option (AV×St):=
 match a,x with
 |.optr rid off,.osl id o sz len cap=>
  if off=c then(if n=1 then(storeAt s.mem (.optr rid off) [.osl id o sz len cap]).map fun m=>(.junk,{ s with mem:=m })else none)
  else match s.mem[id]? with
   |some (.flat cs _)=>if n=1/\id≠rid then(storeAt (s.mem.set id .dead) (.optr rid off) [.imm (.slice cs o len cap)]).map fun m=>(.junk,{ s with mem:=m })else none
   |_=>none
 |.optr rid off,.imm y=>if n=1 then(storeAt s.mem (.optr rid off) [.imm y]).map fun m=>(.junk,{ s with mem:=m })else none
 |_,_=>none
def zfs:Nat:=99999
noncomputable def zag(call:zac)(s:St)(op:XOp):Option (AV×St):=
 let e:=s.env.ev
 match op with
 |.mv x=>some (e x,s)
 |.frz x=>none
 |.ice x=>zoi s (e x)
 |.pick c a b=>match e c with
  |.imm (.val (.bool t))=>some (if t then e a else e b,s)
  |_=>none
 |.alloc zs=>some (fresh s (.rich (imZ zs)) fun id=>.optr id 0)
 |.box _ x=>(e x).cells.map fun cs=>fresh s (.rich cs) fun id=>.optr id 0
 |.allocB off zs=>some (fresh s (.rich ((imZ zs).set off (.seat s.mem.length off))) fun id=>.optr id 0)
 |.boxB off n x=>match (e x).cells with
  |some cs=>if cs.length=n then match cs[off]? with
   |some (.imm (.val (.pointer none)))=>some (fresh s (.rich (cs.set off (.seat s.mem.length off))) fun id=>.optr id 0)
   |_=>none else none
  |none=>none
 |.build zs parts=>(zco (imZ zs) (parts.map fun (o,n,x)=>(o,n,e x))).map fun cs=>(.agg cs,s)
 |.buildSlice sz zs len parts=>(zco (imZ (zaq len zs)) (parts.map fun (o,n,x)=>(o,n,e x))).map fun cs=>fresh s (zbp cs) fun id=>.osl id 0 sz len (some len)
 |.load agg a=>(loadAt s.mem agg (e a)).map fun v=>(v,s)
 |.store n a x=>match (e x).cells with
  |some cs=>if cs.length=n then(storeAt s.mem (e a) cs).map fun m=>(.junk,{ s with mem:=m })else none
  |none=>none
 |.storeF c n a x=>zen s c n (e a) (e x)
 |.restore n a x=>none
 |.nilCheck x=>match ze3 (e x)with
  |some false=>some (e x,s)
  |_=>none
 |.bin op x y=>match e x,e y with
  |.imm (.val a),.imm (.val b)=>(zm8 op a b).map fun v=>(.imm (.val v),s)
  |_,_=>none
 |.binB op x y=>match e x,e y with
  |.imm (.val a),.imm (.val b)=>(zl1 op a b).map fun v=>(.imm (.val v),s)
  |_,_=>none
 |.eqNil neg kind x=>(zgs kind (e x)).map fun b=>(.imm (.val (.bool (if neg then !b else b))),s)
 |.eqCells neg kinds x y=>match e x,e y with
  |.agg xs,.agg ys=>(zcy kinds xs ys).map fun b=>(.imm (.val (.bool (if neg then !b else b))),s)
  |_,_=>none
 |.un op x=>match e x with
  |.imm (.val a)=>(zp1 op a).map fun v=>(.imm (.val v),s)
  |_=>none
 |.conv k x=>(zdd (e x)).map fun i=>(.imm (.val (.int k (k.wrap i))),s)
 |.convS x=>match e x with
  |.imm (.val (.string b))=>some (.imm (.val (.string b)),s)
  |_=>none
 |.fieldA off x=>match e x with
  |.imm (.ptr row o)=>some (.imm (.ptr row (o+off)),s)
  |.tag b a (.ptr row o)=>some (.tag b (a+off) (.ptr row (o+off)),s)
  |.optr id o=>some (.optr id (o+off),s)
  |_=>none
 |.field off agg x=>match e x with
  |.agg cs=>(zdw agg cs off).map fun v=>(v,s)
  |_=>none
 |.idxA sz x i=>match zdd (e i)with
  |none=>none
  |some i=>match e x with
   |.imm (.slice row off len _)=>if 0<=i/\i<len then some (.imm (.ptr row (off+i.toNat*sz)),s)else none
   |.tag b a (.slice row off len _)=>if 0<=i/\i<len then some (.tag b (a+i.toNat*sz) (.ptr row (off+i.toNat*sz)),s)else none
   |.osl id off _ len _=>if 0<=i/\i<len then some (.optr id (off+i.toNat*sz),s)else none
   |_=>none
 |.idxS x i=>match zdd (e i),e x with
  |some i,.imm (.val (.string b))=>if 0<=i then match b[i.toNat]? with|some c=>some (.imm (.val (.int .u8 c.toNat)),s)|none=>none else none
  |_,_=>none
 |.slice sz x lo hi=>(zf6 sz (e x) (lo.map e) (hi.map e)).map fun v=>(v,s)
 |.slice3 sz x hi mx=>(zfj sz (e x) (e hi) (e mx)).map fun v=>(v,s)
 |.sliceS x lo hi=>match e x with
  |.imm (.val (.string b))=>(zio b.size b.size (lo.map e) (hi.map e)).map fun (l,h)=>(.imm (.val (.string (b.extract l h))),s)
  |_=>none
 |.len x=>(lenOf (e x)).map fun (n:Nat)=>(.imm (.val (.int .i64 (n:Int))),s)
 |.lenS x=>match e x with
  |.imm (.val (.string b))=>some (.imm (.val (.int .i64 (b.size:Int))),s)
  |_=>none
 |.cap x=>(zob (e x)).map fun (n:Nat)=>(.imm (.val (.int .i64 (n:Int))),s)
 |.append sz bytes a x=>zaz s sz bytes (e a) (e x)
 |.appendK sz bytes a x=>none
 |.appendS a x=>none
 |.appendN sz bytes a x=>zdj s sz bytes (e a) (e x)
 |.appendC sz bytes a x=>zl7 s sz bytes (e a) (e x)
 |.appendT sz bytes a x w=>match zb8 s sz bytes (e a) (e x)with
  |some (r,s')=>if (w.all fun p=>zpq s.mem s'.mem p.1 (e p.2)&&z2k s.k s.mem p.1 (e p.2))=true then some (r,s')else none
  |none=>none
 |.makeSlice sz bytes zs l c=>match zdd (e l),zdd (e c)with
  |some l,some c=>if 0<=l/\l<=c/\bytes*c<=281474976710656/\c<=9223372036854775807 then some (fresh s (.flat (zaq c.toNat (zs.map .val)) false) fun id=>.osl id 0 sz l.toNat (some c.toNat))else none
  |_,_=>none
 |.extract x i=>match e x with
  |.tup vs=>(vs[i]?).map fun v=>(v,s)
  |_=>none
 |.mkClo fn caps=>some (.clo fn (caps.map e),s)
 |.call mode fn args=>match mode with
  |.view=>zbl call s fn (args.map e)
  |.own=>zbk call s fn (args.map e)
  |.share=>zb2 call s fn (args.map e)
  |.peek=>zdc call s fn (args.map e)
  |.look=>zbg call s fn (args.map e)
  |.touch=>zf7 call s fn (args.map e)
  |.whole=>zdk call s fn (args.map e)
 |.callV f args=>match e f with
  |.clo fn caps=>zb2 call s fn (args.map e++caps)
  |_=>none
 |.callP f args=>none
 |.callW f args=>match e f with
  |.clo fn caps=>zdk call s fn (args.map e++caps)
  |_=>none
 |.callT f args w=>match e f with
  |.clo fn caps=>match zf7 call s fn (args.map e++caps)with
   |some (r,s')=>if (decide (s'.mem.length=s.mem.length)&&w.all fun p=>zpq s.mem s'.mem p.1 (e p.2))=true then some (r,s')else none
   |none=>none
  |_=>none
 |.loadI agg a=>match e a with
  |.imm y=>(loadAt [] agg (.imm y)).map fun v=>(v,s)
  |_=>none
 |.copy sz d x=>none
 |.clear sz zs x=>none
 |.makeMap hint=>match hint with
  |none=>some (fresh s (.map []) fun id=>.omap id)
  |some x=>match zdd (e x)with
   |some _=>some (fresh s (.map []) fun id=>.omap id)
   |none=>none
 |.lookup kind zs agg m k ok=>
  let out:=fun (v:AV) (b:Bool)=>if ok then(AV.tup [v,.imm (.val (.bool b))],s)else(v,s)
  if zg9 kind (e k)then
   match e m with
   |.imm (.val (.map none))=>some (out (zih zs agg) false)
   |.omap id=>match s.mem[id]? with
    |some (.map es)=>match zcp s.mem kind (e k) es 0 with
     |some none=>some (out (zih zs agg) false)
     |some (some i)=>(es[i]?).map fun p=>out p.2 true
     |none=>none
    |_=>none
   |_=>none
  else none
 |.mapSet kind m k v=>
  if zg9 kind (e k)then
   match e m with
   |.omap id=>match s.mem[id]? with
    |some (.map es)=>match zcp s.mem kind (e k) es 0 with
     |some none=>some (.junk,{ s with mem:=s.mem.set id (.map (es++[(e k,e v)])) })
     |some (some i)=>some (.junk,{ s with mem:=s.mem.set id (.map (es.set i (e k,e v))) })
     |none=>none
    |_=>none
   |_=>none
  else none
 |.lenM m=>match e m with
  |.imm (.val (.map none))=>some (.imm (.val (.int .i64 0)),s)
  |.omap id=>match s.mem[id]? with
   |some (.map es)=>some (.imm (.val (.int .i64 (es.length:Nat))),s)
   |_=>none
  |_=>none
 |.idxP n sz x i=>match zdd (e i)with
  |none=>none
  |some i=>if 0<=i/\i<n then match e x with
   |.imm (.ptr row o)=>some (.imm (.ptr row (o+i.toNat*sz)),s)
   |.optr id o=>some (.optr id (o+i.toNat*sz),s)
   |_=>none else none
 |.idxV n sz agg x i=>none
 |.strOf x=>none
 |.bytesOf x=>none
 |.junk=>some (.junk,s)
 |.rangeS x=>none
 |.nextS x=>none
 |.litA=>none
 |.litI .. =>none
 |.litM _=>none
 |.litL .. =>none
 |.minmax mn x y=>match e x,e y with
  |.imm (.val (.int k a)),.imm (.val (.int _ b))=>some (.imm (.val (.int k (if mn then(if b<a then b else a)else(if a<b then b else a)))),s)
  |_,_=>none
noncomputable def za9(call:zac)(s:St)(o:XO):Option St:=
 let go:Option St:=(zag call s o.op).map fun (v,s')=>match o.dst with|some d=>{ s' with env:=(d,v)::s'.env }|none=>s'
 match o.guard with
 |none=>go
 |some (t,b)=>match s.env.get t with
  |.imm (.val (.bool c))=>if c=b then go else some (match o.dst with|some d=>{ s with env:=(d,.tup [])::s.env }|none=>s)
  |.tup []=>some (match o.dst with|some d=>{ s with env:=(d,.tup [])::s.env }|none=>s)
  |_=>none
noncomputable def zbn(call:zac):St->List XO->Option St
 |s,[]=>some s
 |s,o::r=>(za9 call s o).bind fun s'=>zbn call s' r
noncomputable def zep(body:St->Option (XExit×St)):Nat->St->Option (XExit×St)
 |0,_=>none
 |n+1,s=>match body s with
  |some (.normal,s')=>zep body n s'
  |r=>r
noncomputable def za4(call:zac)(n:Nat):XCode->St->Option (XExit×St)
 |.skip,s=>some (.normal,s)
 |.region keep ops,s=>(zbn call s ops).map fun s'=>(.normal,{ s' with env:=s'.env.keep keep })
 |.lregion ..,s=>none
 |.seq a b,s=>match za4 call n a s with
  |some (.normal,s')=>za4 call n b s'
  |r=>r
 |.cond c a b,s=>match s.env.ev c with
  |.imm (.val (.bool t))=>if t then za4 call n a s else za4 call n b s
  |_=>none
 |.block id b,s=>match za4 call n b s with
  |some (.exit j,s')=>if j=id then some (.normal,s')else some (.exit j,s')
  |r=>r
 |.loop keep b,s=>zep (fun s=>za4 call n b (s.tidy keep)) n s
 |.exit id,s=>some (.exit id,s)
 |.ret,s=>some (.ret,s)
 |.rangeF ..,s=>none
def zgx(s:St):XRes->Option AV
 |.tmp t=>some (s.env.get t)
 |.cell t agg=>loadAt s.mem agg (s.env.get t)
 |.whole=>none
def zhk:List AV->AV
 |[x]=>x
 |l=>.tup l
def enter(i:Nat):List AV->Env
 |[]=>[]
 |x::r=>(i,x)::enter (i+1) r
def zha(s:St)(f:zab):Option (AV×Mem):=
 ((XRes.outs f.res).mapM (zgx s)).map fun vs=>
  let r:=zhk vs
  if s.mem.length=s.k then(r,s.mem)else
  if XRes.asIs f.res=true then(r,s.mem)else
  let l:=order s.k r.refs s.mem
  (r.ren (place l),s.mem.pickAll l)
noncomputable def zjj(call:zac)(n:Nat)(f:zab)(args:List AV)(m:Mem):Option (AV×Mem):=
 match za4 call n f.body { k:=m.length,env:=enter 0 args,mem:=m }with
 |some (.normal,s)|some (.ret,s)=>zha s f
 |_=>none
noncomputable def zb7(code:Nat->Option zab)(ext:zac):Nat->zac
 |0,_,_,_=>none
 |n+1,fn,args,m=>match code fn with
  |some f=>zjj (zb7 code ext n) n f args m
  |none=>if fn=zfs then none else ext fn args m
def zd9(P:Program)(t:TypeId):Option (List Value):=((P.info? t).bind (·.zero)).map fun v=>v.cells.toList
def zdt(P:Program)(t:TypeId):Option Nat:=
 match P.underlying t with
 |some (.struct _)|some (.array ..)=>some (P.cellsOf t)
 |_=>none
def known(P:Program)(t:TypeId):Bool:=(P.info? t).isSome&&(P.underlying t).isSome
def zdy:Value->Bool
 |.agg _|.tuple _=>false
 |_=>true
def z61(P:Program):Option TypeId:=P.types.findIdx? fun i=>i.str== "strings.Builder"
def zjp(P:Program)(e:TypeId)(n off:Nat):Bool:=match z61 P with
 |some u=>liesAt P P.depth e (n / P.cellsOf e) off u 1
 |none=>false
def z35:List Value->Nat->Option Nat
 |.pointer none:: .slice none 0 0::_,i=>some i
 |_::r,i=>z35 r (i+1)
 |[],_=>none
def zm2(P:Program)(t:TypeId)(zs:List Value):Option Nat:=match z35 zs 0 with
 |some off=>if zjp P t zs.length off&&(zs[off]?).any (fun z=>match z with|.pointer none=>true|_=>false)then some off else none
 |none=>none
section
variable (P:Program) (num:FuncId->Nat) (N:Nat)
def zah:Operand->Option Src
 |.tmp t=>some (.t t)
 |.const v=>if zdy v then some (.c v)else none
 |.global _=>none
 |.func f=>some (.f (num f))
def zjq(d:TypeDesc)(y:Operand):Option Nat:=
 match d,y with
 |.slice _,.const (.slice none 0 0)=>some 0
 |.pointer _,.const (.pointer none)=>some 1
 |.map ..,.const (.map none)=>some 2
 |.func ..,.const .nilFunc=>some 3
 |.interface ..,.const .nilIface=>some 4
 |_,_=>none
def zns(t:TypeId):Bool:=
 match zd9 P t with
 |some zs=>zs.length==P.cellsOf t
 |none=>false
def zmm:TypeDesc->Bool
 |.int _=>false
 |_=>true
def zkz(g:TypeId->Option (List Nat)):Nat->List Field->Option (List Nat)
 |_,[]=>some []
 |k,f::fs=>if f.offset==k&&f.name != "_" &&known P f.type then match g f.type with
   |some l=>if P.cellsOf f.type=l.length then(zkz g (k+l.length) fs).map (l++ ·)else none
   |none=>none
  else none
def zgt:Nat->TypeId->Option (List Nat)
 |0,_=>none
 |n+1,t=>match P.underlying t with
  |some (.int _)=>some [0]
  |some .bool=>some [1]
  |some .string=>some [2]
  |some (.struct fs)=>if P.stoodInHeld t then none else zkz P (zgt n) 0 fs.toList
  |_=>none
def zpy:List Nat->Nat
 |[]=>0
 |k::ks=>k+1+4*zpy ks
def zed(k:TypeId):Option Nat:=
 match P.underlying k with
 |some (.int _)=>some 0
 |some .bool=>some 1
 |some .string=>some 2
 |some (.pointer e)=>if known P e&&0<P.cellsOf e then some 3 else none
 |some (.struct _)=>match zgt P 100 k with
  |some ks=>if zoh 64 (zpy ks)=ks then some (zpy ks+4)else none
  |none=>none
 |_=>none
def zu1(t:TypeId):Option (List Value×Bool):=
 match (P.info? t).bind (·.zero)with
 |some (.agg cs)=>if cs.toList.all zdy then some (cs.toList,true)else none
 |some z=>if zdy z then some ([z],false)else none
 |none=>none
def zjm:Option TypeDesc->Option Nat
 |some (.int _)=>some 0
 |some .bool=>some 1
 |some .string=>some 2
 |_=>none
def zra(t:TypeId):Option (List Nat):=
 match P.underlying t with
 |some (.struct fs)=>
  if !P.stoodInHeld t&& !P.eqGuardType P.depth t&&fs.all (fun f=>f.name != "_")&&(fs.toList.map (·.offset))==List.range fs.size
  then fs.toList.mapM fun f=>zjm (P.underlying f.type)else none
 |_=>none
def zvx(t:TypeId):Option (List Nat):=
 match zra P t with
 |some ks=>some ks
 |none=>match P.underlying t with
  |some (.struct _)=>if P.eqGuardType P.depth t then none else zgt P 100 t
  |_=>none
def zib(place:Nat->Option (Nat×Nat))(ps:List (Nat×Operand)):Option (List (Nat×Nat×Src)):=
 ps.mapM fun (i,x)=>match place i,zah num x with
  |some (off,n),some s=>some (off,n,s)
  |_,_=>none
def zky(e:TypeId):Bool:=match P.underlying e with
 |some (.int .u8)=>true
 |_=>false
def zhj(c:Call):Option XOp:=
 match c.callee with
 |.builtin b=>
  match b,c.args.toList,c.argTypes.toList with
  |.len,[x],[t]=>match P.underlying t with
   |some .string=>(zah num x).map .lenS
   |some (.slice _)=>(zah num x).map .len
   |some (.map ..)=>(zah num x).map .lenM
   |_=>none
  |.min,[x,y],_=>match zah num x,zah num y with
   |some x,some y=>some (.minmax true x y)
   |_,_=>none
  |.max,[x,y],_=>match zah num x,zah num y with
   |some x,some y=>some (.minmax false x y)
   |_,_=>none
  |.cap,[x],[t]=>match P.underlying t with
   |some (.slice _)=>(zah num x).map .cap
   |_=>none
  |.copy,[d,x],[t,u]=>match P.underlying t,P.underlying u,zah num d,zah num x with
   |some (.slice e),some (.slice _),some d,some x=>
    if known P e&&0<P.cellsOf e then some (.copy (P.cellsOf e) d x)else none
   |_,_,_,_=>none
  |.clear,[x],[t]=>match P.underlying t,zah num x with
   |some (.slice e),some x=>match zd9 P e with
    |some zs=>if known P e&&zs.length=P.cellsOf e&&0<P.cellsOf e&&zs.all zdy then some (.clear (P.cellsOf e) zs x)else none
    |none=>none
   |_,_=>none
  |.append,[a,x],[t,u]=>match P.underlying t,P.underlying u,zah num a,zah num x with
   |some (.slice e),some d,some a,some x=>
    if known P e&&0<P.cellsOf e&&0<P.bytesOf e&&zns P e&&zmm d&&(P.bytesOf e != 1||zky P e)then some (.append (P.cellsOf e) (P.bytesOf e) a x)else none
   |_,_,_,_=>none
  |_,_,_=>none
 |.value (.func f)=>(c.args.toList.mapM (zah num)).map (.call .view (num f))
 |.value f=>match zah num f,c.args.toList.mapM (zah num)with
  |some f,some as=>some (.callV f as)
  |_,_=>none
 |.invoke .. =>none
def zbm:Op->Option XOp
 |.move x|.assign x=>(zah num x).map .mv
 |.pick c a b=>match zah num c,zah num a,zah num b with
  |some c,some a,some b=>some (.pick c a b)
  |_,_,_=>none
 |.alloc t=>match zd9 P t with
  |some zs=>if zs.all zdy then(match zm2 P t zs with
   |some off=>some (.allocB off zs)
   |none=>some (.alloc zs))else none
  |none=>none
 |.box t x=>if known P t then(match zd9 P t with
  |some zs=>match zm2 P t zs with
   |some off=>if zs.length=P.cellsOf t then(zah num x).map (.boxB off (P.cellsOf t))else none
   |none=>(zah num x).map (.box (P.cellsOf t))
  |none=>(zah num x).map (.box (P.cellsOf t)))else none
 |.build t ps=>match zd9 P t with
  |none=>none
  |some zs=>if !zs.all zdy then none else match P.underlying t with
   |some (.struct fs)=>if fs.all (fun f=>known P f.type)then(zib num (fun i=>(fs[i]?).map fun f=>(f.offset,P.cellsOf f.type)) ps.toList).map (.build zs)else none
   |some (.array _ e)=>if known P e then(zib num (fun i=>some (i*P.cellsOf e,P.cellsOf e)) ps.toList).map (.build zs)else none
   |_=>none
 |.buildSlice t len ps=>match P.underlying t with
  |some (.slice e)=>match zd9 P e with
   |some zs=>if known P e&&zs.all zdy&&len*P.cellsOf e<=16777216&&0<P.cellsOf e&&zs.length=P.cellsOf e then(zib num (fun i=>some (i*P.cellsOf e,P.cellsOf e)) ps.toList).map (.buildSlice (P.cellsOf e) zs len)else none
   |none=>none
  |_=>none
 |.load t a=>if known P t then(zah num a).map (.load (zdt P t))else none
 |.store t a x=>if known P t then match zah num a,zah num x with
  |some a,some x=>some (.store (P.cellsOf t) a x)
  |_,_=>none else none
 |.nilCheck x=>(zah num x).map .nilCheck
 |.binOp op t x y _=>
  match P.underlying t,zah num x,zah num y with
  |some (.int _),some x,some y|some .string,some x,some y=>some (.bin op x y)
  |some .bool,some x,some y=>some (.binB op x y)
  |some (.struct _),some x',some y'=>match zvx P t,op with
   |some n,.eql=>some (.eqCells false n x' y')
   |some n,.neq=>some (.eqCells true n x' y')
   |_,_=>none
  |some d,some x',some _=>match zjq d y,op with
   |some k,.eql=>some (.eqNil false k x')
   |some k,.neq=>some (.eqNil true k x')
   |_,_=>none
  |_,_,_=>none
 |.unOp op _ x=>(zah num x).map (.un op)
 |.convert src dst x=>match P.underlying src,P.underlying dst,zah num x with
  |some (.int _),some (.int k),some x=>some (.conv k x)
  |some .string,some .string,some x=>some (.convS x)
  |some (.slice e),some .string,some x=>if zky P e then some (.strOf x)else none
  |some .string,some (.slice e),some x=>if zky P e then some (.bytesOf x)else none
  |_,_,_=>none
 |.makeFunc (.func f) first caps=>if first.isEmpty then(caps.toList.mapM (zah num)).map (.mkClo (num f))else none
 |.makeSlice t l c=>match P.underlying t with
  |some (.slice e)=>match zd9 P e,zah num l,zah num c with
   |some zs,some l,some c=>if known P e&&zs.length=P.cellsOf e&&0<P.cellsOf e&&zs.all zdy then some (.makeSlice (P.cellsOf e) (P.bytesOf e) zs l c)else none
   |_,_,_=>none
  |_=>none
 |.slice t x lo hi none=>match P.underlying t,zah num x,lo.mapM (zah num),hi.mapM (zah num)with
  |some (.slice e),some x,some lo,some hi=>if known P e then some (.slice (P.cellsOf e) x lo hi)else none
  |some .string,some x,some lo,some hi=>some (.sliceS x lo hi)
  |_,_,_,_=>none
 |.slice t x none (some h) (some mx)=>match P.underlying t,zah num x,zah num h,zah num mx with
  |some (.slice e),some x,some h,some mx=>if known P e then some (.slice3 (P.cellsOf e) x h mx)else none
  |_,_,_,_=>none
 |.fieldAddr t x f=>match P.underlying t,zah num x with
  |some (.struct fs),some x=>match fs[f]? with
   |some f=>if known P f.type&&0<P.cellsOf f.type then some (.fieldA f.offset x)else none
   |none=>none
  |_,_=>none
 |.field t x f=>match P.underlying t,zah num x with
  |some (.struct fs),some x=>match fs[f]? with
   |some f=>if known P f.type then some (.field f.offset (zdt P f.type) x)else none
   |none=>none
  |_,_=>none
 |.indexAddr t x i=>match P.underlying t,zah num x,zah num i with
  |some (.slice e),some x,some i=>if known P e then some (.idxA (P.cellsOf e) x i)else none
  |some (.array n e),some x,some i=>if known P e then some (.idxP n (P.cellsOf e) x i)else none
  |_,_,_=>none
 |.index t x i=>match P.underlying t,zah num x,zah num i with
  |some .string,some x,some i=>some (.idxS x i)
  |some (.array n e),some x,some i=>if known P e then some (.idxV n (P.cellsOf e) (zdt P e) x i)else none
  |_,_,_=>none
 |.extract x i=>(zah num x).map fun x=>.extract x i
 |.range t x=>match P.underlying t with
  |some .string=>(zah num x).map .rangeS
  |_=>none
 |.next x true=>(zah num x).map .nextS
 |.call c=>zhj P num c
 |.makeMap t r=>match P.underlying t,r.mapM (zah num)with
  |some (.map ..),some r=>some (.makeMap r)
  |_,_=>none
 |.lookup t m k ok=>match P.underlying t,zah num m,zah num k with
  |some (.map kt e),some m,some k=>match zed P kt,zu1 P e with
   |some kind,some (zs,agg)=>some (.lookup kind zs agg m k ok)
   |_,_=>none
  |_,_,_=>none
 |.mapUpdate t m k v|.insert t m k v=>match P.underlying t,zah num m,zah num k,zah num v with
  |some (.map kt _),some m,some k,some v=>match zed P kt with
   |some kind=>some (.mapSet kind m k v)
   |none=>none
  |_,_,_,_=>none
 |_=>none
def zsp(ops:Array Oper):Option (Nat×Bool)->Option (Option (Nat×Bool))
 |none=>some none
 |some (j,b)=>match (ops[j]?).bind (·.dst)with
  |some t=>some (some (t,b))
  |none=>none
def zkt:Option Tmp->Bool
 |some d=>d<N
 |none=>true
def zia(ops:Array Oper)(o:Oper):Option XO:=
 match zbm P num o.op,zsp ops o.guard with
 |some x,some g=>if zkt N o.dst&&zkt N (g.map (·.1))then some { dst:=o.dst,op:=x,guard:=g }else none
 |_,_=>none
def zn6:XO:={ dst:=none,op:=.callV (.c (.bool true)) [],guard:=none }
def zf0(ops:Array Oper):List Oper->List XO
 |[]=>[]
 |o::r=>match zia P num N ops o with
  |some x=>x::zf0 ops r
  |none=>[zn6]
def tr:Code->XCode
 |.skip=>.skip
 |.region _ ops _=>.region [] (zf0 P num N ops ops.toList)
 |.seq a b=>.seq (tr a) (tr b)
 |.cond c a b=>match zah num c with
  |some c=>.cond c (tr a) (tr b)
  |none=>.cond (.c .nilFunc) .skip .skip
 |.block id b=>.block id (tr b)
 |.loop b=>.loop [] (tr b)
 |.scope b=>tr b
 |.label _=>.skip
 |.exit id=>.exit id
 |.ret=>.ret
 |.rangeFunc f ps a b=>match zah num f with
  |some f=>if ps.toList.all (· <N)then .rangeF f ps.toList [] (tr a) (tr b)else .cond (.c .nilFunc) .skip .skip
  |none=>.cond (.c .nilFunc) .skip .skip
 |_=>.cond (.c .nilFunc) .skip .skip
def zic:ResultVar->XRes
 |.tmp t=>.tmp t
 |.cell t ty=>.cell t (zdt P ty)
end
def zcm:XOp->Bool
 |.call .view .. |.call .peek .. =>true
 |.alloc _|.allocB .. |.box .. |.boxB .. |.buildSlice .. |.store .. |.storeF .. |.frz _|.ice _|.append .. |.appendK .. |.appendS .. |.appendN .. |.appendC .. |.appendT .. |.makeSlice .. |.copy .. |.clear .. |.callV .. |.callT .. |.callW .. |.call .. |.makeMap .. |.mapSet .. |.rangeS _|.nextS _=>false
 |_=>true
def za8:Src->List Nat
 |.t n=>[n]
 |_=>[]
def zk9:Option Src->List Nat
 |some x=>za8 x
 |none=>[]
def XOp.reads:XOp->List Nat
 |.mv x|.load _ x|.loadI _ x|.nilCheck x|.eqNil _ _ x|.un _ x|.conv _ x|.convS x|.fieldA _ x|.field _ _ x|.len x|.lenS x|.cap x|.extract x _|.lenM x|.strOf x|.bytesOf x=>za8 x
 |.pick a b c=>za8 a++(za8 b++za8 c)
 |.bin _ x y|.binB _ x y|.eqCells _ _ x y|.idxA _ x y|.idxS x y|.lookup _ _ _ x y _|.idxP _ _ x y|.idxV _ _ _ x y|.minmax _ x y|.restore _ x y|.store _ x y=>za8 x++za8 y
 |.appendT _ _ x y _=>za8 x++za8 y
 |.build _ ps=>ps.flatMap fun p=>za8 p.2.2
 |.slice3 _ x h m=>za8 x++(za8 h++za8 m)
 |.slice _ x lo hi|.sliceS x lo hi=>za8 x++(zk9 lo++zk9 hi)
 |.mkClo _ l|.call _ _ l=>l.flatMap za8
 |.callP f l=>za8 f++l.flatMap za8
 |.callT f l _=>za8 f++l.flatMap za8
 |_=>[]
def zcx:XOp->Bool
 |.alloc _|.allocB .. |.box .. |.boxB .. |.buildSlice .. |.makeSlice .. |.makeMap _|.appendC .. |.call .own .. |.call .look .. =>true
 |_=>false
def XOp.needs:XOp->List Nat
 |.box _ x|.boxB _ _ x=>za8 x
 |.buildSlice _ _ _ ps=>ps.flatMap fun p=>za8 p.2.2
 |.makeSlice _ _ _ l c=>za8 l++za8 c
 |.appendC _ _ x y=>za8 x++za8 y
 |.makeMap h=>zk9 h
 |.call .own _ l|.call .look _ l=>l.flatMap za8
 |_=>[]
def XO.reads(o:XO):List Nat:=o.op.reads++(o.op.needs++match o.guard with
 |some (t,_)=>[t]
 |none=>[])
def ziw(m n:Nat):Array Bool:=((List.range m).map fun i=>decide (i<n)).toArray
def zz8(ops:Array Oper)(xs:List XO)(n:Nat):Bool:=
 (xs.take n).all (fun x=>zcm x.op||zcx x.op)&&
 ((List.range n).all fun i=>(List.range n).all fun j=>match xs[i]?,xs[j]? with
  |some x,some y=>match y.dst with
   |none=>true
   |some d=>(i==j||x.dst != some d)&&(!x.reads.contains d||(decide (j<i)&&Region.waitsFor .any ops i j))
  |_,_=>false)&&
 ((List.range n).all fun i=>match ops[i]? with
  |some o=>o.after.all fun e=> !Region.binds .any e||decide (e.on<i)
  |none=>false)&&
 (n==ops.size||(decide (n<ops.size)&&Region.sinkB .any ops n&&Region.chainB .any ops n))&&
 Region.seqB .any ops (ops.size-n) n (ziw ops.size n)
def zpv:XOp->Bool
 |.store .. |.storeF .. |.append .. |.appendK .. |.appendS .. |.appendN .. |.callV .. |.mapSet .. |.call .share .. |.frz _=>true
 |x=>zcm x
def XOp.takes:XOp->List Nat
 |.store _ a x|.storeF _ _ a x|.append _ _ a x|.appendK _ _ a x|.appendN _ _ a x|.appendS a x=>za8 a++za8 x
 |.callV f l=>za8 f++l.flatMap za8
 |.mapSet _ m k v=>za8 m++(za8 k++za8 v)
 |.frz x=>za8 x
 |x=>x.reads
def XO.takes(o:XO):List Nat:=o.op.takes++match o.guard with
 |some (t,_)=>[t]
 |none=>[]
def ze4(ops:Array Oper)(xs:List XO)(n i:Nat):Bool:=
 match xs[i]? with
 |some x=>match x.op,x.dst,x.guard with
  |.mv (.t y),some d,none=>y != d&&(List.range xs.length).all fun j=>decide (j<n)||match xs[j]? with
   |some z=>z.dst != some d&&(z.dst != some y&&(!z.takes.contains d||Region.waitsFor .any ops j i))
   |none=>false
  |_,_,_=>false
 |none=>false
def zz9(ops:Array Oper)(xs:List XO)(n:Nat):Bool:=
 (xs.take n).all (fun x=>zcm x.op||zcx x.op)&&
 ((List.range n).all fun i=>(List.range n).all fun j=>match xs[i]?,xs[j]? with
  |some x,some y=>match y.dst with
   |none=>true
   |some d=>(i==j||x.dst != some d)&&(!x.reads.contains d||(decide (j<i)&&Region.waitsFor .any ops i j))
  |_,_=>false)&&
 ((List.range n).all fun i=>match ops[i]? with
  |some o=>o.after.all fun e=> !Region.binds .any e||decide (e.on<i)
  |none=>false)&&
 (xs.drop n).all (fun x=>zpv x.op)&&
 ((List.range n).all fun i=>ze4 ops xs n i||(List.range (n+1)).any fun j=>decide (i<j)&&(Region.waitsFor .any ops j i&&(j==n|| !ze4 ops xs n j)))&&
 (decide (n<ops.size)&&Region.chainB .any ops n)&&
 ((List.range ops.size).all fun i=>match ops[i]? with
  |some o=>o.after.all fun e=> !Region.binds .any e||decide (e.on<i)
  |none=>false)
def zcr:XOp->Bool
 |.call .touch .. |.callT .. |.store .. |.appendT .. =>true
 |_=>false
def XOp.watch:XOp->List (Option Nat×Src)
 |.callT _ _ w=>w
 |.appendT _ _ _ _ w=>w
 |_=>[]
def XOp.strict:XOp->Bool
 |.appendT .. =>true
 |_=>false
def XOp.strip:XOp->XOp
 |.callT f l _=>.callT f l []
 |.appendT sz b a x _=>.appendT sz b a x []
 |x=>x
def XO.strip(o:XO):XO:={ o with op:=o.op.strip }
def zl9:XOp->Bool
 |.mv _|.pick .. |.build .. |.nilCheck _|.bin .. |.binB .. |.eqNil .. |.eqCells .. |.un .. |.conv .. |.convS _|.fieldA .. |.field .. |.idxA .. |.idxS .. |.slice .. |.sliceS .. |.slice3 .. |.len _|.lenS _|.cap _|.extract .. |.mkClo .. |.idxP .. |.idxV .. |.bytesOf _|.minmax .. |.loadI .. =>true
 |.alloc _|.allocB .. |.box .. |.boxB .. |.buildSlice .. |.makeSlice .. |.makeMap _=>true
 |_=>false
def zjz(x y:XOp):Bool:=match y with
 |.load agg (.t u)=>x.watch.any fun p=>p.1==agg&&match p.2 with
  |.t v=>u==v
  |_=>false
 |_=>false
def zid(ops:Array Oper):Nat->Nat->Nat->Bool
 |0,_,_=>false
 |f+1,i,j=>Region.waitsFor .any ops i j||(List.range i).any fun k=>decide (j<k)&&(Region.waitsFor .any ops i k&&zid ops f k j)
def zvr(ops:Array Oper)(xs:List XO)(n:Nat):Bool:=
 (xs.take n).all (fun x=>zcm x.op||zcx x.op||zcr x.op)&&
 ((List.range n).all fun i=>(List.range n).all fun j=>match xs[i]?,xs[j]? with
  |some x,some y=>match y.dst with
   |none=>true
   |some d=>(i==j||x.dst != some d)&&(!x.reads.contains d||(decide (j<i)&&Region.waitsFor .any ops i j))
  |_,_=>false)&&
 ((List.range n).all fun i=>match ops[i]? with
  |some o=>o.after.all fun e=> !Region.binds .any e||decide (e.on<i)
  |none=>false)&&
 (n==ops.size||(decide (n<ops.size)&&Region.sinkB .any ops n&&Region.chainB .any ops n))&&
 Region.seqB .any ops (ops.size-n) n (ziw ops.size n)&&
 ((List.range n).all fun i=>(List.range n).all fun j=>i==j||match xs[i]?,xs[j]? with
  |some x,some y=> !zcr x.op||(!zcr y.op&&zl9 y.op)||(decide (j<i)&&zid ops 12 i j)||(decide (i<j)&&zid ops 12 j i)||
   (decide (j<i)&&zjz x.op y.op&&(List.range n).all fun k=>decide (k<=j)||decide (i<=k)||match xs[k]? with
    |some z=>zcm z.op||(zcx z.op&&(x.guard.isNone&&x.op.strict))
    |none=>false)
  |_,_=>false)
def zze:List XO->Nat
 |[]=>0
 |x::r=>if zcm x.op||zcx x.op then zze r+1 else 0
def XOp.isLitA:XOp->Bool
 |.litA=>true
 |_=>false
def XOp.isLitI:XOp->Bool
 |.litI .. =>true
 |_=>false
def XOp.isLitM:XOp->Bool
 |.litM _=>true
 |_=>false
def XOp.isLitL:XOp->Bool
 |.litL .. =>true
 |_=>false
structure LitAt where
 im:Nat
 i1:Nat
 i2:Nat
 iv:Nat
 il:Nat
 tA:Nat
 tM:Nat
 y:Value
 n:Value
def LitAt.ok(l:LitAt)(ops:Array Oper)(xs:List XO)(n:Nat):Bool:=
 (match xs[l.im]?,xs[l.i1]?,xs[l.i2]?,xs[l.iv]?,xs[l.il]? with
  |some ⟨some a,.litA,none⟩,some ⟨none,.litI 1 (.t b) (.c (.bool true)) (.c _),none⟩,some ⟨none,.litI 1 (.t d) (.c (.bool false)) (.c _),none⟩,some ⟨some f,.litM (.t g),none⟩,some ⟨some _,.litL 1 _ (.t h) _ _ _,none⟩=>
   a==l.tA&&b==l.tA&&d==l.tA&&f==l.tM&&g==l.tA&&h==l.tM
  |_,_,_,_,_=>false)&&
 (match xs[l.i1]?,xs[l.i2]?,xs[l.il]? with
  |some ⟨_,.litI _ _ _ (.c y),_⟩,some ⟨_,.litI _ _ _ (.c z),_⟩,some ⟨_,.litL _ _ _ _ u v,_⟩=>zdy y&&zdy z&&(zld y l.y&&zld z l.n&&zld u l.y&&zld v l.n)
  |_,_,_=>false)&&
 (decide (l.im<n)&&decide (l.i1<n)&&decide (l.i2<n)&&decide (l.iv<n)&&decide (l.il<n))&&
 (l.im != l.i1&&l.im != l.i2&&l.im != l.iv&&l.im != l.il&&l.i1 != l.i2&&l.i1 != l.iv&&l.i1 != l.il&&l.i2 != l.iv&&l.i2 != l.il&&l.iv != l.il&&l.tA != l.tM)&&
 (Region.waitsFor .any ops l.i1 l.im&&Region.waitsFor .any ops l.i2 l.im&&Region.waitsFor .any ops l.iv l.im&&Region.waitsFor .any ops l.iv l.i1&&Region.waitsFor .any ops l.iv l.i2&&Region.waitsFor .any ops l.il l.iv)&&
 ((List.range n).all fun i=>i==l.im||i==l.i1||i==l.i2||i==l.iv||i==l.il||match xs[i]? with
  |some x=> !(x.op.isLitA||x.op.isLitI||x.op.isLitM||x.op.isLitL)
  |none=>false)&&
 ((xs.drop n).all fun x=> !(x.op.isLitA||x.op.isLitI||x.op.isLitM||x.op.isLitL))
def zc5:Code->XCode->Bool
 |.scope b,y=>zc5 b y
 |.label _,_=>true
 |.region _ ops true,.region _ xs=>(((List.range (zze xs+1)).reverse.any fun n=>zz8 ops xs n||zz9 ops xs n)||(List.range (xs.length+1)).reverse.any fun n=>zvr ops xs n)&&xs.length==ops.size
 |.seq a b,.seq x y=>zc5 a x&&zc5 b y
 |.cond _ a b,.cond _ x y=>zc5 a x&&zc5 b y
 |.block _ b,.block _ y=>zc5 b y
 |.loop b,.loop _ y=>zc5 b y
 |.rangeFunc _ _ a b,.rangeF _ _ _ x y=>zc5 a x&&zc5 b y
 |.region _ ops true,.lregion _ xs=>false
 |.region _ _ false,.lregion .. =>false
 |.region ..,_=>true
 |.skip,_|.exit _,_|.ret,_=>true
 |_,_=>false
def XOp.wipe:XOp->XOp
 |.frz x=>.mv x
 |.ice x=>.mv x
 |.call _ fn args=>.call .view fn args
 |.appendK sz b a x=>.append sz b a x
 |.appendS a x=>.append 1 1 a x
 |.appendN sz b a x=>.append sz b a x
 |.appendC sz b a x=>.append sz b a x
 |.appendT sz b a x _=>.append sz b a x
 |.restore n a x=>.store n a x
 |.storeF _ n a x=>.store n a x
 |.callP f args=>.callV f args
 |.callW f args=>.callV f args
 |.callT f args _=>.callV f args
 |.loadI agg x=>.load agg x
 |.litA=>.makeMap none
 |.litI kind m k v=>.mapSet kind m k v
 |.litM x=>.mv x
 |.litL kind zs m k _ _=>.lookup kind zs false m k false
 |o=>o
def XO.wipe(o:XO):XO:={ o with op:=o.op.wipe }
def XCode.wipe:XCode->XCode
 |.region _ ops=>.region [] (ops.map XO.wipe)
 |.lregion _ ops=>.region [] (ops.map XO.wipe)
 |.seq a b=>.seq a.wipe b.wipe
 |.cond c a b=>.cond c a.wipe b.wipe
 |.block id b=>.block id b.wipe
 |.loop _ b=>.loop [] b.wipe
 |.rangeF f ps _ a b=>.rangeF f ps [] a.wipe b.wipe
 |c=>c
def znx(P:Program)(num:FuncId->Nat)(a b:Code)(ps:List Nat)(N:Nat)(as bs:XCode):Prop:=
 tr P num N a=as.wipe/\tr P num N b=bs.wipe/\zc5 a as=true/\zc5 b bs=true/\as.still=true/\bs.still=true/\ps.all (· <N)=true
theorem zel(b o n:Nat):(⟨b,o,none⟩:Addr).add n=⟨b,o+n,none⟩:=by
 unfold Addr.add;split<;>simp_all
theorem zjs(v:Value):zdy v=v.oneCell':=by cases v<;>rfl
inductive IRep (I:Nat->Prop) (w:World):IV->Value->Prop
 |val (v:Value) (h:v.oneCell'=true):IRep I w (.val v) v
 |slice (row:List IV) (off len:Nat) (cap:Option Nat) (b o c a:Nat) (u:Nat->Value) (hb:I b)
   (hc:∀(j:Nat) (x:IV),row[j]?=some x->w.cell? ⟨b,o+j,none⟩=some (u j)) (hu:∀(j:Nat) (x:IV),row[j]?=some x->IRep I w x (u j))
   (hl:len<=c) (hk:∀k,cap=some k->c=k) (ha:a=o+off\/c=0):IRep I w (.slice row off len cap) (.slice (some ⟨b,a,none⟩) len c)
 |vac (row:List IV) (off:Nat) (a:Addr):IRep I w (.slice row off 0 (some 0)) (.slice (some a) 0 0)
 |ptr (row:List IV) (off:Nat) (b o:Nat) (u:Nat->Value) (hb:I b)
   (hc:∀(j:Nat) (x:IV),row[j]?=some x->w.cell? ⟨b,o+j,none⟩=some (u j)) (hu:∀(j:Nat) (x:IV),row[j]?=some x->IRep I w x (u j)):
   IRep I w (.ptr row off) (.pointer (some ⟨b,o+off,none⟩))
theorem IRep.one{I:Nat->Prop}{w:World}{x:IV}{v:Value}(h:IRep I w x v):v.oneCell'=true:=by
 cases h with
 |val v h=>exact h
 |slice=>rfl
 |vac=>rfl
 |ptr=>rfl
theorem IRep.mono{I J:Nat->Prop}{w w':World}(hI:∀b,I b->J b)(hw:∀b,I b->w'.heap[b]?=w.heap[b]?){x:IV}{v:Value}(h:IRep I w x v):IRep J w' x v:=by
 induction h with
 |val v h=>exact .val v h
 |slice row off len cap b o c a u hb hc hu hl hk ha ih=>
  exact .slice row off len cap b o c a u (hI b hb) (fun j x hx=>by
   have:=hc j x hx
   simp only[World.cell?]at this ⊢
   rw[hw b hb];exact this) ih hl hk ha
 |vac row off a=>exact .vac row off a
 |ptr row off b o u hb hc hu ih=>
  exact .ptr row off b o u (hI b hb) (fun j x hx=>by
   have:=hc j x hx
   simp only[World.cell?]at this ⊢
   rw[hw b hb];exact this) ih
def zlz:Value->Option (Nat×Nat)
 |.slice (some ⟨b,a,none⟩) _ _=>some (b,a)
 |.pointer (some ⟨b,a,none⟩)=>some (b,a)
 |_=>none
def RowAt(w:World)(b n:Nat)(e:TypeId):Prop:=∃(arr:Array Value) (fz:Nat×Nat),w.heap[b]?=some (.cells arr e fz)/\arr.size=n
theorem RowAt.of{w:World}{b:Nat}{arr:Array Value}{e:TypeId}{fz:Nat×Nat}(h:w.heap[b]?=some (.cells arr e fz)):RowAt w b arr.size e:=⟨arr,fz,h,rfl⟩
theorem RowAt.same{w w':World}{b n:Nat}{e:TypeId}(h:RowAt w b n e)(hk:w'.heap[b]?=w.heap[b]?):RowAt w' b n e:=by
 obtain⟨arr,fz,h1,h2⟩:=h
 exact⟨arr,fz,hk.trans h1,h2⟩
theorem RowAt.lt{w:World}{b n:Nat}{e:TypeId}(h:RowAt w b n e):b<w.heap.size:=by
 obtain⟨arr,fz,h1,h2⟩:=h
 exact(xal.1 h1).1
theorem RowAt.put{w w':World}{b n:Nat}{e e0:TypeId}{arr cs:Array Value}{fz fz':Nat×Nat}(h:RowAt w b n e)(h0:w.heap[b]?=some (.cells arr e0 fz))(h1:w'.heap[b]?=some (.cells cs e0 fz'))(hs:cs.size=arr.size):RowAt w' b n e:=by
 obtain⟨arr2,fz2,h2,h3⟩:=h
 rw[h0]at h2
 cases h2
 exact⟨cs,fz',h1,hs.trans h3⟩
structure Cx where
 σ:Nat->Nat
 I:Nat->Prop
 n:Nat
 w:World
structure Names where
 num:FuncId->Nat
 G:(Nat->Prop)->World->Prop
 up:∀{I J:Nat->Prop} {w w':World},G I w->(∀b,I b->J b)->(∀b,I b->w'.heap[b]?=w.heap[b]?)->G J w'
 L:Code->Code->List Nat->Nat->XCode->XCode->Prop
 B:TypeId->Nat->Nat->Prop
 U:TypeId->Prop
instance:CoeFun Names (fun _=>FuncId->Nat):=⟨Names.num⟩
@[reducible] def Names.of(P:Program)(f:FuncId->Nat):Names:=⟨f,fun _ _=>True,fun _ _ _=>trivial,znx P f,fun e n off=>zjp P e n off=true,fun e=>zky P e=true/\P.cellsOf e=1⟩
section
variable (num:Names)
inductive ARep (C:Cx):AV->Value->Prop
 |imm (x:IV) (v:Value) (h:IRep C.I C.w x v):ARep C (.imm x) v
 |osl (id off sz len:Nat) (cap:Option Nat) (c a n:Nat) (e:TypeId) (hid:id<C.n) (hl:len<=c/\c<=9223372036854775807) (hk:∀k,cap=some k->c=k) (ha:a=off\/c=0)
   (hw:RowAt C.w (C.σ id) n e) (hs:c=0\/off+c*sz<=n):ARep C (.osl id off sz len cap) (.slice (some ⟨C.σ id,a,none⟩) len c)
 |optr (id off:Nat) (hid:id<C.n):ARep C (.optr id off) (.pointer (some ⟨C.σ id,off,none⟩))
 |clo (f:FuncId) (caps:List AV) (vs:Array Value) (hl:caps.length=vs.size) (h:∀(j:Nat) (x:AV) (u:Value),caps[j]?=some x->vs[j]?=some u->ARep C x u):ARep C (.clo (num f) caps) (.func (.func f) #[] vs)
 |agg (cells:List AV) (vs:Array Value) (hl:cells.length=vs.size) (h1:∀(j:Nat) (u:Value),vs[j]?=some u->u.oneCell'=true) (h:∀(j:Nat) (x:AV) (u:Value),cells[j]?=some x->vs[j]?=some u->ARep C x u):ARep C (.agg cells) (.agg vs)
 |tup (xs:List AV) (vs:Array Value) (hl:xs.length=vs.size) (h:∀(j:Nat) (x:AV) (u:Value),xs[j]?=some x->vs[j]?=some u->ARep C x u):ARep C (.tup xs) (.tuple vs)
 |omap (id:Nat) (hid:id<C.n):ARep C (.omap id) (.map (some (C.σ id)))
 |yld (id:Nat) (hid:id<C.n):ARep C (.yld id) (.func (.yield (C.σ id)) #[] #[])
 |seat (id off n:Nat) (e:TypeId) (hid:id<C.n) (hw:RowAt C.w (C.σ id) n e) (hb:num.B e n off):ARep C (.seat id off) (.pointer none)
 |tag (b a:Nat) (x:IV) (v:Value) (h:IRep C.I C.w x v) (ha:zlz v=some (b,a)):ARep C (.tag b a x) v
 |err (t:TypeId) (v:Value):ARep C .err (.iface t v)
 |junk (v:Value):ARep C .junk v
theorem ARep.osl0{num:Names}{C:Cx}(id off sz len:Nat)(cap:Option Nat)(c a:Nat)(arr:Array Value)(e:TypeId)(hid:id<C.n)(hl:len<=c/\c<=9223372036854775807)(hk:∀k,cap=some k->c=k)(ha:a=off\/c=0)
  (hw:C.w.heap[C.σ id]?=some (.cells arr e (0,0))) (hs:c=0\/off+c*sz<=arr.size):ARep num C (.osl id off sz len cap) (.slice (some ⟨C.σ id,a,none⟩) len c):=
 .osl id off sz len cap c a arr.size e hid hl hk ha (.of hw) hs
structure Tr (f:Nat->Option Nat) (C D:Cx):Prop where
 imm:∀b,C.I b->D.I b
 keep:∀b,C.I b->D.w.heap[b]?=C.w.heap[b]?
 ids:∀id j,id<C.n->f id=some j->j<D.n/\D.σ j=C.σ id/\∀n e,RowAt C.w (C.σ id) n e->RowAt (D.w) (C.σ id) n e
theorem zi2(f:Nat->Option Nat):∀(l:List AV) (j:Nat),(AV.ren.renL f l)[j]?=(l[j]?).map (AV.ren f)
 |[],j=>by simp[AV.ren.renL]
 |x::r,0=>by simp[AV.ren.renL]
 |x::r,j+1=>by simp[AV.ren.renL,zi2 f r j]
theorem zk6(f:Nat->Option Nat):∀(l:List AV),(AV.ren.renL f l).length=l.length
 |[]=>rfl
 |x::r=>by simp[AV.ren.renL,zk6 f r]
theorem zfm(f:Nat->Option Nat):∀(l:List AV),AV.ren.renL f l=l.map (AV.ren f)
 |[]=>rfl
 |x::r=>by simp[AV.ren.renL,zfm f r]
variable {num}
theorem ARep.tr{f:Nat->Option Nat}{C D:Cx}(t:Tr f C D){x:AV}{v:Value}(h:ARep num C x v):ARep num D (x.ren f) v:=by
 induction h with
 |imm x v h=>exact .imm x v (h.mono t.imm t.keep)
 |osl id off sz len cap c a arr e hid hl hk ha hw hs=>
  simp only[AV.ren]
  cases hf:f id with
  |none=>exact .junk _
  |some j=>
   obtain⟨h1,h2,h3⟩:=t.ids id j hid hf
   have h4:=h3 arr e hw
   dsimp only
   rw[<-h2]at h4 ⊢
   exact .osl j off sz len cap c a arr e h1 hl hk ha h4 hs
 |optr id off hid=>
  simp only[AV.ren]
  cases hf:f id with
  |none=>exact .junk _
  |some j=>
   obtain⟨h1,h2,_⟩:=t.ids id j hid hf
   dsimp only
   rw[<-h2]
   exact .optr j off h1
 |clo g caps vs hl h ih=>
  simp only[AV.ren]
  refine .clo g _ vs (by rw[zk6];exact hl) fun j x u hx hu=>?_
  rw[zi2]at hx
  cases hc:caps[j]? with
  |none=>simp[hc]at hx
  |some y=>simp[hc]at hx;subst hx;exact ih j y u hc hu
 |agg cells vs hl h1 h ih=>
  simp only[AV.ren]
  refine .agg _ vs (by rw[zk6];exact hl) h1 fun j x u hx hu=>?_
  rw[zi2]at hx
  cases hc:cells[j]? with
  |none=>simp[hc]at hx
  |some y=>simp[hc]at hx;subst hx;exact ih j y u hc hu
 |tup xs vs hl h ih=>
  simp only[AV.ren]
  refine .tup _ vs (by rw[zk6];exact hl) fun j x u hx hu=>?_
  rw[zi2]at hx
  cases hc:xs[j]? with
  |none=>simp[hc]at hx
  |some y=>simp[hc]at hx;subst hx;exact ih j y u hc hu
 |omap id hid=>
  simp only[AV.ren]
  cases hf:f id with
  |none=>exact .junk _
  |some j=>
   obtain⟨h1,h2,_⟩:=t.ids id j hid hf
   dsimp only
   rw[<-h2]
   exact .omap j h1
 |yld id hid=>
  simp only[AV.ren]
  cases hf:f id with
  |none=>exact .junk _
  |some j=>
   obtain⟨h1,h2,_⟩:=t.ids id j hid hf
   dsimp only
   rw[<-h2]
   exact .yld j h1
 |seat id off n e hid hw hb=>
  simp only[AV.ren]
  cases hf:f id with
  |none=>exact .junk _
  |some j=>
   obtain⟨h1,h2,h3⟩:=t.ids id j hid hf
   have h4:=h3 n e hw
   rw[<-h2]at h4
   exact .seat j off n e h1 h4 hb
 |tag b a x v h ha=>exact .tag b a x v (h.mono t.imm t.keep) ha
 |err t v=>exact .err t v
 |junk v=>exact .junk v
mutual
theorem zjx:∀(x:AV),x.ren some=x
 |.imm _=>rfl
 |.osl .. =>rfl
 |.optr .. =>rfl
 |.omap _=>rfl
 |.clo fn caps=>by simp only[AV.ren,zpj caps]
 |.agg cells=>by simp only[AV.ren,zpj cells]
 |.tup vs=>by simp only[AV.ren,zpj vs]
 |.yld _=>rfl
 |.seat .. =>rfl
 |.tag .. =>rfl
 |.err=>rfl
 |.junk=>rfl
theorem zpj:∀(l:List AV),AV.ren.renL some l=l
 |[]=>rfl
 |x::r=>by simp only[AV.ren.renL,zjx x,zpj r]
end
theorem ARep.mono{C D:Cx}(t:Tr some C D){x:AV}{v:Value}(h:ARep num C x v):ARep num D x v:=by
 have:=h.tr t
 rwa [zjx]at this
theorem Tr.refl(C:Cx):Tr some C C:=⟨fun _ h=>h,fun _ _=>rfl,fun id j hid hj=>by cases hj;exact⟨hid,rfl,fun _ _ h=>h⟩⟩
variable (num)
def zc4(C:Cx)(id:Nat):AObj->Prop
 |.flat cells _=>∃arr e,C.w.heap[C.σ id]?=some (.cells arr e (0,0))/\∀(j:Nat) x,cells[j]?=some x->∃u:Value,arr[j]?=some u/\IRep C.I C.w x u
 |.rich cells=>∃arr e,C.w.heap[C.σ id]?=some (.cells arr e (0,0))/\∀(j:Nat) x,cells[j]?=some x->∃u:Value,arr[j]?=some u/\u.oneCell'=true/\ARep num C x u
 |.map es=>∃(es':Array MapEntry) (clock:Nat),C.w.heap[C.σ id]?=some (.map es' clock)/\es'.size=es.length/\∀(j:Nat) (p:AV×AV) (x:MapEntry),es[j]?=some p->es'[j]?=some x->ARep num C p.1 x.key/\ARep num C p.2 x.val
 |.dead=>True
 |.fix cells _ _=>∃arr e,C.w.heap[C.σ id]?=some (.cells arr e (0,0))/\∀(j:Nat) x,cells[j]?=some x->∃u:Value,arr[j]?=some u/\IRep C.I C.w x u
 |.loop env ps as b y=>∃(R:Loop) (N:Nat),C.w.heap[C.σ id]?=some (.loop R)/\R.state=(if y then .busy else .ready)/\R.pending=none/\R.params.toList=ps/\N<=R.tmps.size/\num.L R.assign R.body ps N as b/\∀p∈env,ARep num C p.2 (R.tmps.getD p.1 undef)
 |.text cells=>∃arr e,C.w.heap[C.σ id]?=some (.cells arr e (0,0))/\num.U e/\∀(j:Nat) x,cells[j]?=some x->∃u:Value,arr[j]?=some u/\IRep C.I C.w x u
 |.iter s pos=>C.w.heap[C.σ id]?=some (.stringIter s pos)
theorem zjh(f:Nat->Option Nat)(t:Nat):∀(e:Env),(Env.ren f e).get t=(e.get t).ren f
 |[]=>rfl
 |(k,v)::r=>by
  simp only[Env.ren,Env.get]
  split
  ·rfl
  ·exact zjh f t r
theorem zvw{f:Nat->Option Nat}{q:Nat×AV}:∀{e:Env},q∈Env.ren f e->∃p∈e,q=(p.1,p.2.ren f)
 |(k,v)::r,h=>by
  simp only[Env.ren,xca]at h
  rcases h with rfl|h
  ·exact⟨(k,v),xbh ..,rfl⟩
  ·obtain⟨p,hp,rfl⟩:=zvw h
   exact⟨p,xbc _ hp,rfl⟩
theorem zcf:∀(e:Env),Env.ren some e=e
 |[]=>rfl
 |(k,v)::r=>by simp only[Env.ren,zjx,zcf r]
variable {num} in
theorem zk2{f:Nat->Option Nat}{C D:Cx}{id id':Nat}(t:Tr f C D)(hσ:D.σ id'=C.σ id)(hb:∀x:Obj,C.w.heap[C.σ id]?=some x->D.w.heap[C.σ id]?=some x){o:AObj}(h:zc4 num C id o):zc4 num D id' (o.ren f):=by
 cases o with
 |flat cs mv=>
  obtain⟨arr,e,h1,h2⟩:=h
  refine⟨arr,e,by rw[hσ];exact hb _ h1,fun k x hx=>?_⟩
  obtain⟨u,hu,hr⟩:=h2 k x hx
  exact⟨u,hu,hr.mono t.imm t.keep⟩
 |rich cs=>
  obtain⟨arr,e,h1,h2⟩:=h
  refine⟨arr,e,by rw[hσ];exact hb _ h1,fun k x hx=>?_⟩
  rw[zi2]at hx
  cases hq:cs[k]? with
  |none=>simp[hq]at hx
  |some y=>
   simp[hq]at hx
   subst hx
   obtain⟨u,hu,ho,hr⟩:=h2 k y hq
   exact⟨u,hu,ho,hr.tr t⟩
 |map es=>
  obtain⟨es',clock,h1,h2,h3⟩:=h
  refine⟨es',clock,by rw[hσ];exact hb _ h1,by simpa using h2,fun j p x hp hx=>?_⟩
  rw[xar]at hp
  cases hq:es[j]? with
  |none=>simp[hq]at hp
  |some q=>
   simp[hq]at hp
   subst hp
   obtain⟨h4,h5⟩:=h3 j q x hq hx
   exact⟨h4.tr t,h5.tr t⟩
 |dead=>trivial
 |fix cs mv op=>
  obtain⟨arr,e,h1,h2⟩:=h
  refine⟨arr,e,by rw[hσ];exact hb _ h1,fun k x hx=>?_⟩
  obtain⟨u,hu,hr⟩:=h2 k x hx
  exact⟨u,hu,hr.mono t.imm t.keep⟩
 |loop env ps as b y=>
  obtain⟨R,N,h1,h2,h3,h4,h5,h6,h7⟩:=h
  refine⟨R,N,by rw[hσ];exact hb _ h1,h2,h3,h4,h5,h6,fun q hq=>?_⟩
  obtain⟨p,hp,rfl⟩:=zvw hq
  exact(h7 p hp).tr t
 |text cs=>
  obtain⟨arr,e,h1,hu,h2⟩:=h
  refine⟨arr,e,by rw[hσ];exact hb _ h1,hu,fun k x hx=>?_⟩
  obtain⟨u,hu,hr⟩:=h2 k x hx
  exact⟨u,hu,hr.mono t.imm t.keep⟩
 |iter s pos=>
  show D.w.heap[D.σ id']?=_
  rw[hσ];exact hb _ h
theorem zmq(o:AObj):o.ren some=o:=by
 cases o with
 |flat=>rfl
 |rich cs=>simp only[AObj.ren,zpj]
 |map es=>simp only[AObj.ren,zjx];simp
 |dead=>rfl
 |fix=>rfl
 |loop env ps as b y=>simp only[AObj.ren,zcf]
 |text=>rfl
 |iter=>rfl
variable {num} in
theorem zh6{C D:Cx}{id:Nat}(t:Tr some C D)(hσ:D.σ id=C.σ id)(hb:∀x:Obj,C.w.heap[C.σ id]?=some x->D.w.heap[C.σ id]?=some x){o:AObj}(h:zc4 num C id o):zc4 num D id o:=by
 have:=zk2 t hσ hb h
 rwa [zmq]at this
def Own(C:Cx)(m:Mem)(b:Nat):Prop:=∃id o,m[id]?=some o/\o.live=true/\C.σ id=b
def AObj.twin:AObj->AObj->Prop
 |.fix a _ s,.fix b _ t=>(s&&t)=false/\(s=true->b.length<=a.length)/\(t=true->a.length<=b.length)
 |_,_=>False
theorem zlc{o p:AObj}(h:o.twin p):o.isFix=true/\p.isFix=true:=by
 unfold AObj.twin at h
 split at h
 ·exact⟨rfl,rfl⟩
 ·cases h
theorem zpx(f g:Nat->Option Nat)(o p:AObj):(o.ren f).twin (p.ren g)↔o.twin p:=by
 cases o<;>cases p<;>simp[AObj.ren,AObj.twin]
theorem z4t(b c:Bool)(o p:AObj):(o.orMoved b).twin (p.orMoved c)↔o.twin p:=by
 cases o<;>cases p<;>simp[AObj.orMoved,AObj.twin]
structure MRep (C:Cx) (m:Mem):Prop where
 len:m.length=C.n
 obj:∀id o,m[id]?=some o->zc4 num C id o
 inj:∀i j o p,m[i]?=some o->m[j]?=some p->o.live=true->p.live=true->C.σ i=C.σ j->i=j\/o.twin p
 imm:∀b,Own C m b->¬C.I b
 bd:∀b,C.I b->b<C.w.heap.size
 glo:num.G C.I C.w
theorem MRep.inj1{C:Cx}{m:Mem}(h:MRep num C m)(i j:Nat)(o p:AObj)(ho:m[i]?=some o)(hp:m[j]?=some p)(hlo:o.live=true)(hlp:p.live=true)(hf:o.isFix=false)(he:C.σ i=C.σ j):i=j:=by
 rcases h.inj i j o p ho hp hlo hlp he with h|h
 ·exact h
 ·rw[(zlc h).1]at hf;cases hf
theorem MRep.inj2{C:Cx}{m:Mem}(h:MRep num C m)(i j:Nat)(o p:AObj)(ho:m[i]?=some o)(hp:m[j]?=some p)(hlo:o.live=true)(hlp:p.live=true)(hf:p.isFix=false)(he:C.σ i=C.σ j):i=j:=
 (h.inj1 num j i p o hp ho hlp hlo hf he.symm).symm
theorem MRep.lt{C:Cx}{m:Mem}(h:MRep num C m){b:Nat}(hb:Own C m b):b<C.w.heap.size:=by
 obtain⟨id,o,ho,hl,rfl⟩:=hb
 have:=h.obj id o ho
 cases o with
 |flat cells mv=>obtain⟨arr,e,h1,_⟩:=this;exact(xal.1 h1).1
 |rich cells=>obtain⟨arr,e,h1,_⟩:=this;exact(xal.1 h1).1
 |map es=>obtain⟨es',clock,h1,_⟩:=this;exact(xal.1 h1).1
 |dead=>cases hl
 |fix cells mv op=>obtain⟨arr,e,h1,_⟩:=this;exact(xal.1 h1).1
 |loop=>obtain⟨R,N,h1,_⟩:=this;exact(xal.1 h1).1
 |text=>obtain⟨arr,e,h1,_⟩:=this;exact(xal.1 h1).1
 |iter=>exact(xal.1 this).1
structure Step (k:Nat) (C:Cx) (m:Mem) (D:Cx) (m':Mem):Prop where
 rep:MRep num D m'
 os:D.w.os=C.w.os
 tape:D.w.tape=C.w.tape
 out:D.w.output=C.w.output
 size:C.w.heap.size<=D.w.heap.size
 keep:∀b,b<C.w.heap.size->¬Own C m b->D.w.heap[b]?=C.w.heap[b]?
 sz:∀(b n:Nat) e,RowAt C.w b n e->RowAt D.w b n e
 imm:∀b,C.I b->D.I b
 imm':∀b,D.I b->C.I b\/C.w.heap.size<=b\/Own C m b
 own:∀b,Own D m' b->C.w.heap.size<=b\/Own C m b
 same:∀i,i<k->∀o',m'[i]?=some o'->o'.moved=false->∃o,m[i]?=some o/\o.moved=false/\D.σ i=C.σ i
 len:k<=m'.length
variable {num}
theorem Step.refl{C:Cx}{m:Mem}{k:Nat}(h:MRep num C m)(hk:k<=m.length):Step num k C m C m:=
 ⟨h,rfl,rfl,rfl,xap _,fun _ _ _=>rfl,fun _ _ _ h=>h,fun _ h=>h,fun _ h=>.inl h,fun _ h=>.inr h,fun i _ o' ho hm=>⟨o',ho,hm,rfl⟩,hk⟩
theorem Step.trans{k:Nat}{C D E:Cx}{m m' m'':Mem}(h:Step num k C m D m')(g:Step num k D m' E m''):Step num k C m E m'':=by
 refine⟨g.rep,g.os.trans h.os,g.tape.trans h.tape,g.out.trans h.out,xb1 h.size g.size,?_,?_,fun b hb=>g.imm b (h.imm b hb),?_,?_,?_,g.len⟩
 ·intro b hb hno
  have h1:¬Own D m' b:=fun ho=>by rcases h.own b ho with h'|h';omega;exact hno h'
  exact(g.keep b (xbz hb h.size) h1).trans (h.keep b hb hno)
 ·intro b n e hw
  exact g.sz b n e (h.sz b n e hw)
 ·intro b hb
  rcases g.imm' b hb with h1|h1|h1
  ·exact h.imm' b h1
  ·exact .inr (.inl (xb1 h.size h1))
  ·exact .inr (h.own b h1)
 ·intro b hb
  rcases g.own b hb with h1|h1
  ·exact .inl (xb1 h.size h1)
  ·exact h.own b h1
 ·intro i hi o' ho hm
  obtain⟨o1,h1,h2,h3⟩:=g.same i hi o' ho hm
  obtain⟨o2,h4,h5,h6⟩:=h.same i hi o1 h1 h2
  exact⟨o2,h4,h5,h3.trans h6⟩
theorem Step.le{k j:Nat}{C D:Cx}{m m':Mem}(h:Step num k C m D m')(hj:j<=k):Step num j C m D m':=
 ⟨h.rep,h.os,h.tape,h.out,h.size,h.keep,h.sz,h.imm,h.imm',h.own,fun i hi=>h.same i (by omega),xb1 hj h.len⟩
theorem Step.keepI{k:Nat}{C D:Cx}{m m':Mem}(h:Step num k C m D m')(hC:MRep num C m){b:Nat}(hb:C.I b):D.w.heap[b]?=C.w.heap[b]?:=
 h.keep b (hC.bd b hb) fun ho=>hC.imm b ho hb
variable (num)
def ERep(C:Cx)(e:Env)(tmps:Array Value):Prop:=∀t,ARep num C (e.get t) (tmps.getD t undef)
variable {num}
theorem ERep.tr{f:Nat->Option Nat}{C D:Cx}(t:Tr f C D){e:Env}{tmps:Array Value}(h:ERep num C e tmps):ERep num D (e.ren f) tmps:=by
 intro n
 rw[zjh]
 exact(h n).tr t
theorem ERep.mono{C D:Cx}(t:Tr some C D){e:Env}{tmps:Array Value}(h:ERep num C e tmps):ERep num D e tmps:=fun n=>(h n).mono t
theorem z0i(e:Env)(t:Nat):∀(l:List Nat),(Env.get (l.map fun n=>(n,e.get n)) t)=if t∈l then e.get t else .junk
 |[]=>rfl
 |k::r=>by
  simp only[xa4,Env.get]
  by_cases h:t=k
  ·subst h;simp
  ·rw[if_neg h,z0i e t r]
   by_cases h':t∈r
   ·simp[h']
   ·simp[h',h]
theorem ERep.keep{C:Cx}{e:Env}{tmps:Array Value}(h:ERep num C e tmps)(l:List Nat):ERep num C (e.keep l) tmps:=by
 intro t
 unfold Env.keep
 rw[z0i]
 split
 ·exact h t
 ·exact .junk _
theorem ERep.put{C:Cx}{e:Env}{a:Act}(h:ERep num C e a.tmps){d:Nat}(hd:d<a.tmps.size){x:AV}{v:Value}(hx:ARep num C x v):ERep num C ((d,x)::e) (a.put (some d) v).tmps:=by
 intro t
 simp only[Env.get,Act.put]
 by_cases ht:t=d
 ·subst ht
  rw[if_pos rfl]
  simpa [Array.getD,hd]using hx
 ·rw[if_neg ht]
  have:(a.tmps.setIfInBounds d v).getD t undef=a.tmps.getD t undef:=by
   simp only[xbn,Array.getElem?_setIfInBounds]
   rw[if_neg (by omega)]
  rw[this]
  exact h t
end
end Go.EX


namespace Go.EX
section
variable {num:Names}
def zja(num:Names)(C:Cx)(b o:Nat)(l:List AV):Prop:=∀(j:Nat) x,l[j]?=some x->∃u:Value,C.w.cell? ⟨b,o+j,none⟩=some u/\u.oneCell'=true/\ARep num C x u
theorem zhw{α:Type}{l c:List α}{o n:Nat}(h:cut l o n=some c):c.length=n:=by
 unfold cut at h
 dsimp only at h
 split at h
 ·obtain rfl:=xau h;assumption
 ·cases h
theorem zai{α:Type}{l c:List α}{o n:Nat}(h:cut l o n=some c)(j:Nat)(hj:j<n):l[o+j]?=c[j]?:=by
 unfold cut at h
 dsimp only at h
 split at h
 ·obtain rfl:=xau h
  rw[List.getElem?_take_of_lt hj,xbv]
 ·cases h
theorem zof{α β:Type}(f:α->β)(l:List α)(o n:Nat):cut (l.map f) o n=(cut l o n).map (List.map f):=by
 unfold cut
 simp only[<-List.map_drop,<-List.map_take,xam]
 split<;>simp
theorem zrc(agg:Option Nat)(l:List IV)(off:Nat):zf9 agg l off=zdw agg (l.map .imm) off:=by
 cases agg with
 |none=>simp[zf9,zdw]
 |some n=>simp only[zf9,zdw,zof,Option.map_map];rfl
theorem zzg{C:Cx}{row:List IV}{b o:Nat}{u:Nat->Value}(hc:∀(j:Nat) (x:IV),row[j]?=some x->C.w.cell? ⟨b,o+j,none⟩=some (u j))(hu:∀(j:Nat) (x:IV),row[j]?=some x->IRep C.I C.w x (u j)):
  zja num C b o (row.map .imm):=by
 intro j x hx
 rw[xar]at hx
 cases hr:row[j]? with
 |none=>simp[hr]at hx
 |some y=>simp[hr]at hx;subst hx;exact⟨u j,hc j y hr,(hu j y hr).one,.imm y _ (hu j y hr)⟩
theorem zl2{C:Cx}{cs:List IV}{id:Nat}{mv:Bool}(h:zc4 num C id (.flat cs mv)):zja num C (C.σ id) 0 (cs.map .imm):=by
 obtain⟨arr,e,h1,h2⟩:=h
 intro j x hx
 rw[xar]at hx
 cases hr:cs[j]? with
 |none=>simp[hr]at hx
 |some y=>
  simp[hr]at hx;subst hx
  obtain⟨u,hu,hr'⟩:=h2 j y hr
  exact⟨u,by rw[cell_of_row C.w _ _ arr e _ h1];simpa using hu,hr'.one,.imm y _ hr'⟩
theorem zve{C:Cx}{cs:List AV}{id:Nat}(h:zc4 num C id (.rich cs)):zja num C (C.σ id) 0 cs:=by
 obtain⟨arr,e,h1,h2⟩:=h
 intro j x hx
 obtain⟨u,hu,ho,hr'⟩:=h2 j x hx
 exact⟨u,by rw[cell_of_row C.w _ _ arr e _ h1];simpa using hu,ho,hr'⟩
theorem z1i{C:Cx}{cs:List IV}{mv op:Bool}{id:Nat}(h:zc4 num C id (.fix cs mv op)):zc4 num C id (.flat cs mv):=h
theorem yfa{C:Cx}{m:Mem}(hm:MRep num C m){p:AV}{v:Value}(hp:ARep num C p v){agg:Option Nat}{x:AV}(hx:loadAt m agg p=some x):
  ∃b o off l,v=.pointer (some ⟨b,o+off,none⟩)/\zja num C b o l/\zdw agg l off=some x:=by
 unfold loadAt at hx
 split at hx
 ·rename_i row off
  cases hp with
  |imm _ _ h=>
   cases h with
   |ptr _ _ b o u hb hc hu=>exact⟨b,o,off,_,rfl,zzg hc hu,by rw[<-zrc];exact hx⟩
 ·rename_i row off
  cases hp with
  |tag _ _ _ _ h ha=>
   cases h with
   |ptr _ _ b o u hb hc hu=>exact⟨b,o,off,_,rfl,zzg hc hu,by rw[<-zrc];exact hx⟩
 ·rename_i id off
  cases hp with
  |optr _ _ hid=>
   split at hx
   ·rename_i cs mv ho
    exact⟨C.σ id,0,off,_,by rw[xaw],zl2 (hm.obj id _ ho),by rw[<-zrc];exact hx⟩
   ·rename_i cs ho
    exact⟨C.σ id,0,off,_,by rw[xaw],zve (hm.obj id _ ho),hx⟩
   ·rename_i cs mv op ho
    exact⟨C.σ id,0,off,_,by rw[xaw],zl2 (mv:=mv) (z1i (hm.obj id _ ho)),by rw[<-zrc];exact hx⟩
   ·cases hx
 ·cases hx
theorem yax{P:Program}{C:Cx}{b o off n:Nat}{l r:List AV}(h:zja num C b o l)(hr:cut l off n=some r):
  ∃vs:Array Value,(loadCells ⟨b,o+off,none⟩ n).run P C.w=.ok vs C.w/\vs.size=n/\(∀(j:Nat) u,vs[j]?=some u->u.oneCell'=true)/\∀(j:Nat) x u,r[j]?=some x->vs[j]?=some u->ARep num C x u:=by
 have hlen:=zhw hr
 have hx:∀j,j<n->∃u:Value,C.w.cell? ⟨b,o+off+j,none⟩=some u/\u.oneCell'=true/\∀x,r[j]?=some x->ARep num C x u:=by
  intro j hj
  have h1:=zai hr j hj
  have hjr:j<r.length:=by omega
  rw[xaa hjr]at h1
  obtain⟨u,hu,h2,h3⟩:=h _ _ h1
  refine⟨u,by rw[xb4];exact hu,h2,fun x hx=>?_⟩
  rw[xaa hjr]at hx
  obtain rfl:=xau hx
  exact h3
 let f:Nat->Value:=fun j=>(C.w.cell? ⟨b,o+off+j,none⟩).getD undef
 have hf:∀j,j<n->C.w.cell? ((⟨b,o+off,none⟩:Addr).add j)=some (f j):=by
  intro j hj
  obtain⟨u,hu,_⟩:=hx j hj
  rw[zel,hu]
  simp[f,hu]
 refine⟨((List.range n).map f).toArray,run_loadCells C.w _ n f hf,by simp,?_,?_⟩
 ·intro j u hu
  simp only[List.getElem?_toArray,xar]at hu
  by_cases hj:j<n
  ·rw[xbx hj]at hu
   obtain⟨u',hu',h2,_⟩:=hx j hj
   simp[f,hu']at hu
   subst hu
   exact h2
  ·rw[xaq (by simp;omega)]at hu;simp at hu
 ·intro j x u hxr hu
  simp only[List.getElem?_toArray,xar]at hu
  have hj:j<n:=by
   have:=(xab.1 hxr).1
   omega
  rw[xbx hj]at hu
  obtain⟨u',hu',_,h3⟩:=hx j hj
  simp[f,hu']at hu
  subst hu
  exact h3 x hxr
theorem zfn(w:World)(g:Nat)(arr cs:Array Value)(e:TypeId)(h:w.heap[g]?=some (.cells arr e (0,0)))(k:Nat):
  (w.setRow g cs).heap[k]?=if k=g then some (.cells cs e (0,0))else w.heap[k]?:=by
 by_cases hk:k=g
 ·subst hk;rw[if_pos rfl];exact setRow_heap w k arr cs e _ h
 ·rw[if_neg hk];exact setRow_other w g k cs hk
theorem zi7{C:Cx}{m:Mem}(hm:MRep num C m){id:Nat}{o:AObj}(ho:m[id]?=some o)(hlo:o.live=true){arr cs:Array Value}{e:TypeId}
  (hw:C.w.heap[C.σ id]?=some (.cells arr e (0,0))) (hs:cs.size=arr.size):Tr some C { C with w:=C.w.setRow (C.σ id) cs }:=by
 refine⟨fun _ h=>h,fun b hb=>?_,fun i j hi hj=>?_⟩
 ·show(C.w.setRow (C.σ id) cs).heap[b]?=_
  rw[zfn _ _ _ _ _ hw,if_neg]
  intro hb'
  exact hm.imm b ⟨id,o,ho,hlo,hb'.symm⟩ hb
 ·cases hj
  refine⟨hi,rfl,fun arr' e' h'=>?_⟩
  by_cases hc:C.σ i=C.σ id
  ·rw[hc]at h' ⊢
   exact h'.put hw (by show(C.w.setRow (C.σ id) cs).heap[C.σ id]?=_;rw[zfn _ _ _ _ _ hw,if_pos rfl]) hs
  ·exact h'.same (by show(C.w.setRow (C.σ id) cs).heap[C.σ i]?=_;rw[zfn _ _ _ _ _ hw,if_neg hc])
theorem zhi{α:Type}(l:List α)(i:Nat)(x:α)(j:Nat):(l.set i x)[j]?=if i=j/\j<l.length then some x else l[j]?:=by
 rw[List.getElem?_set]
 by_cases h:i=j
 ·subst h
  by_cases h2:i<l.length
  ·simp[h2]
  ·simp[h2]
 ·simp[h]
theorem zp0{C:Cx}{m:Mem}(hm:MRep num C m){id:Nat}{o o':AObj}(ho:m[id]?=some o)(hlo:o.live=true){arr cs:Array Value}{e:TypeId}
  (hw:C.w.heap[C.σ id]?=some (.cells arr e (0,0))) (hs:cs.size=arr.size) (hlo':o'.live=true) (hmv:o'.moved=false->o.moved=false)
  (hr:zc4 num { C with w:=C.w.setRow (C.σ id) cs } id o') {k:Nat} (hk:k<=m.length) (hof:o.isFix=false:=by rfl):
  Step num k C m { C with w:=C.w.setRow (C.σ id) cs } (m.set id o'):=by
 have ht:=zi7 hm ho hlo hw hs
 have hid:id<m.length:=(xab.1 ho).1
 have hg:∀b,(C.w.setRow (C.σ id) cs).heap[b]?=if b=C.σ id then some (.cells cs e (0,0))else C.w.heap[b]?:=fun b=>zfn _ _ _ _ _ hw b
 have hown:∀b,Own { C with w:=C.w.setRow (C.σ id) cs } (m.set id o') b->Own C m b:=by
  rintro b ⟨i,p,hp,hl,hb⟩
  rw[zhi]at hp
  split at hp
  ·rename_i hi
   obtain⟨rfl,_⟩:=hi
   exact⟨id,o,ho,hlo,hb⟩
  ·exact⟨i,p,hp,hl,hb⟩
 refine⟨⟨by simpa using hm.len,?_,?_,fun b hb=>hm.imm b (hown b hb),fun b hb=>by show b<(C.w.setRow (C.σ id) cs).heap.size;rw[size_setRow];exact hm.bd b hb,num.up hm.glo ht.imm ht.keep⟩,rfl,rfl,rfl,by show _<=(C.w.setRow (C.σ id) cs).heap.size;rw[size_setRow];exact xap _,?_,?_,fun _ h=>h,fun _ h=>.inl h,fun b hb=>.inr (hown b hb),?_,by simpa using hk⟩
 ·intro i p hp
  rw[zhi]at hp
  split at hp
  ·rename_i hi
   obtain⟨rfl,_⟩:=hi
   obtain rfl:=xau hp
   exact hr
  ·rename_i hi
   have hne:i≠id:=fun e=>hi ⟨e.symm,by have:=(xab.1 hp).1;exact this⟩
   by_cases hlp:p.live=true
   ·refine zh6 ht rfl (fun x hx=>?_) (hm.obj i p hp)
    show(C.w.setRow (C.σ id) cs).heap[C.σ i]?=_
    rw[hg,if_neg fun e=>hne (hm.inj2 num i id _ _ hp ho hlp hlo hof e)];exact hx
   ·cases p with
    |dead=>trivial
    |_=>exact absurd rfl hlp
 ·intro i j p q hp hq hlp hlq hσ
  have back:∀(i:Nat) (p:AObj),(m.set id o')[i]?=some p->p.live=true->∃p':AObj,m[i]?=some p'/\p'.live=true/\(p'=p\/p'.isFix=false):=by
   intro i p hp hl
   rw[zhi]at hp
   split at hp
   ·rename_i hi;obtain⟨rfl,_⟩:=hi;exact⟨o,ho,hlo,.inr hof⟩
   ·exact⟨p,hp,hl,.inl rfl⟩
  obtain⟨p',hp',hlp',hp3⟩:=back i p hp hlp
  obtain⟨q',hq',hlq',hq3⟩:=back j q hq hlq
  rcases hm.inj i j p' q' hp' hq' hlp' hlq' hσ with h|h
  ·exact .inl h
  ·rcases hp3 with rfl|h3
   ·rcases hq3 with rfl|h4
    ·exact .inr h
    ·rw[(zlc h).2]at h4;cases h4
   ·rw[(zlc h).1]at h3;cases h3
 ·intro b _ hno
  show(C.w.setRow (C.σ id) cs).heap[b]?=_
  rw[hg,if_neg fun e=>hno ⟨id,o,ho,hlo,e.symm⟩]
 ·intro b arr' e' hw'
  by_cases hb:b=C.σ id
  ·subst hb
   exact hw'.put hw (by show(C.w.setRow (C.σ id) cs).heap[C.σ id]?=_;rw[hg,if_pos rfl]) hs
  ·exact hw'.same (by show(C.w.setRow (C.σ id) cs).heap[b]?=_;rw[hg,if_neg hb])
 ·intro i _ p hp hmp
  rw[zhi]at hp
  split at hp
  ·rename_i hi
   obtain⟨rfl,_⟩:=hi
   obtain rfl:=xau hp
   exact⟨o,ho,hmv hmp,rfl⟩
  ·exact⟨p,hp,hmp,rfl⟩
def Cx.more(C:Cx)(w1:World)(o:Obj):Cx:={ σ:=fun i=>if i=C.n then C.w.heap.size else C.σ i,I:=C.I,n:=C.n+1,w:=w1.alloc o }
theorem zd4{w:World}{o:Obj}{k:Nat}:(w.alloc o).heap[k]?=if k=w.heap.size then some o else w.heap[k]?:=by
 by_cases h:k=w.heap.size
 ·subst h;rw[if_pos rfl];exact heap_alloc_new w o
 ·rw[if_neg h]
  rcases xa1 k w.heap.size with h'|h'
  ·exact heap_alloc_old w o k h'
  ·rw[Array.getElem?_eq_none (by simp;omega),Array.getElem?_eq_none h']
theorem zgb{C:Cx}{m:Mem}(hm:MRep num C m){w1:World}(hw1:w1.heap=C.w.heap)(o:Obj):Tr some C (C.more w1 o):=by
 have lt:∀k (x:Obj),C.w.heap[k]?=some x->k<C.w.heap.size:=fun k x h=>(xal.1 h).1
 refine⟨fun _ h=>h,fun b hb=>?_,fun i j hi hj=>?_⟩
 ·show(w1.alloc o).heap[b]?=_
  rw[zd4,hw1,if_neg (by have:=hm.bd b hb;omega)]
 ·cases hj
  have hne:i≠C.n:=by omega
  refine⟨Nat.lt_succ_of_lt hi,by simp[Cx.more,hne],fun arr e h=>h.same ?_⟩
  show(w1.alloc o).heap[C.σ i]?=_
  rw[zd4,hw1,if_neg (by have:=h.lt;omega)]
theorem zh2{C:Cx}{m:Mem}(hm:MRep num C m){w1:World}(hw1:w1.heap=C.w.heap)(hos:w1.os=C.w.os)(htp:w1.tape=C.w.tape)(hout:w1.output=C.w.output)(ob:Obj)(o':AObj)
  (hr:zc4 num (C.more w1 ob) C.n o') {k:Nat} (hk:k<=m.length):
  Step num k C m (C.more w1 ob) (m++[o']):=by
 have ht:=zgb hm hw1 ob
 have hlen:=hm.len
 have hsz:C.w.heap.size<=(w1.alloc ob).heap.size:=by rw[World.size_alloc,hw1];omega
 have hσ:∀i,i<m.length->(C.more w1 ob).σ i=C.σ i:=fun i hi=>by simp only[Cx.more];rw[if_neg (by omega)]
 have split:∀(i:Nat) (p:AObj),(m++[o'])[i]?=some p->(i<m.length/\m[i]?=some p)\/(i=C.n/\p=o'):=by
  intro i p hp
  rcases xa1 i m.length with h|h
  ·rw[xac h]at hp;exact .inl ⟨h,hp⟩
  ·rw[xag h]at hp
   have h0:i-m.length=0:=by
    rcases xcx (i-m.length)with h0|h0
    ·exact h0
    ·rw[xaq (by simp;omega)]at hp;cases hp
   rw[h0]at hp
   exact .inr ⟨by omega,by simpa using hp.symm⟩
 have hown:∀b,Own (C.more w1 ob) (m++[o']) b->C.w.heap.size<=b\/Own C m b:=by
  rintro b ⟨i,p,hp,hl,hb⟩
  rcases split i p hp with⟨hi,hp'⟩|⟨rfl,rfl⟩
  ·rw[hσ i hi]at hb;exact .inr ⟨i,p,hp',hl,hb⟩
  ·simp[Cx.more]at hb;exact .inl (by omega)
 refine⟨⟨by simp[Cx.more,hlen],?_,?_,?_,?_,num.up hm.glo ht.imm ht.keep⟩,hos,htp,hout,hsz,?_,?_,fun _ h=>h,fun _ h=>.inl h,hown,?_,by simp;omega⟩
 ·intro i p hp
  rcases split i p hp with⟨hi,hp'⟩|⟨rfl,rfl⟩
  ·refine zh6 ht (hσ i hi) (fun x hx=>?_) (hm.obj i p hp')
   show(w1.alloc _).heap[_]?=_
   rw[zd4,hw1,if_neg (by have:=(xal.1 hx).1;omega)];exact hx
  ·exact hr
 ·intro i j p q hp hq hlp hlq hσe
  rcases split i p hp with⟨hi,hp'⟩|⟨rfl,rfl⟩<;>rcases split j q hq with⟨hj,hq'⟩|⟨rfl,rfl⟩
  ·rw[hσ i hi,hσ j hj]at hσe
   exact hm.inj i j p q hp' hq' hlp hlq hσe
  ·rw[hσ i hi]at hσe
   have:Own C m (C.σ i):=⟨i,p,hp',hlp,rfl⟩
   have:=MRep.lt num hm this
   simp[Cx.more]at hσe
   omega
  ·rw[hσ j hj]at hσe
   have:Own C m (C.σ j):=⟨j,q,hq',hlq,rfl⟩
   have:=MRep.lt num hm this
   simp[Cx.more]at hσe
   omega
  ·exact .inl rfl
 ·intro b hb hI
  rcases hown b hb with h|h
  ·have:=hm.bd b hI;omega
  ·exact hm.imm b h hI
 ·intro b hb
  exact xbz (hm.bd b hb) hsz
 ·intro b hb _
  show(w1.alloc _).heap[b]?=_
  rw[zd4,hw1,if_neg (by omega)]
 ·intro b arr' e' hw'
  refine hw'.same ?_
  show(w1.alloc _).heap[b]?=_
  rw[zd4,hw1,if_neg (by have:=hw'.lt;omega)]
 ·intro i hi p hp hmp
  rcases split i p hp with⟨hi',hp'⟩|⟨rfl,rfl⟩
  ·exact⟨p,hp',hmp,hσ i hi'⟩
  ·omega
end
end Go.EX

