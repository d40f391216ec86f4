import Derived.Test.YtjdfihnmpmckjaaGreatDoorK6
import Derived.Lib.LaidTab
import Derived.Shelf.Strconv.Itoa4
set_option linter.unusedVariables false
set_option linter.unusedSimpArgs false
namespace Go.EX
open Go.Proofs
abbrev Tab:=String×IntKind×List Int
def TabsIn(P:Program)(ts:List Tab)(I:Nat->Prop)(w:World):Prop:=∀t∈ts,(∃g,P.globalNamed t.1=some g/\I g)/\Lib.TabIs P w t.1 t.2.1 t.2.2
theorem TabsIn.up{P:Program}{ts:List Tab}{I J:Nat->Prop}{w w':World}(h:TabsIn P ts I w)(hI:∀b,I b->J b)(hw:∀b,I b->w'.heap[b]?=w.heap[b]?):TabsIn P ts J w':=by
 intro t ht
 obtain⟨⟨g,h1,h2⟩,h3⟩:=h t ht
 refine⟨⟨g,h1,hI g h2⟩,?_⟩
 unfold Lib.TabIs World.var? at *
 rw[h1]at h3 ⊢
 simp only[xbe]at h3 ⊢
 rw[hw g h2];exact h3
@[reducible] def Names.tabs(f:FuncId->Nat)(P:Program)(ts:List Tab):Names:=⟨f,TabsIn P ts,fun h hI hw=>h.up hI hw,znx P f,fun e n off=>zjp P e n off=true,fun e=>zky P e=true/\P.cellsOf e=1⟩
section
variable {num:Names} {P:Program}
theorem z9q{C:Cx}{m:Mem}(hm:MRep num C m){w':World}(hos:w'.os=C.w.os)(htp:w'.tape=C.w.tape)(hout:w'.output=C.w.output)(hsize:C.w.heap.size<=w'.heap.size)
  (hk:∀b,b<C.w.heap.size->w'.heap[b]?=C.w.heap[b]?):Step num m.length C m { C with w:=w' } m:=
 zv1 hm hos htp hout hsize hk (fun _ h=>h) (fun _ h=>.inl h) (fun b h=>xbz (hm.bd b h) hsize) (xap _)
theorem yim{C:Cx}{a b:Value}{vals:Array Value}(hl:[AV.imm (.val a),AV.imm (.val b)].length=vals.size)(hr:∀(j:Nat) (x:AV) (u:Value),[AV.imm (.val a),AV.imm (.val b)][j]?=some x->vals[j]?=some u->ARep num C x u):
  vals= #[a,b]:=by
 obtain⟨l⟩:=vals
 match l,hl,hr with
 |[u,v],_,hr=>rw[zbw (hr 0 _ u rfl rfl),zbw (hr 1 _ v rfl rfl)]
def ziu(g:Nat):zac:=fun f args m=>if f=g then match args with
  |[.imm (.val (.int .i64 n)),.imm (.val (.int .i64 10))]=>if -9223372036854775808<=n/\n<=9223372036854775807 then some (.imm (.val (.string ⟨(Lib.itoa n).toArray⟩)),m)else none
  |_=>none
 else none
def zdl(a b:zac):zac:=fun f args m=>match a f args m with
 |some r=>some r
 |none=>b f args m
theorem zhx{a b:zac}(ha:zev num P a)(hb:zev num P b):zev num P (zdl a b):=by
 intro f args m r m' C vals hc hm hl hr
 unfold zdl at hc
 split at hc
 ·rename_i q hq
  cases hc
  exact ha f args m r m' C vals hq hm hl hr
 ·exact hb f args m r m' C vals hc hm hl hr
end
end Go.EX

