import Derived.Test.YtjdfihnmpmckjaaGreatDoorK14
import Derived.Test.YtjdfihnmpmckjaaGreatDoorFmt2
import Derived.Test.YtjdfihnmpmckjaaGreatDoorK6
namespace Go.Proofs.YtjdfihnmpmckjaaGreatDoor
open Go.EX Go.Shelf
def ren246:Go.Shelf.Ren:=⟨fun|246=>232|283=>234|284=>235|285=>236|286=>237|129=>239|317=>238|318=>240|319=>241|320=>242|337=>243|338=>244|n=>n,fun|2=>2|3=>3|9=>9|4=>4|171=>320|0=>0|53=>321|37=>298|5=>5|173=>324|212=>327|51=>328|20=>20|213=>329|46=>330|232=>333|233=>334|n=>n,fun|17=>0|18=>1|19=>2|n=>n⟩
theorem lays246:Go.Proofs.LaysM.n246 Tryz.prog ren246:={
 mixed:=by kernel_rfl
 f129:=Tryz.func239.trans (congrArg some (by kernel_rfl))
 f246:=Tryz.func232.trans (congrArg some (by kernel_rfl))
 f283:=Tryz.func234.trans (congrArg some (by kernel_rfl))
 f284:=Tryz.func235.trans (congrArg some (by kernel_rfl))
 f285:=Tryz.func236.trans (congrArg some (by kernel_rfl))
 f286:=Tryz.func237.trans (congrArg some (by kernel_rfl))
 f317:=Tryz.func238.trans (congrArg some (by kernel_rfl))
 f318:=Tryz.func240.trans (congrArg some (by kernel_rfl))
 f319:=Tryz.func241.trans (congrArg some (by kernel_rfl))
 f320:=Tryz.func242.trans (congrArg some (by kernel_rfl))
 f337:=Tryz.func243.trans (congrArg some (by kernel_rfl))
 f338:=Tryz.func244.trans (congrArg some (by kernel_rfl))
 t0:=Tryz.underlying0
 a0:=Tryz.isAgg0
 z0:=Tryz.sizeOf0
 v0:=Tryz.zeroValue0
 t2:=Tryz.underlying2
 a2:=Tryz.isAgg2
 z2:=Tryz.sizeOf2
 v2:=Tryz.zeroValue2
 t3:=Tryz.underlying3
 a3:=Tryz.isAgg3
 z3:=Tryz.sizeOf3
 v3:=Tryz.zeroValue3
 t4:=Tryz.underlying4
 a4:=Tryz.isAgg4
 z4:=Tryz.sizeOf4
 v4:=Tryz.zeroValue4
 t5:=Tryz.underlying5
 a5:=Tryz.isAgg5
 z5:=Tryz.sizeOf5
 v5:=Tryz.zeroValue5
 t9:=Tryz.underlying9
 a9:=Tryz.isAgg9
 z9:=Tryz.sizeOf9
 v9:=Tryz.zeroValue9
 t20:=Tryz.underlying20
 a20:=Tryz.isAgg20
 z20:=Tryz.sizeOf20
 v20:=Tryz.zeroValue20
 t37:=Tryz.underlying298
 a37:=Tryz.isAgg298
 z37:=Tryz.sizeOf298
 v37:=Tryz.zeroValue298
 t46:=Tryz.underlying330
 a46:=Tryz.isAgg330
 z46:=Tryz.sizeOf330
 v46:=Tryz.zeroValue330
 t51:=Tryz.underlying328
 a51:=Tryz.isAgg328
 z51:=Tryz.sizeOf328
 v51:=Tryz.zeroValue328
 t53:=Tryz.underlying321
 a53:=Tryz.isAgg321
 z53:=Tryz.sizeOf321
 v53:=Tryz.zeroValue321
 t171:=Tryz.underlying320
 a171:=Tryz.isAgg320
 z171:=Tryz.sizeOf320
 v171:=Tryz.zeroValue320
 t173:=Tryz.underlying324
 a173:=Tryz.isAgg324
 z173:=Tryz.sizeOf324
 v173:=Tryz.zeroValue324
 t212:=Tryz.underlying327
 a212:=Tryz.isAgg327
 z212:=Tryz.sizeOf327
 v212:=Tryz.zeroValue327
 t213:=Tryz.underlying329
 a213:=Tryz.isAgg329
 z213:=Tryz.sizeOf329
 t232:=Tryz.underlying333
 a232:=Tryz.isAgg333
 z232:=Tryz.sizeOf333
 v232:=Tryz.zeroValue333
 t233:=Tryz.underlying334
 a233:=Tryz.isAgg334
 z233:=Tryz.sizeOf334
 v233:=Tryz.zeroValue334
 g17:=by kernel_rfl
 g18:=by kernel_rfl
 g19:=by kernel_rfl
 i0:=by kernel_rfl
 i2:=by kernel_rfl
 i3:=by kernel_rfl
 i4:=by kernel_rfl
 i5:=by kernel_rfl
 i9:=by kernel_rfl
 i20:=by kernel_rfl
 i37:=by kernel_rfl
 i46:=by kernel_rfl
 i51:=by kernel_rfl
 i53:=by kernel_rfl
 i171:=by kernel_rfl
 i173:=by kernel_rfl
 i212:=by kernel_rfl
 i232:=by kernel_rfl
 i233:=by kernel_rfl
 m17:=by kernel_rfl
 m18:=by kernel_rfl
 m19:=by kernel_rfl }
theorem fmt_num(f:FuncId)(h:num f=708):f=ren246.f 246:=by
 by_cases hf:f<268
 ·exact(by decide+kernel:∀f:Fin 268,num f.val=708→f.val=ren246.f 246) ⟨f,hf⟩ h
 ·have hn:num f=100000+f:=by
   unfold num
   rw[List.getElem?_eq_none (by rw[show gids.length=268 from by kernel_rfl];simp only[FuncId]at *;omega)];rfl
  rw[hn]at h
  exfalso;simp only[FuncId]at *;omega
theorem zgl:Callable Tryz.prog (ren246.f 246):=⟨Tryz.f232,Tryz.func232,by decide+kernel,by kernel_rfl⟩
abbrev powTab:Tab:=("internal/strconv.uint64pow10",.u64,Lib.pow10Tab)
theorem libs:ExtOK (Names.tabs num Tryz.prog [powTab]) Tryz.prog (extItoa 708):=
 zf2 lays246 (List.mem_cons_self ..) fmt_num zgl
end Go.Proofs.YtjdfihnmpmckjaaGreatDoor


namespace Go.Proofs.YtjdfihnmpmckjaaGreatDoor
open Go.EX
theorem okB9:FunOK Tryz.prog num 9 x627Q:=.one Tryz.func9 (by kernel_rfl)
theorem okB36:FunOK Tryz.prog num 36 x640Q:=.one Tryz.func36 (by kernel_rfl)
theorem okB51:FunOK Tryz.prog num 51 x206:=.one Tryz.func51 (by kernel_rfl)
theorem okB52:FunOK Tryz.prog num 52 x578:=.one Tryz.func52 (by kernel_rfl)
theorem okB118:FunOK Tryz.prog num 118 x749:=.one Tryz.func118 (by kernel_rfl)
theorem okB119:FunOK Tryz.prog num 119 x641V:=.one Tryz.func119 (by kernel_rfl)
theorem okB121:FunOK Tryz.prog num 121 x642:=.one Tryz.func121 (by kernel_rfl)
theorem okB122:FunOK Tryz.prog num 122 x639:=.one Tryz.func122 (by kernel_rfl)
theorem okB129:FunOK Tryz.prog num 129 x742:=.one Tryz.func129 (by kernel_rfl)
theorem okB131:FunOK Tryz.prog num 131 x219:=.one Tryz.func131 (by kernel_rfl)
theorem okB133:FunOK Tryz.prog num 133 x212:=.one Tryz.func133 (by kernel_rfl)
theorem okB134:FunOK Tryz.prog num 134 x580:=.one Tryz.func134 (by kernel_rfl)
theorem okB135:FunOK Tryz.prog num 135 x210:=.one Tryz.func135 (by kernel_rfl)
theorem okB136:FunOK Tryz.prog num 136 x588:=.one Tryz.func136 (by kernel_rfl)
theorem okB138:FunOK Tryz.prog num 138 x208:=.one Tryz.func138 (by kernel_rfl)
theorem okB139:FunOK Tryz.prog num 139 x214:=.one Tryz.func139 (by kernel_rfl)
theorem okB140:FunOK Tryz.prog num 140 x211:=.one Tryz.func140 (by kernel_rfl)
theorem okB188:FunOK Tryz.prog num 188 x759:=.one Tryz.func188 (by kernel_rfl)
theorem okB196:FunOK Tryz.prog num 196 x218:=.one Tryz.func196 (by kernel_rfl)
theorem okB197:FunOK Tryz.prog num 197 x216:=.one Tryz.func197 (by kernel_rfl)
theorem okB198:FunOK Tryz.prog num 198 x579:=.one Tryz.func198 (by kernel_rfl)
theorem okB199:FunOK Tryz.prog num 199 x213:=.one Tryz.func199 (by kernel_rfl)
theorem okB201:FunOK Tryz.prog num 201 x209:=.one Tryz.func201 (by kernel_rfl)
theorem okB202:FunOK Tryz.prog num 202 x581:=.one Tryz.func202 (by kernel_rfl)
theorem okB214:FunOK Tryz.prog num 214 x582:=.one Tryz.func214 (by kernel_rfl)
theorem okB215:FunOK Tryz.prog num 215 x589:=.one Tryz.func215 (by kernel_rfl)
theorem okB221:FunOK Tryz.prog num 221 x583:=.one Tryz.func221 (by kernel_rfl)
theorem okB222:FunOK Tryz.prog num 222 x584:=.one Tryz.func222 (by kernel_rfl)
theorem okB223:FunOK Tryz.prog num 223 x585:=.one Tryz.func223 (by kernel_rfl)
theorem okB224:FunOK Tryz.prog num 224 x586:=.one Tryz.func224 (by kernel_rfl)
theorem okB225:FunOK Tryz.prog num 225 x587:=.one Tryz.func225 (by kernel_rfl)
abbrev FnAtB(f:Nat):Prop:=∀xf,code11b (num f)=some xf→FunOK Tryz.prog num f xf
theorem hitB{n:Nat}{x:XFun}(e:code11b (num n)=some x)(k:FunOK Tryz.prog num n x)(r:∀f,f<n→FnAtB f):∀f,f<n+1→FnAtB f:=fun f h xf hx=>by
 rcases Nat.lt_or_eq_of_le (Nat.le_of_lt_succ h)with h|rfl
 ·exact r f h xf hx
 ·rw[e]at hx;cases hx;exact k
theorem nixB{n:Nat}(e:code11b (num n)=none)(r:∀f,f<n→FnAtB f):∀f,f<n+1→FnAtB f:=fun f h xf hx=>by
 rcases Nat.lt_or_eq_of_le (Nat.le_of_lt_succ h)with h|rfl
 ·exact r f h xf hx
 ·rw[e]at hx;cases hx
theorem uptoB20:∀f,f<20→FnAtB f:=
 nixB (by kernel_rfl)<|
 nixB (by kernel_rfl)<|
 nixB (by kernel_rfl)<|
 nixB (by kernel_rfl)<|
 nixB (by kernel_rfl)<|
 nixB (by kernel_rfl)<|
 nixB (by kernel_rfl)<|
 nixB (by kernel_rfl)<|
 nixB (by kernel_rfl)<|
 nixB (by kernel_rfl)<|
 hitB (by kernel_rfl) okB9<|
 nixB (by kernel_rfl)<|
 nixB (by kernel_rfl)<|
 nixB (by kernel_rfl)<|
 nixB (by kernel_rfl)<|
 nixB (by kernel_rfl)<|
 nixB (by kernel_rfl)<|
 nixB (by kernel_rfl)<|
 nixB (by kernel_rfl)<|
 nixB (by kernel_rfl) (fun f h=>absurd h (Nat.not_lt_zero f))
theorem uptoB40:∀f,f<40→FnAtB f:=
 nixB (by kernel_rfl)<|
 nixB (by kernel_rfl)<|
 nixB (by kernel_rfl)<|
 hitB (by kernel_rfl) okB36<|
 nixB (by kernel_rfl)<|
 nixB (by kernel_rfl)<|
 nixB (by kernel_rfl)<|
 nixB (by kernel_rfl)<|
 nixB (by kernel_rfl)<|
 nixB (by kernel_rfl)<|
 nixB (by kernel_rfl)<|
 nixB (by kernel_rfl)<|
 nixB (by kernel_rfl)<|
 nixB (by kernel_rfl)<|
 nixB (by kernel_rfl)<|
 nixB (by kernel_rfl)<|
 nixB (by kernel_rfl)<|
 nixB (by kernel_rfl)<|
 nixB (by kernel_rfl)<|
 nixB (by kernel_rfl) uptoB20
theorem uptoB60:∀f,f<60→FnAtB f:=
 nixB (by kernel_rfl)<|
 nixB (by kernel_rfl)<|
 nixB (by kernel_rfl)<|
 nixB (by kernel_rfl)<|
 nixB (by kernel_rfl)<|
 nixB (by kernel_rfl)<|
 nixB (by kernel_rfl)<|
 hitB (by kernel_rfl) okB52<|
 hitB (by kernel_rfl) okB51<|
 nixB (by kernel_rfl)<|
 nixB (by kernel_rfl)<|
 nixB (by kernel_rfl)<|
 nixB (by kernel_rfl)<|
 nixB (by kernel_rfl)<|
 nixB (by kernel_rfl)<|
 nixB (by kernel_rfl)<|
 nixB (by kernel_rfl)<|
 nixB (by kernel_rfl)<|
 nixB (by kernel_rfl)<|
 nixB (by kernel_rfl) uptoB40
theorem uptoB80:∀f,f<80→FnAtB f:=
 nixB (by kernel_rfl)<|
 nixB (by kernel_rfl)<|
 nixB (by kernel_rfl)<|
 nixB (by kernel_rfl)<|
 nixB (by kernel_rfl)<|
 nixB (by kernel_rfl)<|
 nixB (by kernel_rfl)<|
 nixB (by kernel_rfl)<|
 nixB (by kernel_rfl)<|
 nixB (by kernel_rfl)<|
 nixB (by kernel_rfl)<|
 nixB (by kernel_rfl)<|
 nixB (by kernel_rfl)<|
 nixB (by kernel_rfl)<|
 nixB (by kernel_rfl)<|
 nixB (by kernel_rfl)<|
 nixB (by kernel_rfl)<|
 nixB (by kernel_rfl)<|
 nixB (by kernel_rfl)<|
 nixB (by kernel_rfl) uptoB60
theorem uptoB100:∀f,f<100→FnAtB f:=
 nixB (by kernel_rfl)<|
 nixB (by kernel_rfl)<|
 nixB (by kernel_rfl)<|
 nixB (by kernel_rfl)<|
 nixB (by kernel_rfl)<|
 nixB (by kernel_rfl)<|
 nixB (by kernel_rfl)<|
 nixB (by kernel_rfl)<|
 nixB (by kernel_rfl)<|
 nixB (by kernel_rfl)<|
 nixB (by kernel_rfl)<|
 nixB (by kernel_rfl)<|
 nixB (by kernel_rfl)<|
 nixB (by kernel_rfl)<|
 nixB (by kernel_rfl)<|
 nixB (by kernel_rfl)<|
 nixB (by kernel_rfl)<|
 nixB (by kernel_rfl)<|
 nixB (by kernel_rfl)<|
 nixB (by kernel_rfl) uptoB80
theorem uptoB120:∀f,f<120→FnAtB f:=
 hitB (by kernel_rfl) okB119<|
 hitB (by kernel_rfl) okB118<|
 nixB (by kernel_rfl)<|
 nixB (by kernel_rfl)<|
 nixB (by kernel_rfl)<|
 nixB (by kernel_rfl)<|
 nixB (by kernel_rfl)<|
 nixB (by kernel_rfl)<|
 nixB (by kernel_rfl)<|
 nixB (by kernel_rfl)<|
 nixB (by kernel_rfl)<|
 nixB (by kernel_rfl)<|
 nixB (by kernel_rfl)<|
 nixB (by kernel_rfl)<|
 nixB (by kernel_rfl)<|
 nixB (by kernel_rfl)<|
 nixB (by kernel_rfl)<|
 nixB (by kernel_rfl)<|
 nixB (by kernel_rfl)<|
 nixB (by kernel_rfl) uptoB100
theorem uptoB140:∀f,f<140→FnAtB f:=
 hitB (by kernel_rfl) okB139<|
 hitB (by kernel_rfl) okB138<|
 nixB (by kernel_rfl)<|
 hitB (by kernel_rfl) okB136<|
 hitB (by kernel_rfl) okB135<|
 hitB (by kernel_rfl) okB134<|
 hitB (by kernel_rfl) okB133<|
 nixB (by kernel_rfl)<|
 hitB (by kernel_rfl) okB131<|
 nixB (by kernel_rfl)<|
 hitB (by kernel_rfl) okB129<|
 nixB (by kernel_rfl)<|
 nixB (by kernel_rfl)<|
 nixB (by kernel_rfl)<|
 nixB (by kernel_rfl)<|
 nixB (by kernel_rfl)<|
 nixB (by kernel_rfl)<|
 hitB (by kernel_rfl) okB122<|
 hitB (by kernel_rfl) okB121<|
 nixB (by kernel_rfl) uptoB120
theorem uptoB160:∀f,f<160→FnAtB f:=
 nixB (by kernel_rfl)<|
 nixB (by kernel_rfl)<|
 nixB (by kernel_rfl)<|
 nixB (by kernel_rfl)<|
 nixB (by kernel_rfl)<|
 nixB (by kernel_rfl)<|
 nixB (by kernel_rfl)<|
 nixB (by kernel_rfl)<|
 nixB (by kernel_rfl)<|
 nixB (by kernel_rfl)<|
 nixB (by kernel_rfl)<|
 nixB (by kernel_rfl)<|
 nixB (by kernel_rfl)<|
 nixB (by kernel_rfl)<|
 nixB (by kernel_rfl)<|
 nixB (by kernel_rfl)<|
 nixB (by kernel_rfl)<|
 nixB (by kernel_rfl)<|
 nixB (by kernel_rfl)<|
 hitB (by kernel_rfl) okB140 uptoB140
theorem uptoB180:∀f,f<180→FnAtB f:=
 nixB (by kernel_rfl)<|
 nixB (by kernel_rfl)<|
 nixB (by kernel_rfl)<|
 nixB (by kernel_rfl)<|
 nixB (by kernel_rfl)<|
 nixB (by kernel_rfl)<|
 nixB (by kernel_rfl)<|
 nixB (by kernel_rfl)<|
 nixB (by kernel_rfl)<|
 nixB (by kernel_rfl)<|
 nixB (by kernel_rfl)<|
 nixB (by kernel_rfl)<|
 nixB (by kernel_rfl)<|
 nixB (by kernel_rfl)<|
 nixB (by kernel_rfl)<|
 nixB (by kernel_rfl)<|
 nixB (by kernel_rfl)<|
 nixB (by kernel_rfl)<|
 nixB (by kernel_rfl)<|
 nixB (by kernel_rfl) uptoB160
theorem uptoB200:∀f,f<200→FnAtB f:=
 hitB (by kernel_rfl) okB199<|
 hitB (by kernel_rfl) okB198<|
 hitB (by kernel_rfl) okB197<|
 hitB (by kernel_rfl) okB196<|
 nixB (by kernel_rfl)<|
 nixB (by kernel_rfl)<|
 nixB (by kernel_rfl)<|
 nixB (by kernel_rfl)<|
 nixB (by kernel_rfl)<|
 nixB (by kernel_rfl)<|
 nixB (by kernel_rfl)<|
 hitB (by kernel_rfl) okB188<|
 nixB (by kernel_rfl)<|
 nixB (by kernel_rfl)<|
 nixB (by kernel_rfl)<|
 nixB (by kernel_rfl)<|
 nixB (by kernel_rfl)<|
 nixB (by kernel_rfl)<|
 nixB (by kernel_rfl)<|
 nixB (by kernel_rfl) uptoB180
theorem uptoB220:∀f,f<220→FnAtB f:=
 nixB (by kernel_rfl)<|
 nixB (by kernel_rfl)<|
 nixB (by kernel_rfl)<|
 nixB (by kernel_rfl)<|
 hitB (by kernel_rfl) okB215<|
 hitB (by kernel_rfl) okB214<|
 nixB (by kernel_rfl)<|
 nixB (by kernel_rfl)<|
 nixB (by kernel_rfl)<|
 nixB (by kernel_rfl)<|
 nixB (by kernel_rfl)<|
 nixB (by kernel_rfl)<|
 nixB (by kernel_rfl)<|
 nixB (by kernel_rfl)<|
 nixB (by kernel_rfl)<|
 nixB (by kernel_rfl)<|
 nixB (by kernel_rfl)<|
 hitB (by kernel_rfl) okB202<|
 hitB (by kernel_rfl) okB201<|
 nixB (by kernel_rfl) uptoB200
theorem uptoB240:∀f,f<240→FnAtB f:=
 nixB (by kernel_rfl)<|
 nixB (by kernel_rfl)<|
 nixB (by kernel_rfl)<|
 nixB (by kernel_rfl)<|
 nixB (by kernel_rfl)<|
 nixB (by kernel_rfl)<|
 nixB (by kernel_rfl)<|
 nixB (by kernel_rfl)<|
 nixB (by kernel_rfl)<|
 nixB (by kernel_rfl)<|
 nixB (by kernel_rfl)<|
 nixB (by kernel_rfl)<|
 nixB (by kernel_rfl)<|
 nixB (by kernel_rfl)<|
 hitB (by kernel_rfl) okB225<|
 hitB (by kernel_rfl) okB224<|
 hitB (by kernel_rfl) okB223<|
 hitB (by kernel_rfl) okB222<|
 hitB (by kernel_rfl) okB221<|
 nixB (by kernel_rfl) uptoB220
theorem uptoB260:∀f,f<260→FnAtB f:=
 nixB (by kernel_rfl)<|
 nixB (by kernel_rfl)<|
 nixB (by kernel_rfl)<|
 nixB (by kernel_rfl)<|
 nixB (by kernel_rfl)<|
 nixB (by kernel_rfl)<|
 nixB (by kernel_rfl)<|
 nixB (by kernel_rfl)<|
 nixB (by kernel_rfl)<|
 nixB (by kernel_rfl)<|
 nixB (by kernel_rfl)<|
 nixB (by kernel_rfl)<|
 nixB (by kernel_rfl)<|
 nixB (by kernel_rfl)<|
 nixB (by kernel_rfl)<|
 nixB (by kernel_rfl)<|
 nixB (by kernel_rfl)<|
 nixB (by kernel_rfl)<|
 nixB (by kernel_rfl)<|
 nixB (by kernel_rfl) uptoB240
theorem uptoB268:∀f,f<268→FnAtB f:=
 nixB (by kernel_rfl)<|
 nixB (by kernel_rfl)<|
 nixB (by kernel_rfl)<|
 nixB (by kernel_rfl)<|
 nixB (by kernel_rfl)<|
 nixB (by kernel_rfl)<|
 nixB (by kernel_rfl)<|
 nixB (by kernel_rfl) uptoB260
theorem fnsB(f:FuncId)(xf:XFun)(h:code11b (num f)=some xf):FunOK Tryz.prog num f xf:=by
 by_cases hf:f<268
 ·exact uptoB268 f hf xf h
 ·have hn:num f=100000+f:=by
   unfold num
   rw[List.getElem?_eq_none (by rw[show gids.length=268 from by kernel_rfl];simp only[FuncId]at *;omega)];rfl
  rw[hn]at h
  unfold code11b at h
  split at h<;>first|(exfalso;simp only[FuncId]at *;omega)|cases h
end Go.Proofs.YtjdfihnmpmckjaaGreatDoor


namespace Go.Proofs.YtjdfihnmpmckjaaGreatDoor
open Go.EX
theorem okR50:FunOK Tryz.prog num 50 x643R:=.one Tryz.func50 (by kernel_rfl)
theorem okR127:FunOK Tryz.prog num 127 x743:=.one Tryz.func127 (by kernel_rfl)
theorem okR128:FunOK Tryz.prog num 128 x740:=.one Tryz.func128 (by kernel_rfl)
theorem okR129:FunOK Tryz.prog num 129 x742:=.one Tryz.func129 (by kernel_rfl)
theorem okR130:FunOK Tryz.prog num 130 x741:=.one Tryz.func130 (by kernel_rfl)
abbrev FnAtR(f:Nat):Prop:=∀xf,code11r (num f)=some xf→FunOK Tryz.prog num f xf
theorem hitR{n:Nat}{x:XFun}(e:code11r (num n)=some x)(k:FunOK Tryz.prog num n x)(r:∀f,f<n→FnAtR f):∀f,f<n+1→FnAtR f:=fun f h xf hx=>by
 rcases Nat.lt_or_eq_of_le (Nat.le_of_lt_succ h)with h|rfl
 ·exact r f h xf hx
 ·rw[e]at hx;cases hx;exact k
theorem nixR{n:Nat}(e:code11r (num n)=none)(r:∀f,f<n→FnAtR f):∀f,f<n+1→FnAtR f:=fun f h xf hx=>by
 rcases Nat.lt_or_eq_of_le (Nat.le_of_lt_succ h)with h|rfl
 ·exact r f h xf hx
 ·rw[e]at hx;cases hx
theorem uptoR20:∀f,f<20→FnAtR f:=
 nixR (by kernel_rfl)<|
 nixR (by kernel_rfl)<|
 nixR (by kernel_rfl)<|
 nixR (by kernel_rfl)<|
 nixR (by kernel_rfl)<|
 nixR (by kernel_rfl)<|
 nixR (by kernel_rfl)<|
 nixR (by kernel_rfl)<|
 nixR (by kernel_rfl)<|
 nixR (by kernel_rfl)<|
 nixR (by kernel_rfl)<|
 nixR (by kernel_rfl)<|
 nixR (by kernel_rfl)<|
 nixR (by kernel_rfl)<|
 nixR (by kernel_rfl)<|
 nixR (by kernel_rfl)<|
 nixR (by kernel_rfl)<|
 nixR (by kernel_rfl)<|
 nixR (by kernel_rfl)<|
 nixR (by kernel_rfl) (fun f h=>absurd h (Nat.not_lt_zero f))
theorem uptoR40:∀f,f<40→FnAtR f:=
 nixR (by kernel_rfl)<|
 nixR (by kernel_rfl)<|
 nixR (by kernel_rfl)<|
 nixR (by kernel_rfl)<|
 nixR (by kernel_rfl)<|
 nixR (by kernel_rfl)<|
 nixR (by kernel_rfl)<|
 nixR (by kernel_rfl)<|
 nixR (by kernel_rfl)<|
 nixR (by kernel_rfl)<|
 nixR (by kernel_rfl)<|
 nixR (by kernel_rfl)<|
 nixR (by kernel_rfl)<|
 nixR (by kernel_rfl)<|
 nixR (by kernel_rfl)<|
 nixR (by kernel_rfl)<|
 nixR (by kernel_rfl)<|
 nixR (by kernel_rfl)<|
 nixR (by kernel_rfl)<|
 nixR (by kernel_rfl) uptoR20
theorem uptoR60:∀f,f<60→FnAtR f:=
 nixR (by kernel_rfl)<|
 nixR (by kernel_rfl)<|
 nixR (by kernel_rfl)<|
 nixR (by kernel_rfl)<|
 nixR (by kernel_rfl)<|
 nixR (by kernel_rfl)<|
 nixR (by kernel_rfl)<|
 nixR (by kernel_rfl)<|
 nixR (by kernel_rfl)<|
 hitR (by kernel_rfl) okR50<|
 nixR (by kernel_rfl)<|
 nixR (by kernel_rfl)<|
 nixR (by kernel_rfl)<|
 nixR (by kernel_rfl)<|
 nixR (by kernel_rfl)<|
 nixR (by kernel_rfl)<|
 nixR (by kernel_rfl)<|
 nixR (by kernel_rfl)<|
 nixR (by kernel_rfl)<|
 nixR (by kernel_rfl) uptoR40
theorem uptoR80:∀f,f<80→FnAtR f:=
 nixR (by kernel_rfl)<|
 nixR (by kernel_rfl)<|
 nixR (by kernel_rfl)<|
 nixR (by kernel_rfl)<|
 nixR (by kernel_rfl)<|
 nixR (by kernel_rfl)<|
 nixR (by kernel_rfl)<|
 nixR (by kernel_rfl)<|
 nixR (by kernel_rfl)<|
 nixR (by kernel_rfl)<|
 nixR (by kernel_rfl)<|
 nixR (by kernel_rfl)<|
 nixR (by kernel_rfl)<|
 nixR (by kernel_rfl)<|
 nixR (by kernel_rfl)<|
 nixR (by kernel_rfl)<|
 nixR (by kernel_rfl)<|
 nixR (by kernel_rfl)<|
 nixR (by kernel_rfl)<|
 nixR (by kernel_rfl) uptoR60
theorem uptoR100:∀f,f<100→FnAtR f:=
 nixR (by kernel_rfl)<|
 nixR (by kernel_rfl)<|
 nixR (by kernel_rfl)<|
 nixR (by kernel_rfl)<|
 nixR (by kernel_rfl)<|
 nixR (by kernel_rfl)<|
 nixR (by kernel_rfl)<|
 nixR (by kernel_rfl)<|
 nixR (by kernel_rfl)<|
 nixR (by kernel_rfl)<|
 nixR (by kernel_rfl)<|
 nixR (by kernel_rfl)<|
 nixR (by kernel_rfl)<|
 nixR (by kernel_rfl)<|
 nixR (by kernel_rfl)<|
 nixR (by kernel_rfl)<|
 nixR (by kernel_rfl)<|
 nixR (by kernel_rfl)<|
 nixR (by kernel_rfl)<|
 nixR (by kernel_rfl) uptoR80
theorem uptoR120:∀f,f<120→FnAtR f:=
 nixR (by kernel_rfl)<|
 nixR (by kernel_rfl)<|
 nixR (by kernel_rfl)<|
 nixR (by kernel_rfl)<|
 nixR (by kernel_rfl)<|
 nixR (by kernel_rfl)<|
 nixR (by kernel_rfl)<|
 nixR (by kernel_rfl)<|
 nixR (by kernel_rfl)<|
 nixR (by kernel_rfl)<|
 nixR (by kernel_rfl)<|
 nixR (by kernel_rfl)<|
 nixR (by kernel_rfl)<|
 nixR (by kernel_rfl)<|
 nixR (by kernel_rfl)<|
 nixR (by kernel_rfl)<|
 nixR (by kernel_rfl)<|
 nixR (by kernel_rfl)<|
 nixR (by kernel_rfl)<|
 nixR (by kernel_rfl) uptoR100
theorem uptoR140:∀f,f<140→FnAtR f:=
 nixR (by kernel_rfl)<|
 nixR (by kernel_rfl)<|
 nixR (by kernel_rfl)<|
 nixR (by kernel_rfl)<|
 nixR (by kernel_rfl)<|
 nixR (by kernel_rfl)<|
 nixR (by kernel_rfl)<|
 nixR (by kernel_rfl)<|
 nixR (by kernel_rfl)<|
 hitR (by kernel_rfl) okR130<|
 hitR (by kernel_rfl) okR129<|
 hitR (by kernel_rfl) okR128<|
 hitR (by kernel_rfl) okR127<|
 nixR (by kernel_rfl)<|
 nixR (by kernel_rfl)<|
 nixR (by kernel_rfl)<|
 nixR (by kernel_rfl)<|
 nixR (by kernel_rfl)<|
 nixR (by kernel_rfl)<|
 nixR (by kernel_rfl) uptoR120
theorem uptoR160:∀f,f<160→FnAtR f:=
 nixR (by kernel_rfl)<|
 nixR (by kernel_rfl)<|
 nixR (by kernel_rfl)<|
 nixR (by kernel_rfl)<|
 nixR (by kernel_rfl)<|
 nixR (by kernel_rfl)<|
 nixR (by kernel_rfl)<|
 nixR (by kernel_rfl)<|
 nixR (by kernel_rfl)<|
 nixR (by kernel_rfl)<|
 nixR (by kernel_rfl)<|
 nixR (by kernel_rfl)<|
 nixR (by kernel_rfl)<|
 nixR (by kernel_rfl)<|
 nixR (by kernel_rfl)<|
 nixR (by kernel_rfl)<|
 nixR (by kernel_rfl)<|
 nixR (by kernel_rfl)<|
 nixR (by kernel_rfl)<|
 nixR (by kernel_rfl) uptoR140
theorem uptoR180:∀f,f<180→FnAtR f:=
 nixR (by kernel_rfl)<|
 nixR (by kernel_rfl)<|
 nixR (by kernel_rfl)<|
 nixR (by kernel_rfl)<|
 nixR (by kernel_rfl)<|
 nixR (by kernel_rfl)<|
 nixR (by kernel_rfl)<|
 nixR (by kernel_rfl)<|
 nixR (by kernel_rfl)<|
 nixR (by kernel_rfl)<|
 nixR (by kernel_rfl)<|
 nixR (by kernel_rfl)<|
 nixR (by kernel_rfl)<|
 nixR (by kernel_rfl)<|
 nixR (by kernel_rfl)<|
 nixR (by kernel_rfl)<|
 nixR (by kernel_rfl)<|
 nixR (by kernel_rfl)<|
 nixR (by kernel_rfl)<|
 nixR (by kernel_rfl) uptoR160
theorem uptoR200:∀f,f<200→FnAtR f:=
 nixR (by kernel_rfl)<|
 nixR (by kernel_rfl)<|
 nixR (by kernel_rfl)<|
 nixR (by kernel_rfl)<|
 nixR (by kernel_rfl)<|
 nixR (by kernel_rfl)<|
 nixR (by kernel_rfl)<|
 nixR (by kernel_rfl)<|
 nixR (by kernel_rfl)<|
 nixR (by kernel_rfl)<|
 nixR (by kernel_rfl)<|
 nixR (by kernel_rfl)<|
 nixR (by kernel_rfl)<|
 nixR (by kernel_rfl)<|
 nixR (by kernel_rfl)<|
 nixR (by kernel_rfl)<|
 nixR (by kernel_rfl)<|
 nixR (by kernel_rfl)<|
 nixR (by kernel_rfl)<|
 nixR (by kernel_rfl) uptoR180
theorem uptoR220:∀f,f<220→FnAtR f:=
 nixR (by kernel_rfl)<|
 nixR (by kernel_rfl)<|
 nixR (by kernel_rfl)<|
 nixR (by kernel_rfl)<|
 nixR (by kernel_rfl)<|
 nixR (by kernel_rfl)<|
 nixR (by kernel_rfl)<|
 nixR (by kernel_rfl)<|
 nixR (by kernel_rfl)<|
 nixR (by kernel_rfl)<|
 nixR (by kernel_rfl)<|
 nixR (by kernel_rfl)<|
 nixR (by kernel_rfl)<|
 nixR (by kernel_rfl)<|
 nixR (by kernel_rfl)<|
 nixR (by kernel_rfl)<|
 nixR (by kernel_rfl)<|
 nixR (by kernel_rfl)<|
 nixR (by kernel_rfl)<|
 nixR (by kernel_rfl) uptoR200
theorem uptoR240:∀f,f<240→FnAtR f:=
 nixR (by kernel_rfl)<|
 nixR (by kernel_rfl)<|
 nixR (by kernel_rfl)<|
 nixR (by kernel_rfl)<|
 nixR (by kernel_rfl)<|
 nixR (by kernel_rfl)<|
 nixR (by kernel_rfl)<|
 nixR (by kernel_rfl)<|
 nixR (by kernel_rfl)<|
 nixR (by kernel_rfl)<|
 nixR (by kernel_rfl)<|
 nixR (by kernel_rfl)<|
 nixR (by kernel_rfl)<|
 nixR (by kernel_rfl)<|
 nixR (by kernel_rfl)<|
 nixR (by kernel_rfl)<|
 nixR (by kernel_rfl)<|
 nixR (by kernel_rfl)<|
 nixR (by kernel_rfl)<|
 nixR (by kernel_rfl) uptoR220
theorem uptoR260:∀f,f<260→FnAtR f:=
 nixR (by kernel_rfl)<|
 nixR (by kernel_rfl)<|
 nixR (by kernel_rfl)<|
 nixR (by kernel_rfl)<|
 nixR (by kernel_rfl)<|
 nixR (by kernel_rfl)<|
 nixR (by kernel_rfl)<|
 nixR (by kernel_rfl)<|
 nixR (by kernel_rfl)<|
 nixR (by kernel_rfl)<|
 nixR (by kernel_rfl)<|
 nixR (by kernel_rfl)<|
 nixR (by kernel_rfl)<|
 nixR (by kernel_rfl)<|
 nixR (by kernel_rfl)<|
 nixR (by kernel_rfl)<|
 nixR (by kernel_rfl)<|
 nixR (by kernel_rfl)<|
 nixR (by kernel_rfl)<|
 nixR (by kernel_rfl) uptoR240
theorem uptoR268:∀f,f<268→FnAtR f:=
 nixR (by kernel_rfl)<|
 nixR (by kernel_rfl)<|
 nixR (by kernel_rfl)<|
 nixR (by kernel_rfl)<|
 nixR (by kernel_rfl)<|
 nixR (by kernel_rfl)<|
 nixR (by kernel_rfl)<|
 nixR (by kernel_rfl) uptoR260
theorem fnsR(f:FuncId)(xf:XFun)(h:code11r (num f)=some xf):FunOK Tryz.prog num f xf:=by
 by_cases hf:f<268
 ·exact uptoR268 f hf xf h
 ·have hn:num f=100000+f:=by
   unfold num
   rw[List.getElem?_eq_none (by rw[show gids.length=268 from by kernel_rfl];simp only[FuncId]at *;omega)];rfl
  rw[hn]at h
  unfold code11r at h
  split at h<;>first|(exfalso;simp only[FuncId]at *;omega)|cases h
end Go.Proofs.YtjdfihnmpmckjaaGreatDoor


namespace Go.Proofs.YtjdfihnmpmckjaaGreatDoor
open Go.EX
theorem okC50:FunOK Tryz.prog num 50 (x643P 1000000000002):=.one Tryz.func50 (by kernel_rfl)
theorem okC127:FunOK Tryz.prog num 127 x743:=.one Tryz.func127 (by kernel_rfl)
theorem okC128:FunOK Tryz.prog num 128 x740:=.one Tryz.func128 (by kernel_rfl)
theorem okC129:FunOK Tryz.prog num 129 x742:=.one Tryz.func129 (by kernel_rfl)
theorem okC130:FunOK Tryz.prog num 130 x741:=.one Tryz.func130 (by kernel_rfl)
abbrev FnAtC(f:Nat):Prop:=∀xf,code11c (num f)=some xf→FunOK Tryz.prog num f xf
theorem hitC{n:Nat}{x:XFun}(e:code11c (num n)=some x)(k:FunOK Tryz.prog num n x)(r:∀f,f<n→FnAtC f):∀f,f<n+1→FnAtC f:=fun f h xf hx=>by
 rcases Nat.lt_or_eq_of_le (Nat.le_of_lt_succ h)with h|rfl
 ·exact r f h xf hx
 ·rw[e]at hx;cases hx;exact k
theorem nixC{n:Nat}(e:code11c (num n)=none)(r:∀f,f<n→FnAtC f):∀f,f<n+1→FnAtC f:=fun f h xf hx=>by
 rcases Nat.lt_or_eq_of_le (Nat.le_of_lt_succ h)with h|rfl
 ·exact r f h xf hx
 ·rw[e]at hx;cases hx
theorem uptoC20:∀f,f<20→FnAtC f:=
 nixC (by kernel_rfl)<|
 nixC (by kernel_rfl)<|
 nixC (by kernel_rfl)<|
 nixC (by kernel_rfl)<|
 nixC (by kernel_rfl)<|
 nixC (by kernel_rfl)<|
 nixC (by kernel_rfl)<|
 nixC (by kernel_rfl)<|
 nixC (by kernel_rfl)<|
 nixC (by kernel_rfl)<|
 nixC (by kernel_rfl)<|
 nixC (by kernel_rfl)<|
 nixC (by kernel_rfl)<|
 nixC (by kernel_rfl)<|
 nixC (by kernel_rfl)<|
 nixC (by kernel_rfl)<|
 nixC (by kernel_rfl)<|
 nixC (by kernel_rfl)<|
 nixC (by kernel_rfl)<|
 nixC (by kernel_rfl) (fun f h=>absurd h (Nat.not_lt_zero f))
theorem uptoC40:∀f,f<40→FnAtC f:=
 nixC (by kernel_rfl)<|
 nixC (by kernel_rfl)<|
 nixC (by kernel_rfl)<|
 nixC (by kernel_rfl)<|
 nixC (by kernel_rfl)<|
 nixC (by kernel_rfl)<|
 nixC (by kernel_rfl)<|
 nixC (by kernel_rfl)<|
 nixC (by kernel_rfl)<|
 nixC (by kernel_rfl)<|
 nixC (by kernel_rfl)<|
 nixC (by kernel_rfl)<|
 nixC (by kernel_rfl)<|
 nixC (by kernel_rfl)<|
 nixC (by kernel_rfl)<|
 nixC (by kernel_rfl)<|
 nixC (by kernel_rfl)<|
 nixC (by kernel_rfl)<|
 nixC (by kernel_rfl)<|
 nixC (by kernel_rfl) uptoC20
theorem uptoC60:∀f,f<60→FnAtC f:=
 nixC (by kernel_rfl)<|
 nixC (by kernel_rfl)<|
 nixC (by kernel_rfl)<|
 nixC (by kernel_rfl)<|
 nixC (by kernel_rfl)<|
 nixC (by kernel_rfl)<|
 nixC (by kernel_rfl)<|
 nixC (by kernel_rfl)<|
 nixC (by kernel_rfl)<|
 hitC (by kernel_rfl) okC50<|
 nixC (by kernel_rfl)<|
 nixC (by kernel_rfl)<|
 nixC (by kernel_rfl)<|
 nixC (by kernel_rfl)<|
 nixC (by kernel_rfl)<|
 nixC (by kernel_rfl)<|
 nixC (by kernel_rfl)<|
 nixC (by kernel_rfl)<|
 nixC (by kernel_rfl)<|
 nixC (by kernel_rfl) uptoC40
theorem uptoC80:∀f,f<80→FnAtC f:=
 nixC (by kernel_rfl)<|
 nixC (by kernel_rfl)<|
 nixC (by kernel_rfl)<|
 nixC (by kernel_rfl)<|
 nixC (by kernel_rfl)<|
 nixC (by kernel_rfl)<|
 nixC (by kernel_rfl)<|
 nixC (by kernel_rfl)<|
 nixC (by kernel_rfl)<|
 nixC (by kernel_rfl)<|
 nixC (by kernel_rfl)<|
 nixC (by kernel_rfl)<|
 nixC (by kernel_rfl)<|
 nixC (by kernel_rfl)<|
 nixC (by kernel_rfl)<|
 nixC (by kernel_rfl)<|
 nixC (by kernel_rfl)<|
 nixC (by kernel_rfl)<|
 nixC (by kernel_rfl)<|
 nixC (by kernel_rfl) uptoC60
theorem uptoC100:∀f,f<100→FnAtC f:=
 nixC (by kernel_rfl)<|
 nixC (by kernel_rfl)<|
 nixC (by kernel_rfl)<|
 nixC (by kernel_rfl)<|
 nixC (by kernel_rfl)<|
 nixC (by kernel_rfl)<|
 nixC (by kernel_rfl)<|
 nixC (by kernel_rfl)<|
 nixC (by kernel_rfl)<|
 nixC (by kernel_rfl)<|
 nixC (by kernel_rfl)<|
 nixC (by kernel_rfl)<|
 nixC (by kernel_rfl)<|
 nixC (by kernel_rfl)<|
 nixC (by kernel_rfl)<|
 nixC (by kernel_rfl)<|
 nixC (by kernel_rfl)<|
 nixC (by kernel_rfl)<|
 nixC (by kernel_rfl)<|
 nixC (by kernel_rfl) uptoC80
theorem uptoC120:∀f,f<120→FnAtC f:=
 nixC (by kernel_rfl)<|
 nixC (by kernel_rfl)<|
 nixC (by kernel_rfl)<|
 nixC (by kernel_rfl)<|
 nixC (by kernel_rfl)<|
 nixC (by kernel_rfl)<|
 nixC (by kernel_rfl)<|
 nixC (by kernel_rfl)<|
 nixC (by kernel_rfl)<|
 nixC (by kernel_rfl)<|
 nixC (by kernel_rfl)<|
 nixC (by kernel_rfl)<|
 nixC (by kernel_rfl)<|
 nixC (by kernel_rfl)<|
 nixC (by kernel_rfl)<|
 nixC (by kernel_rfl)<|
 nixC (by kernel_rfl)<|
 nixC (by kernel_rfl)<|
 nixC (by kernel_rfl)<|
 nixC (by kernel_rfl) uptoC100
theorem uptoC140:∀f,f<140→FnAtC f:=
 nixC (by kernel_rfl)<|
 nixC (by kernel_rfl)<|
 nixC (by kernel_rfl)<|
 nixC (by kernel_rfl)<|
 nixC (by kernel_rfl)<|
 nixC (by kernel_rfl)<|
 nixC (by kernel_rfl)<|
 nixC (by kernel_rfl)<|
 nixC (by kernel_rfl)<|
 hitC (by kernel_rfl) okC130<|
 hitC (by kernel_rfl) okC129<|
 hitC (by kernel_rfl) okC128<|
 hitC (by kernel_rfl) okC127<|
 nixC (by kernel_rfl)<|
 nixC (by kernel_rfl)<|
 nixC (by kernel_rfl)<|
 nixC (by kernel_rfl)<|
 nixC (by kernel_rfl)<|
 nixC (by kernel_rfl)<|
 nixC (by kernel_rfl) uptoC120
theorem uptoC160:∀f,f<160→FnAtC f:=
 nixC (by kernel_rfl)<|
 nixC (by kernel_rfl)<|
 nixC (by kernel_rfl)<|
 nixC (by kernel_rfl)<|
 nixC (by kernel_rfl)<|
 nixC (by kernel_rfl)<|
 nixC (by kernel_rfl)<|
 nixC (by kernel_rfl)<|
 nixC (by kernel_rfl)<|
 nixC (by kernel_rfl)<|
 nixC (by kernel_rfl)<|
 nixC (by kernel_rfl)<|
 nixC (by kernel_rfl)<|
 nixC (by kernel_rfl)<|
 nixC (by kernel_rfl)<|
 nixC (by kernel_rfl)<|
 nixC (by kernel_rfl)<|
 nixC (by kernel_rfl)<|
 nixC (by kernel_rfl)<|
 nixC (by kernel_rfl) uptoC140
theorem uptoC180:∀f,f<180→FnAtC f:=
 nixC (by kernel_rfl)<|
 nixC (by kernel_rfl)<|
 nixC (by kernel_rfl)<|
 nixC (by kernel_rfl)<|
 nixC (by kernel_rfl)<|
 nixC (by kernel_rfl)<|
 nixC (by kernel_rfl)<|
 nixC (by kernel_rfl)<|
 nixC (by kernel_rfl)<|
 nixC (by kernel_rfl)<|
 nixC (by kernel_rfl)<|
 nixC (by kernel_rfl)<|
 nixC (by kernel_rfl)<|
 nixC (by kernel_rfl)<|
 nixC (by kernel_rfl)<|
 nixC (by kernel_rfl)<|
 nixC (by kernel_rfl)<|
 nixC (by kernel_rfl)<|
 nixC (by kernel_rfl)<|
 nixC (by kernel_rfl) uptoC160
theorem uptoC200:∀f,f<200→FnAtC f:=
 nixC (by kernel_rfl)<|
 nixC (by kernel_rfl)<|
 nixC (by kernel_rfl)<|
 nixC (by kernel_rfl)<|
 nixC (by kernel_rfl)<|
 nixC (by kernel_rfl)<|
 nixC (by kernel_rfl)<|
 nixC (by kernel_rfl)<|
 nixC (by kernel_rfl)<|
 nixC (by kernel_rfl)<|
 nixC (by kernel_rfl)<|
 nixC (by kernel_rfl)<|
 nixC (by kernel_rfl)<|
 nixC (by kernel_rfl)<|
 nixC (by kernel_rfl)<|
 nixC (by kernel_rfl)<|
 nixC (by kernel_rfl)<|
 nixC (by kernel_rfl)<|
 nixC (by kernel_rfl)<|
 nixC (by kernel_rfl) uptoC180
theorem uptoC220:∀f,f<220→FnAtC f:=
 nixC (by kernel_rfl)<|
 nixC (by kernel_rfl)<|
 nixC (by kernel_rfl)<|
 nixC (by kernel_rfl)<|
 nixC (by kernel_rfl)<|
 nixC (by kernel_rfl)<|
 nixC (by kernel_rfl)<|
 nixC (by kernel_rfl)<|
 nixC (by kernel_rfl)<|
 nixC (by kernel_rfl)<|
 nixC (by kernel_rfl)<|
 nixC (by kernel_rfl)<|
 nixC (by kernel_rfl)<|
 nixC (by kernel_rfl)<|
 nixC (by kernel_rfl)<|
 nixC (by kernel_rfl)<|
 nixC (by kernel_rfl)<|
 nixC (by kernel_rfl)<|
 nixC (by kernel_rfl)<|
 nixC (by kernel_rfl) uptoC200
theorem uptoC240:∀f,f<240→FnAtC f:=
 nixC (by kernel_rfl)<|
 nixC (by kernel_rfl)<|
 nixC (by kernel_rfl)<|
 nixC (by kernel_rfl)<|
 nixC (by kernel_rfl)<|
 nixC (by kernel_rfl)<|
 nixC (by kernel_rfl)<|
 nixC (by kernel_rfl)<|
 nixC (by kernel_rfl)<|
 nixC (by kernel_rfl)<|
 nixC (by kernel_rfl)<|
 nixC (by kernel_rfl)<|
 nixC (by kernel_rfl)<|
 nixC (by kernel_rfl)<|
 nixC (by kernel_rfl)<|
 nixC (by kernel_rfl)<|
 nixC (by kernel_rfl)<|
 nixC (by kernel_rfl)<|
 nixC (by kernel_rfl)<|
 nixC (by kernel_rfl) uptoC220
theorem uptoC260:∀f,f<260→FnAtC f:=
 nixC (by kernel_rfl)<|
 nixC (by kernel_rfl)<|
 nixC (by kernel_rfl)<|
 nixC (by kernel_rfl)<|
 nixC (by kernel_rfl)<|
 nixC (by kernel_rfl)<|
 nixC (by kernel_rfl)<|
 nixC (by kernel_rfl)<|
 nixC (by kernel_rfl)<|
 nixC (by kernel_rfl)<|
 nixC (by kernel_rfl)<|
 nixC (by kernel_rfl)<|
 nixC (by kernel_rfl)<|
 nixC (by kernel_rfl)<|
 nixC (by kernel_rfl)<|
 nixC (by kernel_rfl)<|
 nixC (by kernel_rfl)<|
 nixC (by kernel_rfl)<|
 nixC (by kernel_rfl)<|
 nixC (by kernel_rfl) uptoC240
theorem uptoC268:∀f,f<268→FnAtC f:=
 nixC (by kernel_rfl)<|
 nixC (by kernel_rfl)<|
 nixC (by kernel_rfl)<|
 nixC (by kernel_rfl)<|
 nixC (by kernel_rfl)<|
 nixC (by kernel_rfl)<|
 nixC (by kernel_rfl)<|
 nixC (by kernel_rfl) uptoC260
theorem fnsC(f:FuncId)(xf:XFun)(h:code11c (num f)=some xf):FunOK Tryz.prog num f xf:=by
 by_cases hf:f<268
 ·exact uptoC268 f hf xf h
 ·have hn:num f=100000+f:=by
   unfold num
   rw[List.getElem?_eq_none (by rw[show gids.length=268 from by kernel_rfl];simp only[FuncId]at *;omega)];rfl
  rw[hn]at h
  unfold code11c at h
  split at h<;>first|(exfalso;simp only[FuncId]at *;omega)|cases h
end Go.Proofs.YtjdfihnmpmckjaaGreatDoor


namespace Go.Proofs.YtjdfihnmpmckjaaGreatDoor
open Go.EX
theorem okH10:FunOK Tryz.prog num 10 x488:=.one Tryz.func10 (by kernel_rfl)
theorem okH35:FunOK Tryz.prog num 35 x373:=.one Tryz.func35 (by kernel_rfl)
theorem okH117:FunOK Tryz.prog num 117 x372:=.one Tryz.func117 (by kernel_rfl)
abbrev FnAtH(f:Nat):Prop:=∀xf,code11h (num f)=some xf→FunOK Tryz.prog num f xf
theorem hitH{n:Nat}{x:XFun}(e:code11h (num n)=some x)(k:FunOK Tryz.prog num n x)(r:∀f,f<n→FnAtH f):∀f,f<n+1→FnAtH f:=fun f h xf hx=>by
 rcases Nat.lt_or_eq_of_le (Nat.le_of_lt_succ h)with h|rfl
 ·exact r f h xf hx
 ·rw[e]at hx;cases hx;exact k
theorem nixH{n:Nat}(e:code11h (num n)=none)(r:∀f,f<n→FnAtH f):∀f,f<n+1→FnAtH f:=fun f h xf hx=>by
 rcases Nat.lt_or_eq_of_le (Nat.le_of_lt_succ h)with h|rfl
 ·exact r f h xf hx
 ·rw[e]at hx;cases hx
theorem uptoH20:∀f,f<20→FnAtH f:=
 nixH (by kernel_rfl)<|
 hitH (by kernel_rfl) ok18<|
 nixH (by kernel_rfl)<|
 nixH (by kernel_rfl)<|
 nixH (by kernel_rfl)<|
 nixH (by kernel_rfl)<|
 nixH (by kernel_rfl)<|
 nixH (by kernel_rfl)<|
 nixH (by kernel_rfl)<|
 hitH (by kernel_rfl) okH10<|
 nixH (by kernel_rfl)<|
 hitH (by kernel_rfl) ok8<|
 nixH (by kernel_rfl)<|
 nixH (by kernel_rfl)<|
 nixH (by kernel_rfl)<|
 nixH (by kernel_rfl)<|
 nixH (by kernel_rfl)<|
 nixH (by kernel_rfl)<|
 nixH (by kernel_rfl)<|
 nixH (by kernel_rfl) (fun f h=>absurd h (Nat.not_lt_zero f))
theorem uptoH40:∀f,f<40→FnAtH f:=
 nixH (by kernel_rfl)<|
 nixH (by kernel_rfl)<|
 nixH (by kernel_rfl)<|
 nixH (by kernel_rfl)<|
 hitH (by kernel_rfl) okH35<|
 nixH (by kernel_rfl)<|
 nixH (by kernel_rfl)<|
 nixH (by kernel_rfl)<|
 nixH (by kernel_rfl)<|
 nixH (by kernel_rfl)<|
 nixH (by kernel_rfl)<|
 nixH (by kernel_rfl)<|
 nixH (by kernel_rfl)<|
 nixH (by kernel_rfl)<|
 nixH (by kernel_rfl)<|
 nixH (by kernel_rfl)<|
 nixH (by kernel_rfl)<|
 nixH (by kernel_rfl)<|
 nixH (by kernel_rfl)<|
 nixH (by kernel_rfl) uptoH20
theorem uptoH60:∀f,f<60→FnAtH f:=
 nixH (by kernel_rfl)<|
 nixH (by kernel_rfl)<|
 nixH (by kernel_rfl)<|
 nixH (by kernel_rfl)<|
 nixH (by kernel_rfl)<|
 nixH (by kernel_rfl)<|
 nixH (by kernel_rfl)<|
 nixH (by kernel_rfl)<|
 nixH (by kernel_rfl)<|
 nixH (by kernel_rfl)<|
 nixH (by kernel_rfl)<|
 nixH (by kernel_rfl)<|
 nixH (by kernel_rfl)<|
 nixH (by kernel_rfl)<|
 nixH (by kernel_rfl)<|
 nixH (by kernel_rfl)<|
 nixH (by kernel_rfl)<|
 nixH (by kernel_rfl)<|
 nixH (by kernel_rfl)<|
 nixH (by kernel_rfl) uptoH40
theorem uptoH80:∀f,f<80→FnAtH f:=
 nixH (by kernel_rfl)<|
 nixH (by kernel_rfl)<|
 nixH (by kernel_rfl)<|
 nixH (by kernel_rfl)<|
 nixH (by kernel_rfl)<|
 nixH (by kernel_rfl)<|
 nixH (by kernel_rfl)<|
 nixH (by kernel_rfl)<|
 nixH (by kernel_rfl)<|
 nixH (by kernel_rfl)<|
 nixH (by kernel_rfl)<|
 nixH (by kernel_rfl)<|
 nixH (by kernel_rfl)<|
 nixH (by kernel_rfl)<|
 nixH (by kernel_rfl)<|
 nixH (by kernel_rfl)<|
 nixH (by kernel_rfl)<|
 nixH (by kernel_rfl)<|
 nixH (by kernel_rfl)<|
 nixH (by kernel_rfl) uptoH60
theorem uptoH100:∀f,f<100→FnAtH f:=
 nixH (by kernel_rfl)<|
 nixH (by kernel_rfl)<|
 nixH (by kernel_rfl)<|
 nixH (by kernel_rfl)<|
 nixH (by kernel_rfl)<|
 nixH (by kernel_rfl)<|
 nixH (by kernel_rfl)<|
 nixH (by kernel_rfl)<|
 nixH (by kernel_rfl)<|
 nixH (by kernel_rfl)<|
 nixH (by kernel_rfl)<|
 nixH (by kernel_rfl)<|
 nixH (by kernel_rfl)<|
 nixH (by kernel_rfl)<|
 nixH (by kernel_rfl)<|
 nixH (by kernel_rfl)<|
 nixH (by kernel_rfl)<|
 nixH (by kernel_rfl)<|
 nixH (by kernel_rfl)<|
 nixH (by kernel_rfl) uptoH80
theorem uptoH120:∀f,f<120→FnAtH f:=
 nixH (by kernel_rfl)<|
 nixH (by kernel_rfl)<|
 hitH (by kernel_rfl) okH117<|
 nixH (by kernel_rfl)<|
 nixH (by kernel_rfl)<|
 nixH (by kernel_rfl)<|
 nixH (by kernel_rfl)<|
 nixH (by kernel_rfl)<|
 nixH (by kernel_rfl)<|
 nixH (by kernel_rfl)<|
 nixH (by kernel_rfl)<|
 nixH (by kernel_rfl)<|
 nixH (by kernel_rfl)<|
 nixH (by kernel_rfl)<|
 nixH (by kernel_rfl)<|
 nixH (by kernel_rfl)<|
 nixH (by kernel_rfl)<|
 nixH (by kernel_rfl)<|
 nixH (by kernel_rfl)<|
 nixH (by kernel_rfl) uptoH100
theorem uptoH140:∀f,f<140→FnAtH f:=
 nixH (by kernel_rfl)<|
 nixH (by kernel_rfl)<|
 nixH (by kernel_rfl)<|
 nixH (by kernel_rfl)<|
 nixH (by kernel_rfl)<|
 nixH (by kernel_rfl)<|
 nixH (by kernel_rfl)<|
 nixH (by kernel_rfl)<|
 nixH (by kernel_rfl)<|
 nixH (by kernel_rfl)<|
 nixH (by kernel_rfl)<|
 nixH (by kernel_rfl)<|
 nixH (by kernel_rfl)<|
 nixH (by kernel_rfl)<|
 nixH (by kernel_rfl)<|
 nixH (by kernel_rfl)<|
 nixH (by kernel_rfl)<|
 nixH (by kernel_rfl)<|
 nixH (by kernel_rfl)<|
 nixH (by kernel_rfl) uptoH120
theorem uptoH160:∀f,f<160→FnAtH f:=
 nixH (by kernel_rfl)<|
 nixH (by kernel_rfl)<|
 nixH (by kernel_rfl)<|
 nixH (by kernel_rfl)<|
 nixH (by kernel_rfl)<|
 nixH (by kernel_rfl)<|
 nixH (by kernel_rfl)<|
 nixH (by kernel_rfl)<|
 nixH (by kernel_rfl)<|
 nixH (by kernel_rfl)<|
 nixH (by kernel_rfl)<|
 nixH (by kernel_rfl)<|
 nixH (by kernel_rfl)<|
 nixH (by kernel_rfl)<|
 nixH (by kernel_rfl)<|
 nixH (by kernel_rfl)<|
 nixH (by kernel_rfl)<|
 nixH (by kernel_rfl)<|
 nixH (by kernel_rfl)<|
 nixH (by kernel_rfl) uptoH140
theorem uptoH180:∀f,f<180→FnAtH f:=
 nixH (by kernel_rfl)<|
 nixH (by kernel_rfl)<|
 nixH (by kernel_rfl)<|
 nixH (by kernel_rfl)<|
 nixH (by kernel_rfl)<|
 nixH (by kernel_rfl)<|
 nixH (by kernel_rfl)<|
 nixH (by kernel_rfl)<|
 nixH (by kernel_rfl)<|
 nixH (by kernel_rfl)<|
 nixH (by kernel_rfl)<|
 nixH (by kernel_rfl)<|
 nixH (by kernel_rfl)<|
 nixH (by kernel_rfl)<|
 nixH (by kernel_rfl)<|
 nixH (by kernel_rfl)<|
 nixH (by kernel_rfl)<|
 nixH (by kernel_rfl)<|
 nixH (by kernel_rfl)<|
 nixH (by kernel_rfl) uptoH160
theorem uptoH200:∀f,f<200→FnAtH f:=
 nixH (by kernel_rfl)<|
 nixH (by kernel_rfl)<|
 nixH (by kernel_rfl)<|
 nixH (by kernel_rfl)<|
 nixH (by kernel_rfl)<|
 nixH (by kernel_rfl)<|
 nixH (by kernel_rfl)<|
 nixH (by kernel_rfl)<|
 nixH (by kernel_rfl)<|
 nixH (by kernel_rfl)<|
 nixH (by kernel_rfl)<|
 nixH (by kernel_rfl)<|
 nixH (by kernel_rfl)<|
 nixH (by kernel_rfl)<|
 nixH (by kernel_rfl)<|
 nixH (by kernel_rfl)<|
 nixH (by kernel_rfl)<|
 nixH (by kernel_rfl)<|
 nixH (by kernel_rfl)<|
 nixH (by kernel_rfl) uptoH180
theorem uptoH220:∀f,f<220→FnAtH f:=
 nixH (by kernel_rfl)<|
 nixH (by kernel_rfl)<|
 nixH (by kernel_rfl)<|
 nixH (by kernel_rfl)<|
 nixH (by kernel_rfl)<|
 nixH (by kernel_rfl)<|
 nixH (by kernel_rfl)<|
 nixH (by kernel_rfl)<|
 nixH (by kernel_rfl)<|
 nixH (by kernel_rfl)<|
 nixH (by kernel_rfl)<|
 nixH (by kernel_rfl)<|
 nixH (by kernel_rfl)<|
 nixH (by kernel_rfl)<|
 nixH (by kernel_rfl)<|
 nixH (by kernel_rfl)<|
 nixH (by kernel_rfl)<|
 nixH (by kernel_rfl)<|
 nixH (by kernel_rfl)<|
 nixH (by kernel_rfl) uptoH200
theorem uptoH240:∀f,f<240→FnAtH f:=
 nixH (by kernel_rfl)<|
 nixH (by kernel_rfl)<|
 nixH (by kernel_rfl)<|
 nixH (by kernel_rfl)<|
 nixH (by kernel_rfl)<|
 nixH (by kernel_rfl)<|
 nixH (by kernel_rfl)<|
 nixH (by kernel_rfl)<|
 nixH (by kernel_rfl)<|
 nixH (by kernel_rfl)<|
 nixH (by kernel_rfl)<|
 nixH (by kernel_rfl)<|
 nixH (by kernel_rfl)<|
 nixH (by kernel_rfl)<|
 nixH (by kernel_rfl)<|
 nixH (by kernel_rfl)<|
 nixH (by kernel_rfl)<|
 nixH (by kernel_rfl)<|
 nixH (by kernel_rfl)<|
 nixH (by kernel_rfl) uptoH220
theorem uptoH260:∀f,f<260→FnAtH f:=
 nixH (by kernel_rfl)<|
 nixH (by kernel_rfl)<|
 nixH (by kernel_rfl)<|
 nixH (by kernel_rfl)<|
 nixH (by kernel_rfl)<|
 nixH (by kernel_rfl)<|
 nixH (by kernel_rfl)<|
 nixH (by kernel_rfl)<|
 nixH (by kernel_rfl)<|
 nixH (by kernel_rfl)<|
 nixH (by kernel_rfl)<|
 nixH (by kernel_rfl)<|
 nixH (by kernel_rfl)<|
 nixH (by kernel_rfl)<|
 nixH (by kernel_rfl)<|
 nixH (by kernel_rfl)<|
 nixH (by kernel_rfl)<|
 nixH (by kernel_rfl)<|
 nixH (by kernel_rfl)<|
 nixH (by kernel_rfl) uptoH240
theorem uptoH268:∀f,f<268→FnAtH f:=
 nixH (by kernel_rfl)<|
 nixH (by kernel_rfl)<|
 nixH (by kernel_rfl)<|
 nixH (by kernel_rfl)<|
 nixH (by kernel_rfl)<|
 nixH (by kernel_rfl)<|
 nixH (by kernel_rfl)<|
 nixH (by kernel_rfl) uptoH260
theorem fnsH(f:FuncId)(xf:XFun)(h:code11h (num f)=some xf):FunOK Tryz.prog num f xf:=by
 by_cases hf:f<268
 ·exact uptoH268 f hf xf h
 ·have hn:num f=100000+f:=by
   unfold num
   rw[List.getElem?_eq_none (by rw[show gids.length=268 from by kernel_rfl];simp only[FuncId]at *;omega)];rfl
  rw[hn]at h
  unfold code11h at h
  split at h<;>first|(exfalso;simp only[FuncId]at *;omega)|cases h
end Go.Proofs.YtjdfihnmpmckjaaGreatDoor


namespace Go.Proofs.YtjdfihnmpmckjaaGreatDoor
open Go.EX
theorem okL7:FunOK Tryz.prog num 7 x489:=.one Tryz.func7 (by kernel_rfl)
theorem okL9:FunOK Tryz.prog num 9 x627:=.one Tryz.func9 (by kernel_rfl)
theorem okL16:FunOK Tryz.prog num 16 x636:=.one Tryz.func16 (by kernel_rfl)
theorem okL17:FunOK Tryz.prog num 17 x630:=.one Tryz.func17 (by kernel_rfl)
theorem okL23:FunOK Tryz.prog num 23 x632:=.one Tryz.func23 (by kernel_rfl)
theorem okL24:FunOK Tryz.prog num 24 x633:=.one Tryz.func24 (by kernel_rfl)
theorem okL34:FunOK Tryz.prog num 34 x491:=.one Tryz.func34 (by kernel_rfl)
theorem okL36:FunOK Tryz.prog num 36 x640:=.one Tryz.func36 (by kernel_rfl)
theorem okL50:FunOK Tryz.prog num 50 x643:=.one Tryz.func50 (by kernel_rfl)
theorem okL51:FunOK Tryz.prog num 51 x206:=.one Tryz.func51 (by kernel_rfl)
theorem okL52:FunOK Tryz.prog num 52 x578:=.one Tryz.func52 (by kernel_rfl)
theorem okL118:FunOK Tryz.prog num 118 x749:=.one Tryz.func118 (by kernel_rfl)
theorem okL119:FunOK Tryz.prog num 119 x641:=.one Tryz.func119 (by kernel_rfl)
theorem okL120:FunOK Tryz.prog num 120 x646:=.one Tryz.func120 (by kernel_rfl)
theorem okL121:FunOK Tryz.prog num 121 x642:=.one Tryz.func121 (by kernel_rfl)
theorem okL122:FunOK Tryz.prog num 122 x639:=.one Tryz.func122 (by kernel_rfl)
theorem okL127:FunOK Tryz.prog num 127 x743:=.one Tryz.func127 (by kernel_rfl)
theorem okL128:FunOK Tryz.prog num 128 x740:=.one Tryz.func128 (by kernel_rfl)
theorem okL129:FunOK Tryz.prog num 129 x742:=.one Tryz.func129 (by kernel_rfl)
theorem okL130:FunOK Tryz.prog num 130 x741:=.one Tryz.func130 (by kernel_rfl)
theorem okL131:FunOK Tryz.prog num 131 x219:=.one Tryz.func131 (by kernel_rfl)
theorem okL132:FunOK Tryz.prog num 132 x207:=.one Tryz.func132 (by kernel_rfl)
theorem okL133:FunOK Tryz.prog num 133 x212:=.one Tryz.func133 (by kernel_rfl)
theorem okL134:FunOK Tryz.prog num 134 x580:=.one Tryz.func134 (by kernel_rfl)
theorem okL135:FunOK Tryz.prog num 135 x210:=.one Tryz.func135 (by kernel_rfl)
theorem okL136:FunOK Tryz.prog num 136 x588:=.one Tryz.func136 (by kernel_rfl)
theorem okL137:FunOK Tryz.prog num 137 x217:=.one Tryz.func137 (by kernel_rfl)
theorem okL139:FunOK Tryz.prog num 139 x214:=.one Tryz.func139 (by kernel_rfl)
theorem okL140:FunOK Tryz.prog num 140 x211:=.one Tryz.func140 (by kernel_rfl)
theorem okL141:FunOK Tryz.prog num 141 x215:=.one Tryz.func141 (by kernel_rfl)
theorem okL188:FunOK Tryz.prog num 188 x759:=.one Tryz.func188 (by kernel_rfl)
theorem okL189:FunOK Tryz.prog num 189 x656:=.one Tryz.func189 (by kernel_rfl)
theorem okL190:FunOK Tryz.prog num 190 x745:=.one Tryz.func190 (by kernel_rfl)
theorem okL191:FunOK Tryz.prog num 191 x654:=.one Tryz.func191 (by kernel_rfl)
theorem okL192:FunOK Tryz.prog num 192 x647:=.one Tryz.func192 (by kernel_rfl)
theorem okL193:FunOK Tryz.prog num 193 x652:=.one Tryz.func193 (by kernel_rfl)
theorem okL196:FunOK Tryz.prog num 196 x218:=.one Tryz.func196 (by kernel_rfl)
theorem okL197:FunOK Tryz.prog num 197 x216:=.one Tryz.func197 (by kernel_rfl)
theorem okL198:FunOK Tryz.prog num 198 x579:=.one Tryz.func198 (by kernel_rfl)
theorem okL199:FunOK Tryz.prog num 199 x213:=.one Tryz.func199 (by kernel_rfl)
theorem okL201:FunOK Tryz.prog num 201 x209:=.one Tryz.func201 (by kernel_rfl)
theorem okL202:FunOK Tryz.prog num 202 x581:=.one Tryz.func202 (by kernel_rfl)
theorem okL208:FunOK Tryz.prog num 208 x651:=.one Tryz.func208 (by kernel_rfl)
theorem okL209:FunOK Tryz.prog num 209 x755:=.one Tryz.func209 (by kernel_rfl)
theorem okL210:FunOK Tryz.prog num 210 x655:=.one Tryz.func210 (by kernel_rfl)
theorem okL211:FunOK Tryz.prog num 211 x653:=.one Tryz.func211 (by kernel_rfl)
theorem okL212:FunOK Tryz.prog num 212 x650:=.one Tryz.func212 (by kernel_rfl)
theorem okL214:FunOK Tryz.prog num 214 x582:=.one Tryz.func214 (by kernel_rfl)
theorem okL215:FunOK Tryz.prog num 215 x589:=.one Tryz.func215 (by kernel_rfl)
theorem okL221:FunOK Tryz.prog num 221 x583:=.one Tryz.func221 (by kernel_rfl)
theorem okL222:FunOK Tryz.prog num 222 x584:=.one Tryz.func222 (by kernel_rfl)
theorem okL223:FunOK Tryz.prog num 223 x585:=.one Tryz.func223 (by kernel_rfl)
theorem okL224:FunOK Tryz.prog num 224 x586:=.one Tryz.func224 (by kernel_rfl)
theorem okL225:FunOK Tryz.prog num 225 x587:=.one Tryz.func225 (by kernel_rfl)
abbrev FnAtL(f:Nat):Prop:=∀xf,code11 (num f)=some xf→FunOK Tryz.prog num f xf
theorem hitL{n:Nat}{x:XFun}(e:code11 (num n)=some x)(k:FunOK Tryz.prog num n x)(r:∀f,f<n→FnAtL f):∀f,f<n+1→FnAtL f:=fun f h xf hx=>by
 rcases Nat.lt_or_eq_of_le (Nat.le_of_lt_succ h)with h|rfl
 ·exact r f h xf hx
 ·rw[e]at hx;cases hx;exact k
theorem nixL{n:Nat}(e:code11 (num n)=none)(r:∀f,f<n→FnAtL f):∀f,f<n+1→FnAtL f:=fun f h xf hx=>by
 rcases Nat.lt_or_eq_of_le (Nat.le_of_lt_succ h)with h|rfl
 ·exact r f h xf hx
 ·rw[e]at hx;cases hx
theorem uptoL20:∀f,f<20→FnAtL f:=
 nixL (by kernel_rfl)<|
 nixL (by kernel_rfl)<|
 hitL (by kernel_rfl) okL17<|
 hitL (by kernel_rfl) okL16<|
 nixL (by kernel_rfl)<|
 nixL (by kernel_rfl)<|
 nixL (by kernel_rfl)<|
 nixL (by kernel_rfl)<|
 nixL (by kernel_rfl)<|
 nixL (by kernel_rfl)<|
 hitL (by kernel_rfl) okL9<|
 nixL (by kernel_rfl)<|
 hitL (by kernel_rfl) okL7<|
 nixL (by kernel_rfl)<|
 nixL (by kernel_rfl)<|
 nixL (by kernel_rfl)<|
 nixL (by kernel_rfl)<|
 nixL (by kernel_rfl)<|
 nixL (by kernel_rfl)<|
 nixL (by kernel_rfl) (fun f h=>absurd h (Nat.not_lt_zero f))
theorem uptoL40:∀f,f<40→FnAtL f:=
 nixL (by kernel_rfl)<|
 nixL (by kernel_rfl)<|
 nixL (by kernel_rfl)<|
 hitL (by kernel_rfl) okL36<|
 nixL (by kernel_rfl)<|
 hitL (by kernel_rfl) okL34<|
 nixL (by kernel_rfl)<|
 nixL (by kernel_rfl)<|
 nixL (by kernel_rfl)<|
 nixL (by kernel_rfl)<|
 nixL (by kernel_rfl)<|
 nixL (by kernel_rfl)<|
 nixL (by kernel_rfl)<|
 nixL (by kernel_rfl)<|
 nixL (by kernel_rfl)<|
 hitL (by kernel_rfl) okL24<|
 hitL (by kernel_rfl) okL23<|
 nixL (by kernel_rfl)<|
 nixL (by kernel_rfl)<|
 nixL (by kernel_rfl) uptoL20
theorem uptoL60:∀f,f<60→FnAtL f:=
 nixL (by kernel_rfl)<|
 nixL (by kernel_rfl)<|
 nixL (by kernel_rfl)<|
 nixL (by kernel_rfl)<|
 nixL (by kernel_rfl)<|
 nixL (by kernel_rfl)<|
 nixL (by kernel_rfl)<|
 hitL (by kernel_rfl) okL52<|
 hitL (by kernel_rfl) okL51<|
 hitL (by kernel_rfl) okL50<|
 nixL (by kernel_rfl)<|
 nixL (by kernel_rfl)<|
 nixL (by kernel_rfl)<|
 nixL (by kernel_rfl)<|
 nixL (by kernel_rfl)<|
 nixL (by kernel_rfl)<|
 nixL (by kernel_rfl)<|
 nixL (by kernel_rfl)<|
 nixL (by kernel_rfl)<|
 nixL (by kernel_rfl) uptoL40
theorem uptoL80:∀f,f<80→FnAtL f:=
 nixL (by kernel_rfl)<|
 nixL (by kernel_rfl)<|
 nixL (by kernel_rfl)<|
 nixL (by kernel_rfl)<|
 nixL (by kernel_rfl)<|
 nixL (by kernel_rfl)<|
 nixL (by kernel_rfl)<|
 nixL (by kernel_rfl)<|
 nixL (by kernel_rfl)<|
 nixL (by kernel_rfl)<|
 nixL (by kernel_rfl)<|
 nixL (by kernel_rfl)<|
 nixL (by kernel_rfl)<|
 nixL (by kernel_rfl)<|
 nixL (by kernel_rfl)<|
 nixL (by kernel_rfl)<|
 nixL (by kernel_rfl)<|
 nixL (by kernel_rfl)<|
 nixL (by kernel_rfl)<|
 nixL (by kernel_rfl) uptoL60
theorem uptoL100:∀f,f<100→FnAtL f:=
 nixL (by kernel_rfl)<|
 nixL (by kernel_rfl)<|
 nixL (by kernel_rfl)<|
 nixL (by kernel_rfl)<|
 nixL (by kernel_rfl)<|
 nixL (by kernel_rfl)<|
 nixL (by kernel_rfl)<|
 nixL (by kernel_rfl)<|
 nixL (by kernel_rfl)<|
 nixL (by kernel_rfl)<|
 nixL (by kernel_rfl)<|
 nixL (by kernel_rfl)<|
 nixL (by kernel_rfl)<|
 nixL (by kernel_rfl)<|
 nixL (by kernel_rfl)<|
 nixL (by kernel_rfl)<|
 nixL (by kernel_rfl)<|
 nixL (by kernel_rfl)<|
 nixL (by kernel_rfl)<|
 nixL (by kernel_rfl) uptoL80
theorem uptoL120:∀f,f<120→FnAtL f:=
 hitL (by kernel_rfl) okL119<|
 hitL (by kernel_rfl) okL118<|
 nixL (by kernel_rfl)<|
 nixL (by kernel_rfl)<|
 nixL (by kernel_rfl)<|
 nixL (by kernel_rfl)<|
 nixL (by kernel_rfl)<|
 nixL (by kernel_rfl)<|
 nixL (by kernel_rfl)<|
 nixL (by kernel_rfl)<|
 nixL (by kernel_rfl)<|
 nixL (by kernel_rfl)<|
 nixL (by kernel_rfl)<|
 nixL (by kernel_rfl)<|
 nixL (by kernel_rfl)<|
 nixL (by kernel_rfl)<|
 nixL (by kernel_rfl)<|
 nixL (by kernel_rfl)<|
 nixL (by kernel_rfl)<|
 nixL (by kernel_rfl) uptoL100
theorem uptoL140:∀f,f<140→FnAtL f:=
 hitL (by kernel_rfl) okL139<|
 nixL (by kernel_rfl)<|
 hitL (by kernel_rfl) okL137<|
 hitL (by kernel_rfl) okL136<|
 hitL (by kernel_rfl) okL135<|
 hitL (by kernel_rfl) okL134<|
 hitL (by kernel_rfl) okL133<|
 hitL (by kernel_rfl) okL132<|
 hitL (by kernel_rfl) okL131<|
 hitL (by kernel_rfl) okL130<|
 hitL (by kernel_rfl) okL129<|
 hitL (by kernel_rfl) okL128<|
 hitL (by kernel_rfl) okL127<|
 nixL (by kernel_rfl)<|
 nixL (by kernel_rfl)<|
 nixL (by kernel_rfl)<|
 nixL (by kernel_rfl)<|
 hitL (by kernel_rfl) okL122<|
 hitL (by kernel_rfl) okL121<|
 hitL (by kernel_rfl) okL120 uptoL120
theorem uptoL160:∀f,f<160→FnAtL f:=
 nixL (by kernel_rfl)<|
 nixL (by kernel_rfl)<|
 nixL (by kernel_rfl)<|
 nixL (by kernel_rfl)<|
 nixL (by kernel_rfl)<|
 nixL (by kernel_rfl)<|
 nixL (by kernel_rfl)<|
 nixL (by kernel_rfl)<|
 nixL (by kernel_rfl)<|
 nixL (by kernel_rfl)<|
 nixL (by kernel_rfl)<|
 nixL (by kernel_rfl)<|
 nixL (by kernel_rfl)<|
 nixL (by kernel_rfl)<|
 nixL (by kernel_rfl)<|
 nixL (by kernel_rfl)<|
 nixL (by kernel_rfl)<|
 nixL (by kernel_rfl)<|
 hitL (by kernel_rfl) okL141<|
 hitL (by kernel_rfl) okL140 uptoL140
theorem uptoL180:∀f,f<180→FnAtL f:=
 nixL (by kernel_rfl)<|
 nixL (by kernel_rfl)<|
 nixL (by kernel_rfl)<|
 nixL (by kernel_rfl)<|
 nixL (by kernel_rfl)<|
 nixL (by kernel_rfl)<|
 nixL (by kernel_rfl)<|
 nixL (by kernel_rfl)<|
 nixL (by kernel_rfl)<|
 nixL (by kernel_rfl)<|
 nixL (by kernel_rfl)<|
 nixL (by kernel_rfl)<|
 nixL (by kernel_rfl)<|
 nixL (by kernel_rfl)<|
 nixL (by kernel_rfl)<|
 nixL (by kernel_rfl)<|
 nixL (by kernel_rfl)<|
 nixL (by kernel_rfl)<|
 nixL (by kernel_rfl)<|
 nixL (by kernel_rfl) uptoL160
theorem uptoL200:∀f,f<200→FnAtL f:=
 hitL (by kernel_rfl) okL199<|
 hitL (by kernel_rfl) okL198<|
 hitL (by kernel_rfl) okL197<|
 hitL (by kernel_rfl) okL196<|
 nixL (by kernel_rfl)<|
 nixL (by kernel_rfl)<|
 hitL (by kernel_rfl) okL193<|
 hitL (by kernel_rfl) okL192<|
 hitL (by kernel_rfl) okL191<|
 hitL (by kernel_rfl) okL190<|
 hitL (by kernel_rfl) okL189<|
 hitL (by kernel_rfl) okL188<|
 nixL (by kernel_rfl)<|
 nixL (by kernel_rfl)<|
 nixL (by kernel_rfl)<|
 nixL (by kernel_rfl)<|
 nixL (by kernel_rfl)<|
 nixL (by kernel_rfl)<|
 nixL (by kernel_rfl)<|
 nixL (by kernel_rfl) uptoL180
theorem uptoL220:∀f,f<220→FnAtL f:=
 nixL (by kernel_rfl)<|
 nixL (by kernel_rfl)<|
 nixL (by kernel_rfl)<|
 nixL (by kernel_rfl)<|
 hitL (by kernel_rfl) okL215<|
 hitL (by kernel_rfl) okL214<|
 nixL (by kernel_rfl)<|
 hitL (by kernel_rfl) okL212<|
 hitL (by kernel_rfl) okL211<|
 hitL (by kernel_rfl) okL210<|
 hitL (by kernel_rfl) okL209<|
 hitL (by kernel_rfl) okL208<|
 nixL (by kernel_rfl)<|
 nixL (by kernel_rfl)<|
 nixL (by kernel_rfl)<|
 nixL (by kernel_rfl)<|
 nixL (by kernel_rfl)<|
 hitL (by kernel_rfl) okL202<|
 hitL (by kernel_rfl) okL201<|
 nixL (by kernel_rfl) uptoL200
theorem uptoL240:∀f,f<240→FnAtL f:=
 nixL (by kernel_rfl)<|
 nixL (by kernel_rfl)<|
 nixL (by kernel_rfl)<|
 nixL (by kernel_rfl)<|
 nixL (by kernel_rfl)<|
 nixL (by kernel_rfl)<|
 nixL (by kernel_rfl)<|
 nixL (by kernel_rfl)<|
 nixL (by kernel_rfl)<|
 nixL (by kernel_rfl)<|
 nixL (by kernel_rfl)<|
 nixL (by kernel_rfl)<|
 nixL (by kernel_rfl)<|
 nixL (by kernel_rfl)<|
 hitL (by kernel_rfl) okL225<|
 hitL (by kernel_rfl) okL224<|
 hitL (by kernel_rfl) okL223<|
 hitL (by kernel_rfl) okL222<|
 hitL (by kernel_rfl) okL221<|
 nixL (by kernel_rfl) uptoL220
theorem uptoL260:∀f,f<260→FnAtL f:=
 nixL (by kernel_rfl)<|
 nixL (by kernel_rfl)<|
 nixL (by kernel_rfl)<|
 nixL (by kernel_rfl)<|
 nixL (by kernel_rfl)<|
 nixL (by kernel_rfl)<|
 nixL (by kernel_rfl)<|
 nixL (by kernel_rfl)<|
 nixL (by kernel_rfl)<|
 nixL (by kernel_rfl)<|
 nixL (by kernel_rfl)<|
 nixL (by kernel_rfl)<|
 nixL (by kernel_rfl)<|
 nixL (by kernel_rfl)<|
 nixL (by kernel_rfl)<|
 nixL (by kernel_rfl)<|
 nixL (by kernel_rfl)<|
 nixL (by kernel_rfl)<|
 nixL (by kernel_rfl)<|
 nixL (by kernel_rfl) uptoL240
theorem uptoL268:∀f,f<268→FnAtL f:=
 nixL (by kernel_rfl)<|
 nixL (by kernel_rfl)<|
 nixL (by kernel_rfl)<|
 nixL (by kernel_rfl)<|
 nixL (by kernel_rfl)<|
 nixL (by kernel_rfl)<|
 nixL (by kernel_rfl)<|
 nixL (by kernel_rfl) uptoL260
theorem fnsL(f:FuncId)(xf:XFun)(h:code11 (num f)=some xf):FunOK Tryz.prog num f xf:=by
 by_cases hf:f<268
 ·exact uptoL268 f hf xf h
 ·have hn:num f=100000+f:=by
   unfold num
   rw[List.getElem?_eq_none (by rw[show gids.length=268 from by kernel_rfl];simp only[FuncId]at *;omega)];rfl
  rw[hn]at h
  unfold code11 at h
  split at h<;>first|(exfalso;simp only[FuncId]at *;omega)|cases h
end Go.Proofs.YtjdfihnmpmckjaaGreatDoor


set_option linter.unusedVariables false
set_option linter.unusedSimpArgs false
namespace Go.EX
open Go.RowKit
section
variable {P:Program} {t:TypeId}
theorem zbd{α:Type}{n:Nat}{e:TypeId}{τ:Ty α}(ht:P.underlying t=some (.array n e))(he:ReadsAs P e τ)(hc:P.cellsOf e=τ.sz){H:Type}(enc:TypeId×Value→H)(w:World)(spare:Nat→Bool)(hsp:∀b,spare b=true)(fuel:Nat)(cs:List Value)(x:DataW H×List MemPlace)
  (h:DataW.trod enc P w 0 spare true fuel t cs=some x) (hwt:(DataW.weights P t x.1).all (· ≤reachBytes)=true):
  cs.length=P.cellsOf t∧∀i,i<n→∃d:α,τ.wf d∧∀(j:Nat) (y:IV) (u:Value),(τ.enc d)[j]?=some y→cs[i*τ.sz+j]?=some u→IRep (fun b=>b<w.heap.size) w y u:=by
 obtain⟨xs,m,_,rfl,hl,hxl,hg⟩:=DataW.trod_array ht h
 simp only[DataW.weights,ht]at hwt
 refine⟨hl,fun i hi=>?_⟩
 have hie:i<xs.length:=by omega
 have h1:=hg i hi
 rw[List.getElem?_eq_getElem hie]at h1
 have h2:=zv1 _ hwt i xs[i].1 (by rw[List.getElem?_map,List.getElem?_eq_getElem hie];rfl)
 obtain⟨d,hd,hdl,hr⟩:=he enc w spare hsp m _ _ h1 h2
 refine⟨d,hd,fun j y u hy hu=>hr j y u hy ?_⟩
 have hj:j<τ.sz:=by rw[←τ.len d];exact(List.getElem?_eq_some_iff.1 hy).1
 rw[List.getElem?_take,hc,if_pos hj,List.getElem?_drop]
 exact hu
theorem readsArr2{α:Type}{e:TypeId}{τ:Ty α}(ht:P.underlying t=some (.array 2 e))(he:ReadsAs P e τ)(hc:P.cellsOf e=τ.sz)(hct:P.cellsOf t=τ.sz+τ.sz):ReadsAs P t (tPair τ τ):=by
 intro H enc w spare hsp fuel cs x h hwt
 obtain⟨hl,hp⟩:=zbd ht he hc enc w spare hsp fuel cs x h hwt
 obtain⟨a,ha,ra⟩:=hp 0 (by decide)
 obtain⟨b,hb,rb⟩:=hp 1 (by decide)
 refine⟨(a,b),⟨ha,hb⟩,by rw[hl,hct];rfl,fun j y u hy hu=>?_⟩
 simp only[tPair]at hy
 rw[List.getElem?_append,τ.len]at hy
 split at hy
 ·exact ra j y u hy (by rw[Nat.zero_mul,Nat.zero_add];exact hu)
 ·rename_i hj
  refine rb _ y u hy ?_
  rw[←hu]
  congr 1
  omega
end
end Go.EX


namespace Go.EX
open Go.RowKit Go.ChangeShapes Go.WideShapes Go.ChangeAt
theorem ziw{P:Program}{num:Names}{ι:Type}{code:Nat→Option XFun}{ext:ι→Calls'}(hrun:∀i,Runs P num code (ext i)){f:FuncId}{fn:Func}{s:ChangeSpec}(hs:LawSpec s fn.params.toList.length)(hl:laidOutB P=true)
  (hts:(fn.params.toList.all fun t=>P.readableRec t&&decide (t<P.types.size))=true) {tb:TypeId} (hres:fn.resultTypes= #[tb]) (htb:P.underlying tb=some .bool)
  {Q:List AV→Prop} (hQ:ArgsOf P fn.params.toList Q) (hcall:∀az,Q az→∃i m,callW code (ext i) (num f) az []=some (.imm (.val (.bool true)),m)) {H:Type} {enc:TypeId×Value→H}
  (W:World) (base:Nat) (args:Array Value) (ds gs:List (DataW H)) (before:List MemPlace)
  (hval:∀(j:Nat) t v,fn.params[j]?=some t→args[j]?=some v→Value.okWide P W .any base t v)
  (hW:DataW.Whole enc P fn.params.toList s.vars false W args.toList ds gs before)
  (hwt:(DataW.weightsEach P (fn.params.toList++s.plain.varTypes P) (ds++gs)).all (· ≤reachBytes)=true) (hG:num.G (fun b=>b<W.heap.size) W):
  Calls P f args W fun e W'=>∃v,e=.returned v∧s.post enc P fn false true false false W args v W':=by
 have hW':=hW
 obtain⟨p,q,hA,hV,rfl,hfz,hnd⟩:=hW
 rw[hs.1]at hV
 obtain⟨rfl,rfl⟩:=trodVars_none hV
 obtain⟨az,h1,h2,h3,h4⟩:=ziu (num:=num) hQ args.toList ds p (fun j t v ht hv=>hval j t v (by simpa using ht) (by simpa using hv)) hA (by
  have e:s.plain.varTypes P=[]:=by simp[ChangeSpec.plain,DataSpec.varTypes,hs.1]
  rw[e,List.append_nil,List.append_nil]at hwt
  exact hwt)
 obtain⟨i,m,hm⟩:=hcall az h1
 refine(ziv (hrun i) hG hm (by simpa using h2) fun j x u hx hu=>h4 j x u hx (by simpa using hu)).mono fun e W' ⟨he,bel⟩=>?_
 subst he
 have hfn:s.fn H (ds++[])={ results:=[.lit (.bool true)],args:=ds }:=by rw[List.append_nil];exact hs.2 H ds h3
 refine⟨_,rfl,ds,[],p++[],[],p,[],hW',?_,?_,?_,bel.frame _,fun h=>by cases h⟩
 ·rw[hfn,hres];exact trodAll_mk1 (shut_bool htb _)
 ·rw[hfn];exact zuv hl bel hts hA
 ·rw[hfn,hs.1];rfl
end Go.EX

