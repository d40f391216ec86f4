import Derived.Test.YtjdfihnmpmckjaaGreatDoorK8
import Derived.Test.YtjdfihnmpmckjaaGreatDoorK12
import Derived.Test.YtjdfihnmpmckjaaGreatDoorK9
import Derived.Test.YtjdfihnmpmckjaaGreatDoorK11
set_option linter.unusedVariables false
set_option linter.unusedSimpArgs false
namespace Go.EX
def znj:XCode:=
 (.seq (.region [7,8,19] [o0 19 (.alloc [(.int .i64 0),(.slice none 0 0),(.slice none 0 0),(.slice none 0 0),(.slice none 0 0),(.slice none 0 0),(.slice none 0 0),(.slice none 0 0),(.slice none 0 0),(.slice none 0 0),(.slice none 0 0),(.slice none 0 0),(.slice none 0 0),(.slice none 0 0),(.slice none 0 0),(.slice none 0 0),(.slice none 0 0),(.slice none 0 0),(.slice none 0 0),(.slice none 0 0),(.slice none 0 0)])]) (.seq (.region [7,8,19] [o3 123 8,
 o0 124 (.call .whole 14 [(.t 19),(.t 123)])]) (.seq (.region [7,8,19] [o3 125 7,o3 126 8,
 o0 127 (.call .own 632 [(.t 125),(.t 126)]),
 o0 128 (.field 0 none (.t 127)),
 o0 129 (.call .whole 12 [(.t 19),(.t 128)])]) (.seq (.region [7,8,19] [o3 130 7,o3 131 8,
 o0 132 (.call .own 633 [(.t 130),(.t 131)]),
 o0 133 (.field 0 none (.t 132)),
 o0 134 (.call .whole 12 [(.t 19),(.t 133)])]) (.seq (.region [19] [o3 135 7,o3 136 8,
 o0 137 (.call .own 629 [(.t 135),(.c (.int .i64 0)),(.t 136)]),
 o0 138 (.field 0 none (.t 137)),
 o0 139 (.call .whole 12 [(.t 19),(.t 138)])]) (.seq (.region [6] [o0 140 (.call .whole 1 [.t 19]),o3 141 140,
 o1 142 141 true (.call .view 489 []),
 o0 143 (.pick (.t 141) (.t 142) (.c (.bool false))),o3 6 143]) .ret))))))
def zlj:XCode:=
 (.seq (.seq (.region [0,2,7,8,104] [o3 102 2,o8 103 102,
 o0 104 (.bin .gtr (.t 103) (.c (.int .i64 0)))]) (.cond (.t 104) (.seq (.region [0,2,7,8,17] [o3 105 0,
 o0 106 (.call .own 488 [.t 105]),o3 17 106]) (.seq (.region [0,2,7,8,17,18] [o3 107 17,o3 108 2,
 o0 109 (.idxA 2 (.t 108) (.c (.int .i64 0))),o6 110 2 109,
 o0 111 (.call .share 151 [(.t 107),(.t 110),(.c (.bool false))]),
 o0 18 (.alloc [(.int .u8 0),(.int .i64 0),(.string .empty),(.int .i64 0)]),
 o2 (.store 4 (.t 18) (.t 111))]) (.seq (.region [7,8,122] [o3 112 7,o3 113 2,
 o0 114 (.idxA 2 (.t 113) (.c (.int .i64 0))),o6 115 2 114,
 o0 116 (.call .own 628 [(.t 112),(.t 115)]),o3 117 17,o6 118 4 18,o3 119 7,o3 120 0,
 o0 121 (.call .view 490 [(.t 116),(.t 117),(.t 118),(.t 119),(.t 120)]),
 o0 122 (.un .not (.t 121))]) (.cond (.t 122) (.seq (.region [6] [o0 6 (.mv (.c (.bool false)))]) .ret) .skip)))) .skip)) znj)
def zni:XCode:=
 (.seq (.region [0,1,2,7,8,15] [o3 78 0,
 o0 79 (.call .own 488 [.t 78]),o3 15 79]) (.seq (.region [0,1,2,7,8,15,16] [o3 80 15,o3 81 1,
 o0 82 (.lenS (.t 81)),o3 83 2,
 o0 84 (.call .share 153 [(.t 80),(.t 82),(.t 83),(.c (.bool false))]),
 o0 16 (.alloc [(.int .u8 0),(.int .i64 0),(.string .empty),(.int .i64 0)]),
 o2 (.store 4 (.t 16) (.t 84))]) (.seq (.seq (.region [0,2,7,8,101] [o3 85 7,o3 86 1,
 o0 87 (.lenS (.t 86)),o3 88 8,
 o0 89 (.call .own 629 [(.t 85),(.t 87),(.t 88)]),o3 90 15,o6 91 4 16,o3 92 7,o3 93 0,
 o0 94 (.call .view 490 [(.t 89),(.t 90),(.t 91),(.t 92),(.t 93)]),
 o0 95 (.un .not (.t 94)),o3 96 95,
 o1 97 96 false (.mv (.t 8)),
 o1 98 96 false (.mv (.t 2)),
 o1 99 96 false (.call .view 336 [(.t 97),(.t 98)]),
 o1 100 96 false (.un .not (.t 99)),
 o0 101 (.pick (.t 96) (.c (.bool true)) (.t 100))]) (.cond (.t 101) (.seq (.region [6] [o0 6 (.mv (.c (.bool false)))]) .ret) .skip)) zlj)))
def znh:zab:=
 ⟨[.tmp 6],(.seq (.region [0,1,2] [o0 6 (.mv (.c (.bool false)))]) (.seq (.seq (.region [0,1,2,26] [o3 20 0,
 o0 21 (.call .view 487 [.t 20]),o3 22 21,
 o1 23 22 false (.mv (.t 2)),
 o1 24 22 false (.len (.t 23)),
 o1 25 22 false (.bin .gtr (.t 24) (.c (.int .i64 2000))),
 o0 26 (.pick (.t 22) (.c (.bool true)) (.t 25))]) (.cond (.t 26) (.seq (.region [6] [o0 27 (.call .view 489 []),o3 6 27]) .ret) .skip)) (.seq (.region [0,1,2,7] [o3 28 0,
 o0 29 (.call .own 377 [.t 28]),o3 7 29]) (.seq (.region [0,1,2,7,8] [o3 30 2,
 o0 31 (.call .own 379 [.t 30]),o3 8 31]) (.seq (.region [0,1,2,7,8,9] [o3 32 0,
 o0 33 (.call .own 488 [.t 32]),o3 9 33]) (.seq (.region [0,1,2,7,8,9,10] [o3 34 9,o3 35 1,
 o0 36 (.call .share 163 [(.t 34),(.t 35),(.c (.bool false))]),
 o0 10 (.alloc [(.int .u8 0),(.int .i64 0),(.string .empty),(.int .i64 0)]),
 o2 (.store 4 (.t 10) (.t 36))]) (.seq (.region [0,1,2,7,8,9,10,11] [o3 37 0,
 o0 38 (.call .own 488 [.t 37]),o3 11 38]) (.seq (.region [0,1,2,7,8,9,10,11,12] [o3 39 11,o3 40 2,
 o0 41 (.call .share 156 [(.t 39),(.t 40),(.c (.bool false))]),
 o0 12 (.alloc [(.int .u8 0),(.int .i64 0),(.string .empty),(.int .i64 0)]),
 o2 (.store 4 (.t 12) (.t 41))]) (.seq (.region [0,1,2,7,8,9,10,11,12,13] [o3 42 0,
 o0 43 (.call .own 488 [.t 42]),o3 13 43]) (.seq (.region [0,1,2,7,8,9,10,11,12,13,14] [o3 44 13,o3 45 2,
 o0 46 (.call .share 157 [(.t 44),(.t 45),(.c (.bool false))]),
 o0 14 (.alloc [(.int .u8 0),(.int .i64 0),(.string .empty),(.int .i64 0)]),
 o2 (.store 4 (.t 14) (.t 46))]) (.seq (.seq (.region [0,1,2,7,8,77] [o3 47 7,o3 48 1,
 o0 49 (.call .own 638 [(.t 47),(.t 48)]),o3 50 9,o6 51 4 10,o3 52 7,o3 53 0,
 o0 54 (.call .view 490 [(.t 49),(.t 50),(.t 51),(.t 52),(.t 53)]),
 o0 55 (.un .not (.t 54)),o3 56 55,
 o1 57 56 false (.mv (.t 7)),
 o1 58 56 false (.mv (.t 8)),
 o1 59 56 false (.call .own 632 [(.t 57),(.t 58)]),
 o1 60 56 false (.mv (.t 11)),
 o1 61 56 false (.load (some 4) (.t 12)),
 o1 62 56 false (.mv (.t 7)),
 o1 63 56 false (.mv (.t 0)),
 o1 64 56 false (.call .view 490 [(.t 59),(.t 60),(.t 61),(.t 62),(.t 63)]),
 o1 65 56 false (.un .not (.t 64)),
 o0 66 (.pick (.t 56) (.c (.bool true)) (.t 65)),o3 67 66,
 o1 68 67 false (.mv (.t 7)),
 o1 69 67 false (.mv (.t 8)),
 o1 70 67 false (.call .own 633 [(.t 68),(.t 69)]),
 o1 71 67 false (.mv (.t 13)),
 o1 72 67 false (.load (some 4) (.t 14)),
 o1 73 67 false (.mv (.t 7)),
 o1 74 67 false (.mv (.t 0)),
 o1 75 67 false (.call .view 490 [(.t 70),(.t 71),(.t 72),(.t 73),(.t 74)]),
 o1 76 67 false (.un .not (.t 75)),
 o0 77 (.pick (.t 67) (.c (.bool true)) (.t 76))]) (.cond (.t 77) (.seq (.region [6] [o0 6 (.mv (.c (.bool false)))]) .ret) .skip)) zni)))))))))))⟩
def x632Q:zab:=
 ⟨[.cell 4 (some 5)],(.seq (.region [0,1,4] [o0 4 (.alloc [(.slice none 0 0),(.int .u8 0),(.int .i64 0),(.string .empty),(.int .i64 0)])]) (.seq (.region [4] [o3 5 0,o3 6 1,
 o0 7 (.call .look 640 [(.t 5),(.c (.int .u8 22)),(.c (.int .i64 0)),(.t 6)]),
 o2 (.store 5 (.t 4) (.t 7))]) .ret))⟩
def x633Q:zab:=
 ⟨[.cell 4 (some 5)],(.seq (.region [0,1,4] [o0 4 (.alloc [(.slice none 0 0),(.int .u8 0),(.int .i64 0),(.string .empty),(.int .i64 0)])]) (.seq (.region [4] [o3 5 0,o3 6 1,
 o0 7 (.call .look 640 [(.t 5),(.c (.int .u8 23)),(.c (.int .i64 0)),(.t 6)]),
 o2 (.store 5 (.t 4) (.t 7))]) .ret))⟩
def x628Q:zab:=
 ⟨[.cell 4 (some 5)],(.seq (.region [0,3,4] [o0 3 (.box 2 (.t 1)),
 o0 4 (.alloc [(.slice none 0 0),(.int .u8 0),(.int .i64 0),(.string .empty),(.int .i64 0)])]) (.seq (.region [4] [o3 5 0,o6 6 2 3,
 o0 7 (.buildSlice 2 [(.int .u8 0),(.int .i64 0)] 1 [(0,2,(.t 6))]),
 o0 8 (.call .look 640 [(.t 5),(.c (.int .u8 7)),(.c (.int .i64 0)),(.t 7)]),
 o2 (.store 5 (.t 4) (.t 8))]) .ret))⟩
def x629Q:zab:=
 ⟨[.cell 6 (some 5)],(.seq (.region [0,1,2,6] [o0 6 (.alloc [(.slice none 0 0),(.int .u8 0),(.int .i64 0),(.string .empty),(.int .i64 0)])]) (.seq (.region [6] [o3 7 0,o3 8 1,o3 9 2,
 o0 10 (.call .look 640 [(.t 7),(.c (.int .u8 26)),(.t 8),(.t 9)]),
 o2 (.store 5 (.t 6) (.t 10))]) .ret))⟩
def zal(k room fn:Int)(l:Sl tVal):Obj:=⟨k,.empty,l,room,fn⟩
section
variable {code:Nat->Option zab} {ext:zac}
theorem yg9(T:List Obj)(k room fn:Int)(l:Sl tVal)(v:AV):setAll ((tObj.row (T++[zap])).map AV.imm) (T.length*5) [.imm (.val (.int .u8 k)),zaj .empty,v,zaa room,zaa fn]=zax (tObj.row (T++[zal k room fn l])) (T.length*5+2) v:=by
 have hl:(tObj.row T).length=T.length*5:=zca tObj T
 have h1:tObj.row (T++[zap])=tObj.row T++tObj.enc zap:=by unfold Ty.row;simp
 have h2:tObj.row (T++[zal k room fn l])=tObj.row T++[.val (.int .u8 k),.val (.string .empty),l.iv,.val (.int .i64 room),.val (.int .i64 fn)]:=by unfold Ty.row;simp[tObj,zal]
 rw[h1,h2,<-z3i hl,xcj,<-hl]
 have hlm:(tObj.row T).length=((tObj.row T).map AV.imm).length:=by simp
 rw[hlm]
 simp only[setAll]
 rw[xbb _ _ (xap _),xbb _ _ (by omega),xbb _ _ (by omega),xbb _ _ (by omega),xbb _ _ (by omega)]
 congr 1
 generalize ((tObj.row T).map AV.imm).length=m
 rw[show m-m=0 by omega,show m+1-m=1 by omega,show m+1+1-m=2 by omega,show m+1+1+1-m=3 by omega,show m+1+1+1+1-m=4 by omega]
 rfl
theorem zr5(h:code 165=some zhl)(h1:code 559=some zfa){T:List Obj}(hn:T.length<=100000000)(k room fn:Int)(h0:0<=room){l:Sl tVal}{n:Nat}{W:List IV}{cap:Option Nat}(hiv:l.iv=.slice W 0 n cap):
  callW code ext 165 [.optr 0 0,.agg [.imm (.val (.int .u8 k)),zaj .empty,.osl 1 0 2 n cap,zaa room,zaa fn],avb false] [.rich [.osl 2 0 5 T.length (some (T.length+1))],.flat W false,.flat (tObj.row (T++[zap])) false]=
   some (za1 k ((T.length+1:Nat):Int) .empty (zay (zal k room fn l)),[.rich [.osl 2 0 5 (T.length+1) (some (T.length+1))],.flat W false,.rich (zax (tObj.row (T++[zal k room fn l])) (T.length*5+2) (.osl 1 0 2 n cap))]):=by
 obtain⟨m,hs⟩:=zxn (ext:=ext) h1 (zal k room fn l) h0
 have hset:=fun v=>yg9 T k room fn l v
 have hrl:(tObj.row (T++[zal k room fn l])).length=(T++[zal k room fn l]).length*5:=zca tObj _
 rw[xak]at hrl
 simp only[xax,xaz,xaw]at hrl
 have hrf:∀v:AV,AV.refs.refsL (zax (tObj.row (T++[zal k room fn l])) (T.length*5+2) v)=v.refs:=fun v=>zdz (by omega)
 have p1:=zd0
 have hfit:(T.length+1)*5<=(tObj.row (T++[zap])).length:=by rw[zca];simp[tObj]
 generalize zay (zal k room fn l)=w at *
 simp only[zal,hiv]at hs
 rw[zad code ext h]
 unfold za1
 generalize tObj.row (T++[zal k room fn l])=R2 at *
 generalize tObj.row (T++[zap])=R at *
 simp -implicitDefEqProofs [zhl,hs,zaz,za0,zb8,elems,zbr,zhh,hset,hfit,hrf,p1]
theorem zxh(h:code 165=some zhl)(h1:code 559=some zfa){T:List Obj}(hn:T.length<=100000000)(k room fn:Int)(h0:0<=room){l:Sl tVal}(hiv:l.iv=.val (.slice none 0 0)):
  callW code ext 165 [.optr 0 0,.agg [.imm (.val (.int .u8 k)),zaj .empty,zae,zaa room,zaa fn],avb false] (za6 (tObj.row (T++[zap])) T.length (T.length+1))=
   some (za1 k ((T.length+1:Nat):Int) .empty (zay (zal k room fn l)),za6 (tObj.row (T++[zal k room fn l])) (T.length+1) (T.length+1)):=by
 obtain⟨m,hs⟩:=zxn (ext:=ext) h1 (zal k room fn l) h0
 have hset:=zsc (t:=tObj) (xs:=T++[zap]) (by decide) (i:=T.length) (by simp) (zal k room fn l)
 have hst:(T++[zap]).set T.length (zal k room fn l)=T++[zal k room fn l]:=by simp
 rw[hst]at hset
 have henc:tObj.enc (zal k room fn l)=[.val (.int .u8 k),.val (.string .empty),.val (.slice none 0 0),.val (.int .i64 room),.val (.int .i64 fn)]:=by simp[tObj,zal,hiv]
 have hz:tObj.sz=5:=rfl
 rw[henc,hz]at hset
 have hfit:(T.length+1)*5<=(tObj.row (T++[zap])).length:=by rw[zca,hz];simp
 generalize zay (zal k room fn l)=w at *
 simp only[zal,hiv]at hs
 rw[zad code ext h]
 unfold za6 za1
 generalize tObj.row (T++[zal k room fn l])=R2 at *
 generalize tObj.row (T++[zap])=R at *
 simp -implicitDefEqProofs [zhl,hs,zaz,za0,elems,hset,hfit]
end
abbrev zg6(n:Nat):Option Nat:=if n=0 then some 0 else none
section
variable {code:Nat->Option zab} {ext:zac}
theorem zm9(k room fn:Int)(l:Sl tVal)(h0:0<=room)(h1:room<=400000)(hl:l.xs.length<=400000):0<=zay (zal k room fn l)/\zay (zal k room fn l)<=1000000:=by
 have e1:IntKind.wrap .i64 (((0:Nat):Int)+7)=7:=by decide
 have e3:IntKind.wrap .i64 (2*room)=2*room:=zaw (by omega) (by omega)
 have e4:IntKind.wrap .i64 (4+2*room)=4+2*room:=zaw (by omega) (by omega)
 have e5:IntKind.wrap .i64 (2*(l.xs.length:Int))=2*(l.xs.length:Int):=zaw (by omega) (by omega)
 have e6:IntKind.wrap .i64 (2+2*(l.xs.length:Int))=2+2*(l.xs.length:Int):=zaw (by omega) (by omega)
 unfold zay zal
 dsimp only
 split
 ·rw[show(ByteArray.empty.size)=0 from rfl,e1];decide
 ·split
  ·rw[e5,e6];omega
  ·split
   ·rw[e3,e4];omega
   ·omega
theorem zrp(c:PlainFns code){nl:Bool}{T:List Obj}(hnl:nl=true->T=[])(hn:T.length<=100000000)(kk room fn:Int){l:Sl tVal}{n:Nat}{W:List IV}{cap:Option Nat}(hiv:l.iv=.slice W 0 n cap)(h0:0<=room)(h1:room<=400000)(hl:l.xs.length<=400000):
  callW code ext 212 [.optr 0 0,.agg [.imm (.val (.int .u8 kk)),zaj .empty,.osl 1 0 2 n cap,zaa room,zaa fn]] (sL nl T W 0)=
   some (zdb kk ((T.length+1:Nat):Int) .empty,sKL nl T (zal kk room fn l) W (.osl 1 0 2 n cap) (zay (zal kk room fn l))):=by
 obtain⟨m,hs⟩:=zm4 (ext:=ext) c.c578 (zal kk room fn l)
 have hww:=zm9 kk room fn l h0 h1 hl
 have hr:tObj.row (T++[zal kk room fn l])=tObj.row T++[.val (.int .u8 kk),.val (.string .empty),.slice W 0 n cap,.val (.int .i64 room),.val (.int .i64 fn)]:=by unfold Ty.row;simp[tObj,zal,hiv]
 have hr1:tObj.row [zal kk room fn l]=[.val (.int .u8 kk),.val (.string .empty),.slice W 0 n cap,.val (.int .i64 room),.val (.int .i64 fn)]:=by unfold Ty.row;simp[tObj,zal,hiv]
 have hrl:=zca tObj T
 have hrs:=z3i (R:=tObj.row T) (p:=T.length*5) hrl (.val (.int .u8 kk)) (.val (.string .empty)) (.slice W 0 n cap) (.val (.int .i64 room)) (.val (.int .i64 fn)) (.osl 1 0 2 n cap)
 rw[<-hr]at hrs
 have hrf:=zdz (R:=tObj.row (T++[zal kk room fn l])) (p:=T.length*5+2) (v:=.osl 1 0 2 n cap) (by rw[hr,xak,hrl];simp[tObj])
 have p1:=zd0
 obtain⟨w,hwe⟩:∃w,w=zay (zal kk room fn l):=⟨_,rfl⟩
 have hc2:cut (tObj.row T) 0 (T.length*5)=some (tObj.row T):=zec tObj T
 rw[<-hwe]at hs hww
 have htk:=zwv (ext:=ext) c.c218 nl T hww.1 hww.2
 simp only[zal,hiv]at hs
 rw[zad code ext c.c212]
 cases nl with
 |true=>
  have hT:=hnl rfl
  subst hT
  unfold sM sL sKL at *
  rw[hr1,<-hwe]
  simp only[if_true]at htk ⊢
  simp -implicitDefEqProofs [zi8,hs,htk,zaz,za0,zb8,zbr,elems,zax]
 |false=>
  unfold sM sL sKL at *
  rw[<-hwe]
  simp only[xan,if_false]at htk ⊢
  clear hr hr1
  generalize tObj.row (T++[zal kk room fn l])=R1 at *
  generalize tObj.row T=R0 at *
  have hle:(T.length+1)*64<=140737488355328:=by omega
  have hno:¬(T.length+1<=T.length):=by omega
  generalize T.length=N at *
  simp -implicitDefEqProofs [zi8,hs,htk,zaz,za0,zb8,zbr,elems,hc2,hle,hno,hrs,hrf,p1]
theorem yd0(c:PlainFns code){nl:Bool}{T:List Obj}(hnl:nl=true->T=[])(hn:T.length<=100000000)(kk room fn:Int){l:Sl tVal}(hiv:l.iv=.val (.slice none 0 0))(h0:0<=room)(h1:room<=400000)(hl:l.xs.length<=400000):
  callW code ext 212 [.optr 0 0,.agg [.imm (.val (.int .u8 kk)),zaj .empty,zae,zaa room,zaa fn]] (sM nl T)=
   some (zdb kk ((T.length+1:Nat):Int) .empty,sK nl T (zal kk room fn l) (zay (zal kk room fn l))):=by
 obtain⟨m,hs⟩:=zm4 (ext:=ext) c.c578 (zal kk room fn l)
 obtain⟨w0,w1⟩:=zm9 kk room fn l h0 h1 hl
 have hr:tObj.row (T++[zal kk room fn l])=tObj.row T++[.val (.int .u8 kk),.val (.string .empty),.val (.slice none 0 0),.val (.int .i64 room),.val (.int .i64 fn)]:=by unfold Ty.row;simp[tObj,zal,hiv]
 have hc:cut (tObj.row T) 0 (T.length*5)=some (tObj.row T):=zec tObj T
 generalize zay (zal kk room fn l)=w at *
 have htk:=zwv (ext:=ext) c.c218 nl T w0 w1
 simp only[zal,hiv]at hs
 cases nl with
 |true=>
  have hT:=hnl rfl
  subst hT
  have hr0:tObj.row ([]:List Obj)=[]:=rfl
  rw[hr0]at hr
  simp only[xa7]at hr
  rw[zad code ext c.c212]
  unfold sM sK at *
  simp only[if_true,xa7]at htk ⊢
  rw[hr]
  simp -implicitDefEqProofs [zi8,hs,htk,zaz,za0,elems]
 |false=>
  rw[zad code ext c.c212]
  unfold sM sK at *
  rw[hr]
  simp only[xan,if_false]at htk
  generalize tObj.row T=R at *
  have hle:(T.length+1)*64<=140737488355328:=by omega
  have hno:¬(T.length+1<=T.length):=by omega
  generalize T.length=N at *
  simp -implicitDefEqProofs [zi8,hs,htk,zaz,za0,elems,hc,hle,hno]
theorem z7n(h:code 742=some zda){row:List IV}{off:Nat}{cap:Option Nat}:callW code ext 742 [.imm (.slice row off 0 cap)] []=some (.osl 0 0 2 0 (some 0),[.flat [] false]):=by
 rw[zad code ext h]
 simp -implicitDefEqProofs [zda,zaz,za0,elems,cut]
theorem zvi(h:code 742=some zda){lv:IV}{xs:List Val}(hr:zak tVal lv xs)(hz:zbt lv=false)(hl:xs.length<=1000000000):
  callW code ext 742 [.imm lv] []=some (.osl 0 0 2 xs.length (zg6 xs.length),[.flat (tVal.row xs) false]):=by
 by_cases h0:xs.length=0
 ·have hx:=xat h0
  subst hx
  obtain⟨_,_,hq⟩:=hr
  rcases hq with⟨rfl,_⟩|⟨row,off,cap,rfl,_⟩
  ·simp[zbt]at hz
  ·exact z7n h
 ·obtain⟨x0,hx0⟩:∃x,xs[0]?=some x:=⟨_,xaa (by omega)⟩
  obtain⟨row,off,cap,rfl,_,hcut,_⟩:=zbv hr hx0
  rw[show zg6 xs.length=none from if_neg h0]
  exact zvj h (R:=tVal.row xs) hcut (by omega) hl
end
abbrev sKQ(T:List Obj)(L:List IV)(o:Obj)(W:List IV)(n:Nat)(cap:Option Nat)(w:Int):Mem:=
 [.rich [.osl 3 0 5 (T.length+1) none,zaa 1152921504606846976,zaa w],.flat L false,.flat (tObj.row T) false,.rich (zax (tObj.row (T++[o])) (T.length*5+2) (.osl 4 0 2 n cap)),.flat W false]
section
variable {code:Nat->Option zab} {ext:zac}
theorem z8j(c:PlainFns code){T:List Obj}(hn:T.length<=100000000){lv:IV}{xs:List Val}(hr:zak tVal lv xs)(hz:zbt lv=false)(hl:xs.length<=60000)(h7:(xs.any fun v=>decide (v.k=7))=false)(l:Sl tVal)(hx:l.xs=xs)(hiv:l.iv=.slice (tVal.row xs) 0 xs.length (zg6 xs.length)):
  callW code ext 206 [.optr 0 0,.agg [.imm (.val (.int .u8 22)),zaa 0,.imm lv,zae]] (sM false T)=
   some (zdb 4 ((T.length+1:Nat):Int) .empty,sKP false T (zal 4 xs.length 0 l) (tVal.row xs) xs.length (zg6 xs.length) (zay (zal 4 xs.length 0 l))):=by
 obtain⟨m,f1⟩:=zoc (ext:=ext) c.c580 hr (by omega)
 rw[h7]at f1
 have elen:=zau hr
 have f2:=zvi (ext:=ext) c.c742 hr hz (by omega)
 have f3:=zrp (ext:=ext) c (nl:=false) (by simp) hn 4 xs.length 0 hiv (by omega) (by omega) (by rw[hx];omega)
 have p1:=zd0
 have e1:¬(65536:Int)<xs.length:=by omega
 have e1':¬65536<xs.length:=by omega
 have hrf:∀v:AV,AV.refs.refsL (zax (tObj.row (T++[zal 4 xs.length 0 l])) (T.length*5+2) v)=v.refs:=fun v=>zdz (by rw[zca];simp[tObj];omega)
 rw[zad code ext c.c206]
 unfold sM sL sKL sKP at *
 simp only[xan,if_false]at f3 ⊢
 generalize zay (zal 4 xs.length 0 l)=w at *
 generalize tObj.row (T++[zal 4 xs.length 0 l])=R1 at *
 generalize tObj.row T=R0 at *
 generalize tVal.row xs=W at *
 generalize zg6 xs.length=cp at *
 generalize xs.length=n at *
 generalize T.length=N at *
 simp -implicitDefEqProofs [zfq,f1,f2,f3,elen,e1,hrf,p1]
theorem z8e(c:PlainFns code){T:List Obj}(hn:T.length<=100000000){v:Val}(hw:tVal.wf v)(h7:v.k≠7)(l:Sl tVal)(hx:l.xs=[v])(hiv:l.iv=.slice (tVal.row [v]) 0 1 none):
  callW code ext 206 [.optr 0 0,.agg [.imm (.val (.int .u8 7)),zaa 0,.osl 1 0 2 1 (some 1),zae]] (sL false T (tVal.row [v]) 0)=
   some (zdb 7 ((T.length+1:Nat):Int) .empty,sKQ T (tVal.row [v]) (zal 7 0 0 l) (tVal.row [v]) 1 none (zay (zal 7 0 0 l))):=by
 have hr:zak tVal (.slice (tVal.row [v]) 0 1 (some 1)) [v]:=zi0 _ _ (fun x hx=>by rw[xav.1 hx];exact hw) (by simp) (fun c h=>by cases h;exact xap _)
 obtain⟨m,f1⟩:=zoc (ext:=ext) c.c580 hr (by simp)
 have ha:([v].any fun v=>decide (v.k=7))=false:=by simpa using h7
 rw[ha]at f1
 have f2:=zvi (ext:=ext) c.c742 hr rfl (by simp)
 have f3:=zrp (ext:=ext) c (nl:=false) (by simp) hn 7 0 0 hiv (by omega) (by omega) (by rw[hx];simp)
 rw[show zg6 ([v]:List Val).length=none from rfl,show([v]:List Val).length=1 from rfl]at f2
 have p1:=zd0
 have hrf:∀v:AV,AV.refs.refsL (zax (tObj.row (T++[zal 7 0 0 l])) (T.length*5+2) v)=v.refs:=fun v=>zdz (by rw[zca];simp[tObj];omega)
 have hrow:tVal.row [v]=[.val (.int .u8 v.k),.val (.int .i64 v.n)]:=rfl
 rw[hrow]at f1 f2 f3 ⊢
 rw[zad code ext c.c206]
 unfold sL sKL sKQ at *
 simp only[xan,if_false]at f3 ⊢
 generalize zay (zal 7 0 0 l)=w at *
 generalize tObj.row (T++[zal 7 0 0 l])=R1 at *
 generalize tObj.row T=R0 at *
 generalize T.length=N at *
 simp -implicitDefEqProofs [zfq,f1,f2,f3,hrf,p1]
theorem z2g(h:code 207=some zj6)(v:Val):callW code ext 207 [.agg [.imm (.val (.int .u8 v.k)),zaa v.n]] []=some (avb (decide (v.k≠7)),[]):=by
 rw[zad code ext h]
 by_cases h7:v.k=7
 ·simp -implicitDefEqProofs [zj6,h7]
 ·simp -implicitDefEqProofs [zj6,h7]
theorem zv9(h:code 641=some zkd)(sv:IV)(v:Val){b:Bool}(hc:callW code ext 646 [.imm sv,.agg [.imm (.val (.int .u8 v.k)),zaa v.n]] []=some (avb b,[])):
  callW code ext 641 [.agg [.imm (.val (.int .u8 v.k)),zaa v.n],.optr 0 0] [.rich [.imm sv]]=some (avb (!b),[.rich [.imm sv]]):=by
 rw[zad code ext h]
 cases b<;>simp -implicitDefEqProofs [zkd,hc]
end
section
variable {code:Nat->Option zab} {ext:zac}
theorem zu8(c749:code 749=some zbf)(c759:code 759=some zbc){sv:IV}{lv:IV}{vs:List Val}(hr:zak tVal lv vs)(hl:vs.length<=60000){bad:Val->Bool}(h:∀v∈vs,callW code ext 641 [.agg [.imm (.val (.int .u8 v.k)),zaa v.n],.optr 0 0] [.rich [.imm sv]]=some (avb (bad v),[.rich [.imm sv]])):
  callW code ext 749 [.imm lv,.clo 641 [.optr 0 0]] [.rich [.imm sv]]=some (avb (vs.any bad),[.rich [.imm sv]]):=by
 have elen:=zau hr
 have loop:∃e s',den code ext (.loop [0,1,7,8] zet) ⟨1,[(0,.imm lv),(1,.clo 641 [.optr 0 0]),(7,zaa vs.length),(8,zaa 0)],[.rich [.imm sv]]⟩=some (e,s')/\e≠ .normal/\
   ((e=.exit 0/\vs.any bad=false/\s'=⟨1,[(0,.imm lv),(1,.clo 641 [.optr 0 0]),(7,zaa vs.length),(8,zaa vs.length),(9,avb false)],[.rich [.imm sv]]⟩)\/
    (e=.ret/\vs.any bad=true/\∃i:Nat,i<vs.length/\s'=⟨1,[(4,zaa i)],[.rich [.imm sv]]⟩)):=by
  refine zbu (fun n s=>∃(i:Nat),i+n=vs.length/\(∀v∈vs.take i,bad v=false)/\s=⟨1,[(0,.imm lv),(1,.clo 641 [.optr 0 0]),(7,zaa vs.length),(8,zaa (i:Nat))],[.rich [.imm sv]]⟩) _ ?_ vs.length _ ⟨0,by simp,by simp,rfl⟩
  rintro n _ ⟨i,hi,hno,rfl⟩
  by_cases hlt:i<vs.length
  ·have e1:IntKind.wrap .i64 ((i:Int)+1)=(i:Int)+1:=zaw (by omega) (by omega)
   obtain⟨v,hv⟩:∃v,vs[i]?=some v:=⟨_,xaa hlt⟩
   obtain⟨row,off,cap,rfl,_,_,hcut⟩:=zbv hr hv
   have hs:=h _ (xah hv)
   have hget':cut row (off+i*2) 2=some [.val (.int .u8 v.k),.val (.int .i64 v.n)]:=hcut
   cases hb:bad v with
   |false=>
    rw[hb]at hs
    refine⟨.normal,⟨1,[(0,.imm (.slice row off vs.length cap)),(1,.clo 641 [.optr 0 0]),(7,zaa vs.length),(8,zaa ((i:Int)+1))],[.rich [.imm sv]]⟩,?_,.inl ⟨rfl,n-1,by omega,i+1,by omega,fun y hy=>?_,rfl⟩⟩
    ·clear h
     generalize vs.length=n at *
     simp -implicitDefEqProofs [zet,hlt,hget',hs,e1]
    ·rw[xbg,hv]at hy
     rcases xaj.1 hy with hy|hy
     ·exact hno y hy
     ·simp at hy;subst hy;exact hb
   |true=>
    rw[hb]at hs
    refine⟨.ret,⟨1,[(4,zaa i)],[.rich [.imm sv]]⟩,?_,.inr ⟨by simp,.inr ⟨rfl,xcc.2 ⟨v,xah hv,hb⟩,i,hlt,rfl⟩⟩⟩
    clear h
    generalize vs.length=n at *
    simp -implicitDefEqProofs [zet,hlt,hget',hs,e1]
  ·have:i=vs.length:=by omega
   subst this
   rw[xbp]at hno
   have ha:vs.any bad=false:=by
    rw[xb3]
    intro y hy
    rw[hno y hy];decide
   refine⟨.exit 0,_,?_,.inr ⟨by simp,.inl ⟨rfl,ha,rfl⟩⟩⟩
   generalize vs.length=n at *
   simp -implicitDefEqProofs [zet]
 obtain⟨e,s',g1,_,⟨rfl,ha,rfl⟩|⟨rfl,ha,i,hi,rfl⟩⟩:=loop
 ·rw[ha]
  have h759:callW code ext 759 [.imm lv,.clo 641 [.optr 0 0]] [.rich [.imm sv]]=some (zaa (-1),[.rich [.imm sv]]):=by
   rw[zad code ext c759]
   clear h
   generalize vs.length=n at *
   simp -implicitDefEqProofs [zbc,g1,elen]
  rw[zad code ext c749]
  clear h g1
  simp -implicitDefEqProofs [zbf,h759]
 ·rw[ha]
  have h759:callW code ext 759 [.imm lv,.clo 641 [.optr 0 0]] [.rich [.imm sv]]=some (zaa i,[.rich [.imm sv]]):=by
   rw[zad code ext c759]
   clear h
   generalize vs.length=n at *
   simp -implicitDefEqProofs [zbc,g1,elen]
  rw[zad code ext c749]
  clear h g1
  simp -implicitDefEqProofs [zbf,h759]
theorem zy3(c749:code 749=some zbf)(c759:code 759=some zbc){lv:IV}{vs:List Val}(hr:zak tVal lv vs)(hl:vs.length<=60000){bad:Val->Bool}(h:∀v∈vs,callW code ext 207 [.agg [.imm (.val (.int .u8 v.k)),zaa v.n]] []=some (avb (bad v),[])):
  callW code ext 749 [.imm lv,.clo 207 []] []=some (avb (vs.any bad),[]):=by
 have elen:=zau hr
 have loop:∃e s',den code ext (.loop [0,1,7,8] zet) ⟨0,[(0,.imm lv),(1,.clo 207 []),(7,zaa vs.length),(8,zaa 0)],[]⟩=some (e,s')/\e≠ .normal/\
   ((e=.exit 0/\vs.any bad=false/\s'=⟨0,[(0,.imm lv),(1,.clo 207 []),(7,zaa vs.length),(8,zaa vs.length),(9,avb false)],[]⟩)\/
    (e=.ret/\vs.any bad=true/\∃i:Nat,i<vs.length/\s'=⟨0,[(4,zaa i)],[]⟩)):=by
  refine zbu (fun n s=>∃(i:Nat),i+n=vs.length/\(∀v∈vs.take i,bad v=false)/\s=⟨0,[(0,.imm lv),(1,.clo 207 []),(7,zaa vs.length),(8,zaa (i:Nat))],[]⟩) _ ?_ vs.length _ ⟨0,by simp,by simp,rfl⟩
  rintro n _ ⟨i,hi,hno,rfl⟩
  by_cases hlt:i<vs.length
  ·have e1:IntKind.wrap .i64 ((i:Int)+1)=(i:Int)+1:=zaw (by omega) (by omega)
   obtain⟨v,hv⟩:∃v,vs[i]?=some v:=⟨_,xaa hlt⟩
   obtain⟨row,off,cap,rfl,_,_,hcut⟩:=zbv hr hv
   have hs:=h _ (xah hv)
   have hget':cut row (off+i*2) 2=some [.val (.int .u8 v.k),.val (.int .i64 v.n)]:=hcut
   cases hb:bad v with
   |false=>
    rw[hb]at hs
    refine⟨.normal,⟨0,[(0,.imm (.slice row off vs.length cap)),(1,.clo 207 []),(7,zaa vs.length),(8,zaa ((i:Int)+1))],[]⟩,?_,.inl ⟨rfl,n-1,by omega,i+1,by omega,fun y hy=>?_,rfl⟩⟩
    ·clear h
     generalize vs.length=n at *
     simp -implicitDefEqProofs [zet,hlt,hget',hs,e1]
    ·rw[xbg,hv]at hy
     rcases xaj.1 hy with hy|hy
     ·exact hno y hy
     ·simp at hy;subst hy;exact hb
   |true=>
    rw[hb]at hs
    refine⟨.ret,⟨0,[(4,zaa i)],[]⟩,?_,.inr ⟨by simp,.inr ⟨rfl,xcc.2 ⟨v,xah hv,hb⟩,i,hlt,rfl⟩⟩⟩
    clear h
    generalize vs.length=n at *
    simp -implicitDefEqProofs [zet,hlt,hget',hs,e1]
  ·have:i=vs.length:=by omega
   subst this
   rw[xbp]at hno
   have ha:vs.any bad=false:=by
    rw[xb3]
    intro y hy
    rw[hno y hy];decide
   refine⟨.exit 0,_,?_,.inr ⟨by simp,.inl ⟨rfl,ha,rfl⟩⟩⟩
   generalize vs.length=n at *
   simp -implicitDefEqProofs [zet]
 obtain⟨e,s',g1,_,⟨rfl,ha,rfl⟩|⟨rfl,ha,i,hi,rfl⟩⟩:=loop
 ·rw[ha]
  have h759:callW code ext 759 [.imm lv,.clo 207 []] []=some (zaa (-1),[]):=by
   rw[zad code ext c759]
   clear h
   generalize vs.length=n at *
   simp -implicitDefEqProofs [zbc,g1,elen]
  rw[zad code ext c749]
  clear h g1
  simp -implicitDefEqProofs [zbf,h759]
 ·rw[ha]
  have h759:callW code ext 759 [.imm lv,.clo 207 []] []=some (zaa i,[]):=by
   rw[zad code ext c759]
   clear h
   generalize vs.length=n at *
   simp -implicitDefEqProofs [zbc,g1,elen]
  rw[zad code ext c749]
  clear h g1
  simp -implicitDefEqProofs [zbf,h759]
end
abbrev zf5(T:List Obj)(xs:List Val)(k:Val):Mem:=[.rich [.osl 2 0 5 T.length (some T.length),zaa 1152921504606846976,zaa 0],.flat (tVal.row xs) false,.flat (tObj.row T) false,.rich [.imm (.val (.int .u8 k.k)),zaa k.n]]
abbrev zhu(n:Nat)(i:Nat):Env:=[(0,.optr 0 0),(1,.osl 1 0 2 n none),(5,.optr 3 0),(7,zaa i)]
section
variable {code:Nat->Option zab} {ext:zac}
set_option maxHeartbeats 1000000 in
theorem yce (c:PlainFns code) {T:List Obj} (hn:T.length<=100000000) {xs:List Val} (hl:xs.length<=1000000) {k:Val} (hk:zch T k) (hx:∀(j:Nat) a,xs[2*j]?=some a->zch T a):
  ∀(m:Nat) (st:St),(∃j,m+2*j=xs.length+2/\(∀(i:Nat) b,i<j->xs[2*i]?=some b->zej T b k=false)/\st.tidy [0,1,5,7]=⟨3,zhu xs.length (2*j),zf5 T xs k⟩)->
   ∃x s',den code ext (.loop [0,1,5,7] zg0) st=some (x,s')/\x≠ .normal/\∃r,AtV T xs k r/\((x=.exit 0/\r= -1/\∃env,s'=⟨3,env,zf5 T xs k⟩)\/(x=.ret/\s'=⟨3,[(6,zaa r)],zf5 T xs k⟩)):=by
 refine zbu _ _ ?_
 rintro m st ⟨j,hm,hno,hst⟩
 rw[hst]
 by_cases hlt:2*j<xs.length
 ·obtain⟨a,ha⟩:∃a,xs[2*j]?=some a:=⟨_,xaa hlt⟩
  have hcut:=ze1 (t:=tVal) ha
  have hcut':cut (tVal.row xs) ((2*j)*2) 2=some [.val (.int .u8 a.k),.val (.int .i64 a.n)]:=hcut
  have f1:=z2i (ext:=ext) c (nl:=false) (T:=T) (by simp) hn (hx j a ha) hk
  obtain⟨i,hi⟩:∃i,i=2*j:=⟨_,rfl⟩
  obtain⟨i2,hi2⟩:∃i2,i2=2*j+2:=⟨_,rfl⟩
  have hjj:2*(j+1)=i2:=by omega
  rw[<-hi]at hcut' hlt ⊢
  have e1:(i:Int)<xs.length:=by omega
  have e2:IntKind.wrap .i64 ((i:Int)+2)=(i2:Int):=by rw[zaw (by omega) (by omega)];omega
  clear hcut
  cases hs:zej T a k with
  |true=>
   rw[hs]at f1
   refine⟨.ret,⟨3,[(6,zaa i)],zf5 T xs k⟩,?_,.inr ⟨by simp,(i:Int),.inr ⟨j,a,by omega,ha,hs,hno⟩,.inr ⟨rfl,rfl⟩⟩⟩
   unfold sM at f1
   simp only[xan,if_false]at f1
   simp only[zf5,zhu]
   generalize tObj.row T=R at *
   generalize tVal.row xs=W at *
   generalize T.length=N at *
   generalize xs.length=n at *
   simp -implicitDefEqProofs [zg0,f1,hcut',e1,zdc]
  |false=>
   rw[hs]at f1
   refine⟨.normal,⟨3,zhu xs.length i2,zf5 T xs k⟩,?_,.inl ⟨rfl,m-2,by omega,j+1,by omega,?_,?_⟩⟩
   ·unfold sM at f1
    simp only[xan,if_false]at f1
    simp only[zf5,zhu]
    generalize tObj.row T=R at *
    generalize tVal.row xs=W at *
    generalize T.length=N at *
    generalize xs.length=n at *
    simp -implicitDefEqProofs [zg0,f1,hcut',e1,e2,zdc]
   ·intro q b hq hb
    by_cases hqj:q=j
    ·subst hqj
     rw[ha]at hb
     cases hb
     exact hs
    ·exact hno q b (by omega) hb
   ·rw[hjj]
    simp only[zf5,zhu]
    generalize tObj.row T=R at *
    generalize tVal.row xs=W at *
    generalize T.length=N at *
    generalize xs.length=n at *
    simp -implicitDefEqProofs []
 ·refine⟨.exit 0,⟨3,zhu xs.length (2*j)++[(11,avb false)],zf5 T xs k⟩,?_,.inr ⟨by simp,-1,.inl ⟨rfl,fun q b hb=>?_⟩,.inl ⟨rfl,rfl,_,rfl⟩⟩⟩
  ·obtain⟨i,hi⟩:∃i,i=2*j:=⟨_,rfl⟩
   rw[<-hi]at hlt ⊢
   have e1:¬(i:Int)<xs.length:=by omega
   simp only[zf5,zhu]
   generalize tObj.row T=R at *
   generalize tVal.row xs=W at *
   generalize T.length=N at *
   generalize xs.length=n at *
   simp -implicitDefEqProofs [zg0,e1]
  ·have:=(xab.1 hb).1
   exact hno q b (by omega) hb
theorem ycd(c:PlainFns code){T:List Obj}(hn:T.length<=100000000){xs:List Val}(hl:xs.length<=1000000){k:Val}(hk:zch T k)(hx:∀(j:Nat) a,xs[2*j]?=some a->zch T a){r:Int}(hr:AtV T xs k r):
  callW code ext 209 [.optr 0 0,.osl 1 0 2 xs.length none,.agg [.imm (.val (.int .u8 k.k)),zaa k.n]] (sL false T (tVal.row xs) 0)=
   some (zaa r,sL false T (tVal.row xs) 0):=by
 obtain⟨x,s',h1,_,r',hr1,hq⟩:=yce (code:=code) (ext:=ext) c hn hl hk hx (xs.length+2) ⟨3,zhu xs.length 0,zf5 T xs k⟩ ⟨0,by omega,fun i b hi=>absurd hi (xcw i),by
  simp only[zf5,zhu]
  generalize tObj.row T=R at *
  generalize tVal.row xs=W at *
  generalize T.length=N at *
  generalize xs.length=n at *
  simp -implicitDefEqProofs []⟩
 have hrr:=zqy hr hr1
 subst hrr
 rw[zad code ext c.c209]
 unfold sL
 simp only[xan,if_false]
 simp only[zf5,zhu,xcm]at *
 clear hr hr1 hx
 generalize tObj.row T=R at *
 generalize tVal.row xs=W at *
 generalize T.length=N at *
 generalize xs.length=n at *
 rcases hq with⟨rfl,rfl,env,rfl⟩|⟨rfl,rfl⟩
 ·simp -implicitDefEqProofs [zif,h1]
 ·simp -implicitDefEqProofs [zif,h1]
end
set_option maxHeartbeats 4000000
structure LAt (l:Sl tVal) (ys:List Val) (cap:Option Nat):Prop where
 xs:l.xs=ys
 iv:l.iv=if ys.length=0 then .val (.slice none 0 0)else .slice (tVal.row ys) 0 ys.length cap
def zh0(T:List Obj)(o:Obj)(cap:Option Nat):Mem:=
 if o.l.xs.length=0 then za6 (tObj.row (T++[o])) (T.length+1) (T.length+1)
 else[.rich [.osl 1 0 5 (T.length+1) (some (T.length+1))],.rich (zax (tObj.row (T++[o])) (T.length*5+2) (.osl 2 0 2 o.l.xs.length cap)),.flat (tVal.row o.l.xs) false]
structure zek (code:Nat->Option zab):Prop where
 c151:code 151=some zsw
 c153:code 153=some zsx
 c156:code 156=some zp6
 c157:code 157=some zp7
 c161:code 161=some zie
 c163:code 163=some zj5
 c164:code 164=some zsy
 c165:code 165=some zhl
 c166:code 166=some zhm
 c559:code 559=some zfa
 c562:code 562=some zll
def zjb(code:Nat->Option zab)(ext:zac)(T:List Obj)(lv:IV)(b:Bool):Prop:=
 ∃m,callW code ext 152 [.imm (.ptr [.slice (tObj.row (T++[zap])) 0 T.length (some (T.length+1))] 0),.imm lv] []=some (avb b,m)
section
variable {code:Nat->Option zab} {ext:zac} {T:List Obj}
theorem yf8(c:zek code){lv:IV}(hf:zjb code ext T lv false):
  callW code ext 156 [.optr 0 0,.imm lv,avb false] (za6 (tObj.row (T++[zap])) T.length (T.length+1))=some (za1 0 0 zcg 0,za6 (tObj.row (T++[zap])) T.length (T.length+1)):=by
 obtain⟨m1,hf⟩:=hf
 obtain⟨m2,hk⟩:=zm6 (ext:=ext) c.c562 zcg
 rw[zad code ext c.c156]
 unfold za6 za1 at *
 generalize tObj.row (T++[zap])=R at *
 simp -implicitDefEqProofs [zp6,hf,hk]
theorem yf9 (c:zek code) (hn:T.length<=1000000) {lv:IV} {xs:List Val} (hr:zak tVal lv xs) (hl:xs.length<=60000) (hf:zjb code ext T lv true) {l:Sl tVal} (hla:LAt l xs none):
  callW code ext 156 [.optr 0 0,.imm lv,avb false] (za6 (tObj.row (T++[zap])) T.length (T.length+1))=some (za1 4 ((T.length+1:Nat):Int) .empty (zay (zal 4 xs.length 0 l)),zh0 T (zal 4 xs.length 0 l) none):=by
 obtain⟨m1,hf⟩:=hf
 have f3:∀m,elems m 2 (.imm lv)=some (xs.length,tVal.row xs):=fun m=>zq5 (t:=tVal) m hr
 have f4:=zau hr
 have e0:¬(65536:Int)<xs.length:=by omega
 have hsz:xs.length*16<=140737488355328:=by omega
 have hox:(zal 4 xs.length 0 l).l.xs=xs:=hla.xs
 have hiv:=hla.iv
 unfold zh0
 rw[hox]
 rw[zad code ext c.c156]
 by_cases h0:xs.length=0
 ·rw[if_pos h0]at hiv ⊢
  have f1:=zxh (ext:=ext) c.c165 c.c559 (T:=T) (by omega) 4 xs.length 0 (by omega) hiv
  generalize zay (zal 4 xs.length 0 l)=w at *
  unfold za6 za1 at *
  generalize tObj.row (T++[zal 4 xs.length 0 l])=R2 at *
  generalize tObj.row (T++[zap])=R at *
  clear hox
  generalize xs.length=n at *
  subst h0
  simp only[xcm]at *
  simp -implicitDefEqProofs [zp6,hf,zaz,za0,f1,f3,f4]
 ·rw[if_neg h0]at hiv ⊢
  have f1:=zr5 (ext:=ext) c.c165 c.c559 (T:=T) (by omega) 4 xs.length 0 (by omega) hiv
  have hrl:(tObj.row (T++[zal 4 xs.length 0 l])).length=(T++[zal 4 xs.length 0 l]).length*5:=zca tObj _
  rw[xak]at hrl
  simp only[xax,xaz,xaw]at hrl
  have hrf:∀v:AV,AV.refs.refsL (zax (tObj.row (T++[zal 4 xs.length 0 l])) (T.length*5+2) v)=v.refs:=fun v=>zdz (by omega)
  have p1:=zd0
  generalize zay (zal 4 xs.length 0 l)=w at *
  unfold za6 za1 at *
  generalize tObj.row (T++[zal 4 xs.length 0 l])=R2 at *
  generalize tObj.row (T++[zap])=R at *
  generalize tVal.row xs=W at *
  clear hox hrl
  generalize xs.length=n at *
  simp -implicitDefEqProofs [zp6,hf,zaz,za0,f1,f3,f4,e0,h0,hsz,hrf,p1]
theorem yfg(c:zek code){v:Val}(hf:zjb code ext T (.slice [.val (.int .u8 v.k),.val (.int .i64 v.n)] 0 1 (some 1)) false):
  callW code ext 151 [.optr 0 0,zc7 v,avb false] (za6 (tObj.row (T++[zap])) T.length (T.length+1))=some (za1 0 0 zcg 0,za6 (tObj.row (T++[zap])) T.length (T.length+1)):=by
 obtain⟨m1,hf⟩:=hf
 obtain⟨m2,hk⟩:=zm6 (ext:=ext) c.c562 zcg
 unfold zc7
 rw[zad code ext c.c151]
 unfold za6 za1 at *
 generalize tObj.row (T++[zap])=R at *
 simp -implicitDefEqProofs [zsw,hf,hk]
theorem yfh (c:zek code) (hn:T.length<=1000000) {v:Val} (hf:zjb code ext T (.slice [.val (.int .u8 v.k),.val (.int .i64 v.n)] 0 1 (some 1)) true) {l:Sl tVal} (hla:LAt l [v] (some 1)):
  callW code ext 151 [.optr 0 0,zc7 v,avb false] (za6 (tObj.row (T++[zap])) T.length (T.length+1))=some (za1 7 ((T.length+1:Nat):Int) .empty (zay (zal 7 0 0 l)),zh0 T (zal 7 0 0 l) (some 1)):=by
 obtain⟨m1,hf⟩:=hf
 have hox:(zal 7 0 0 l).l.xs=[v]:=hla.xs
 have hiv:l.iv=.slice (tVal.row [v]) 0 1 (some 1):=hla.iv
 have hrow:tVal.row [v]=[.val (.int .u8 v.k),.val (.int .i64 v.n)]:=rfl
 unfold zh0
 rw[hox]
 rw[zad code ext c.c151]
 rw[if_neg (by simp)]
 have f1:=zr5 (ext:=ext) c.c165 c.c559 (T:=T) (by omega) 7 0 0 (by omega) hiv
 have hrl:(tObj.row (T++[zal 7 0 0 l])).length=(T++[zal 7 0 0 l]).length*5:=zca tObj _
 rw[xak]at hrl
 simp only[xax,xaz,xaw]at hrl
 have hrf:∀v:AV,AV.refs.refsL (zax (tObj.row (T++[zal 7 0 0 l])) (T.length*5+2) v)=v.refs:=fun v=>zdz (by omega)
 have p1:=zd0
 unfold zc7
 rw[hrow]at f1 ⊢
 generalize zay (zal 7 0 0 l)=w at *
 unfold za6 za1 at *
 generalize tObj.row (T++[zal 7 0 0 l])=R2 at *
 generalize tObj.row (T++[zap])=R at *
 simp -implicitDefEqProofs [zsw,hf,f1,hrf,p1]
end
def ze0(ck:Val->Bool)(xs:List Val):Bool:=xs.all fun v=>decide (v.k=7)&&ck v
section
variable {code:Nat->Option zab} {ext:zac} {T:List Obj}
abbrev zkv(fn:Int)(lv:IV)(i:Nat):Env:=[(0,.optr 0 0),(1,zaa fn),(2,.imm lv),(3,avb false),(8,.optr 2 0),(9,zaa i)]
abbrev zf8(R:List IV)(N:Nat)(d:List AV):Mem:=[.rich [.osl 1 0 5 N (some (N+1))],.flat R false,.rich d]
abbrev zir:List AV:=[.imm (.val (.int .u8 0)),zaa 0,zaj .empty,zaa 0]
abbrev zog:List AV:=[.imm (.val (.int .u8 0)),zaa 0,zaj zcg,zaa 0]
theorem z3g(c:zek code){R:List IV}{N:Nat}{fn:Int}{lv:IV}{xs:List Val}(hr:zak tVal lv xs)(hl:xs.length<=60000){ck:Val->Bool}
  (h5:∀v∈xs,callW code ext 500 [.imm (.slice R 0 N (some (N+1))),.agg [.imm (.val (.int .u8 v.k)),zaa v.n]] []=some (avb (ck v),[])):
  ∃e s',den code ext (.loop [0,1,2,3,8,9] zj3) ⟨2,zkv fn lv 0,zf8 R N zir⟩=some (e,s')/\e≠ .normal/\
   ((e=.exit 0/\ze0 ck xs=true/\s'=⟨2,zkv fn lv xs.length++[(13,avb false)],zf8 R N zir⟩)\/
    (e=.ret/\ze0 ck xs=false/\s'=⟨2,[(8,.optr 2 0)],zf8 R N zog⟩)):=by
 have f4:=zau hr
 obtain⟨m2,hk⟩:=zm6 (ext:=ext) c.c562 zcg
 unfold za1 at hk
 refine zbu (fun m s=>∃i:Nat,i+m=xs.length/\(∀v∈xs.take i,(decide (v.k=7)&&ck v)=true)/\s.tidy [0,1,2,3,8,9]=⟨2,zkv fn lv i,zf8 R N zir⟩) _ ?_ xs.length _ ⟨0,by simp,by simp,by simp -implicitDefEqProofs []⟩
 rintro m s ⟨i,hi,hok,hst⟩
 rw[hst]
 by_cases hlt:i<xs.length
 ·have e1:IntKind.wrap .i64 ((i:Int)+1)=(i:Int)+1:=zaw (by omega) (by omega)
  have hlt':(i:Int)<xs.length:=by omega
  obtain⟨v,hv⟩:∃v,xs[i]?=some v:=⟨_,xaa hlt⟩
  obtain⟨row,off,cap,rfl,_,_,hcut⟩:=zbv hr hv
  have hcut':cut row (off+i*2) 2=some [.val (.int .u8 v.k),.val (.int .i64 v.n)]:=hcut
  have hcell:row[off+i*2]?=some (.val (.int .u8 v.k)):=by
   have:=zai hcut' 0 (by decide)
   simpa using this
  have hmem:=xah hv
  have h5v:=h5 v hmem
  have bad:(decide (v.k=7)&&ck v)=false->ze0 ck xs=false:=fun h=>by
   unfold ze0
   cases hh:(xs.all fun v=>decide (v.k=7)&&ck v)with
   |false=>rfl
   |true=>have:=xai.1 hh v hmem;rw[h]at this;cases this
  by_cases h7:v.k=7
  ·cases hc:ck v with
   |true=>
    rw[hc,h7]at h5v
    rw[h7]at hcut' hcell
    refine⟨.normal,⟨2,zkv fn (.slice row off xs.length cap) (i+1),zf8 R N zir⟩,?_,.inl ⟨rfl,m-1,by omega,i+1,by omega,?_,?_⟩⟩
    ·generalize xs.length=n at *
     simp -implicitDefEqProofs [zj3,hlt,hlt',hcut',hcell,h5v,e1]
    ·intro y hy
     rw[xbg,hv]at hy
     rcases xaj.1 hy with hy|hy
     ·exact hok y hy
     ·simp at hy;subst hy;simp[h7,hc]
    ·generalize xs.length=n at *
     simp -implicitDefEqProofs []
   |false=>
    rw[hc,h7]at h5v
    rw[h7]at hcut' hcell
    refine⟨.ret,⟨2,[(8,.optr 2 0)],zf8 R N zog⟩,?_,.inr ⟨by simp,.inr ⟨rfl,bad (by simp[hc]),rfl⟩⟩⟩
    generalize xs.length=n at *
    simp -implicitDefEqProofs [zj3,hlt,hlt',hcut',hcell,h5v,hk]
  ·refine⟨.ret,⟨2,[(8,.optr 2 0)],zf8 R N zog⟩,?_,.inr ⟨by simp,.inr ⟨rfl,bad (by simp[h7]),rfl⟩⟩⟩
   generalize xs.length=n at *
   simp -implicitDefEqProofs [zj3,hlt,hlt',hcut',hcell,h7,hk]
 ·have:i=xs.length:=by omega
  subst this
  refine⟨.exit 0,⟨2,zkv fn lv xs.length++[(13,avb false)],zf8 R N zir⟩,?_,.inr ⟨by simp,.inl ⟨rfl,?_,rfl⟩⟩⟩
  ·generalize xs.length=n at *
   simp -implicitDefEqProofs [zj3,f4]
  ·unfold ze0
   rw[xai]
   rw[xbp]at hok
   exact hok
theorem yfz(c:zek code){fn:Int}{lv:IV}{xs:List Val}(hr:zak tVal lv xs)(hl:xs.length<=60000){ck:Val->Bool}
  (h5:∀v∈xs,callW code ext 500 [.imm (.slice (tObj.row (T++[zap])) 0 T.length (some (T.length+1))),.agg [.imm (.val (.int .u8 v.k)),zaa v.n]] []=some (avb (ck v),[])) (hb:ze0 ck xs=false):
  callW code ext 153 [.optr 0 0,zaa fn,.imm lv,avb false] (za6 (tObj.row (T++[zap])) T.length (T.length+1))=some (za1 0 0 zcg 0,za6 (tObj.row (T++[zap])) T.length (T.length+1)):=by
 obtain⟨e,s',h1,_,⟨rfl,hc,rfl⟩|⟨rfl,hc,rfl⟩⟩:=z3g (code:=code) (ext:=ext) c (fn:=fn) hr hl h5
 ·rw[hb]at hc;cases hc
 ·simp only[zkv,zf8,zir,zog,xcm,xbo,xa7]at h1
  rw[zad code ext c.c153]
  unfold zsx
  generalize zj3=L at *
  unfold za6 za1 at *
  generalize tObj.row (T++[zap])=R at *
  generalize T.length=N at *
  simp -implicitDefEqProofs [h1]
set_option maxHeartbeats 4000000 in
theorem yf0 (c:zek code) (hn:T.length<=1000000) {fn:Int} {lv:IV} {xs:List Val} (hr:zak tVal lv xs) (hl:xs.length<=60000) {ck:Val->Bool}
  (h5:∀v∈xs,callW code ext 500 [.imm (.slice (tObj.row (T++[zap])) 0 T.length (some (T.length+1))),.agg [.imm (.val (.int .u8 v.k)),zaa v.n]] []=some (avb (ck v),[])) (hb:ze0 ck xs=true) {l:Sl tVal} (hla:LAt l xs none):
  callW code ext 153 [.optr 0 0,zaa fn,.imm lv,avb false] (za6 (tObj.row (T++[zap])) T.length (T.length+1))=some (za1 6 ((T.length+1:Nat):Int) .empty (zay (zal 6 0 fn l)),zh0 T (zal 6 0 fn l) none):=by
 obtain⟨e,s',h1,_,h2⟩:=z3g (code:=code) (ext:=ext) c (fn:=fn) hr hl h5
 rcases h2 with h2|⟨_,hc,_⟩
 case inr=>rw[hb]at hc;cases hc
 obtain⟨rfl,hc,rfl⟩:=h2
 simp only[zkv,zf8,zir,zog,xcm,xbo,xa7]at h1
 have f3:∀m,elems m 2 (.imm lv)=some (xs.length,tVal.row xs):=fun m=>zq5 (t:=tVal) m hr
 have hsz:xs.length*16<=140737488355328:=by omega
 have hox:(zal 6 0 fn l).l.xs=xs:=hla.xs
 have hiv:=hla.iv
 unfold zh0
 rw[hox]
 rw[zad code ext c.c153]
 unfold zsx
 generalize zj3=L at *
 by_cases h0:xs.length=0
 ·rw[if_pos h0]at hiv ⊢
  have f1:=zxh (ext:=ext) c.c165 c.c559 (T:=T) (by omega) 6 0 fn (by omega) hiv
  generalize zay (zal 6 0 fn l)=w at *
  unfold za6 za1 at *
  generalize tObj.row (T++[zal 6 0 fn l])=R2 at *
  generalize tObj.row (T++[zap])=R at *
  clear hox h5 hb hc
  generalize xs.length=n at *
  generalize T.length=N at *
  subst h0
  simp only[xcm]at *
  simp -implicitDefEqProofs [h1,zaz,za0,f1,f3]
 ·rw[if_neg h0]at hiv ⊢
  have f1:=zr5 (ext:=ext) c.c165 c.c559 (T:=T) (by omega) 6 0 fn (by omega) hiv
  have hrl:(tObj.row (T++[zal 6 0 fn l])).length=(T++[zal 6 0 fn l]).length*5:=zca tObj _
  rw[xak]at hrl
  simp only[xax,xaz,xaw]at hrl
  have hrf:∀v:AV,AV.refs.refsL (zax (tObj.row (T++[zal 6 0 fn l])) (T.length*5+2) v)=v.refs:=fun v=>zdz (by omega)
  have p1:=zd0
  generalize zay (zal 6 0 fn l)=w at *
  unfold za6 za1 at *
  generalize tObj.row (T++[zal 6 0 fn l])=R2 at *
  generalize tObj.row (T++[zap])=R at *
  generalize tVal.row xs=W at *
  clear hox hrl h5 hb hc
  generalize xs.length=n at *
  generalize T.length=N at *
  simp -implicitDefEqProofs [h1,zaz,za0,f1,f3,h0,hsz,hrf,p1]
end
noncomputable def atI(T:List Obj)(xs:List Val)(k:Val):Int:=Classical.choose (zy6 T xs k)
theorem zqx(T:List Obj)(xs:List Val)(k:Val):AtV T xs k (atI T xs k):=xcn (zy6 T xs k)
noncomputable def zdf(T:List Obj)(acc:List Val)(a b:Val):List Val:=if atI T acc a<0 then acc++[a,b]else acc.set ((atI T acc a).toNat+1) b
noncomputable def zbo(T:List Obj):List Val->List Val->List Val
 |acc,a::b::r=>zbo T (zdf T acc a b) r
 |acc,_=>acc
theorem zw3{T:List Obj}{acc:List Val}{a b:Val}:(zdf T acc a b).length=acc.length\/(zdf T acc a b).length=acc.length+2:=by
 unfold zdf
 split
 ·right;simp
 ·left;simp
theorem zw4{T:List Obj}{acc:List Val}{a b y:Val}(h:y∈zdf T acc a b):y∈acc\/y=a\/y=b:=by
 unfold zdf at h
 split at h
 ·simpa using h
 ·rcases List.mem_or_eq_of_mem_set h with h|h
  ·exact .inl h
  ·exact .inr (.inr h)
theorem zo5{T:List Obj}:∀(n:Nat) (acc xs:List Val),xs.length<=n->acc.length%2=0->(zbo T acc xs).length%2=0/\(zbo T acc xs).length<=acc.length+xs.length/\∀y∈zbo T acc xs,y∈acc\/y∈xs
 |n,acc,[],h,h2=>⟨by simpa [zbo]using h2,by simp[zbo],fun y hy=>.inl (by simpa [zbo]using hy)⟩
 |n,acc,[a],h,h2=>⟨by simpa [zbo]using h2,by simp[zbo],fun y hy=>.inl (by simpa [zbo]using hy)⟩
 |0,acc,a::b::r,h,h2=>by simp at h
 |n+1,acc,a::b::r,h,h2=>by
  have hl:=zw3 (T:=T) (acc:=acc) (a:=a) (b:=b)
  obtain⟨i1,i2,i3⟩:=zo5 n (zdf T acc a b) r (by simp at h;omega) (by omega)
  refine⟨i1,by simp only[zbo,xax];omega,fun y hy=>?_⟩
  rcases i3 y hy with h1|h1
  ·rcases zw4 h1 with h1|rfl|rfl
   ·exact .inl h1
   ·exact .inr (by simp)
   ·exact .inr (by simp)
  ·exact .inr (by simp[h1])
section
variable {code:Nat->Option zab} {ext:zac} {T:List Obj}
abbrev zgd(id:Nat)(acc:List Val):AV:=if acc.length=0 then zae else .osl id 0 2 acc.length none
abbrev zhf(acc:List Val):Mem:=if acc.length=0 then[]else[.flat (tVal.row acc) false]
abbrev zh1(lv:IV)(acc:List Val)(i:Nat):Env:=[(0,.optr 0 0),(1,.imm lv),(2,avb false),(6,.optr 2 0),(7,zgd 3 acc),(8,zaa i)]
abbrev zhc(R:List IV)(N:Nat)(acc:List Val):Mem:=zf8 R N zir++zhf acc
theorem yep{acc:List Val}(hw:∀y∈acc,tVal.wf y)(hl:acc.length<=100000):zak tVal (if acc.length=0 then .val (.slice none 0 0)else .slice (tVal.row acc) 0 acc.length none) acc:=by
 split
 ·rename_i h
  rw[xat h]
  exact⟨by simp,by simp,.inl ⟨rfl,rfl⟩⟩
 ·exact zi0 tVal acc hw (by omega) (fun c h=>by cases h)
set_option maxHeartbeats 4000000 in
theorem ygc (c:zek code) (hrd:zak tObj (.slice (tObj.row (T++[zap])) 0 T.length (some (T.length+1))) T) {lv:IV} {xs:List Val} (hr:zak tVal lv xs) (hl:xs.length<=60000) (hev:xs.length%2=0) (htx:∀y∈xs,zch T y):
  ∃e s',den code ext (.loop [0,1,2,6,7,8] zj4) ⟨2,zh1 lv [] 0,zhc (tObj.row (T++[zap])) T.length []⟩=some (e,s')/\e≠ .normal/\
   (e=.exit 0/\s'=⟨2,zh1 lv (zbo T [] xs) xs.length++[(28,avb false)],zhc (tObj.row (T++[zap])) T.length (zbo T [] xs)⟩):=by
 have f4:=zau hr
 have hwx:=hr.1
 refine zbu (fun m s=>∃(i:Nat) (acc:List Val),i+m=xs.length/\i%2=0/\acc.length%2=0/\acc.length<=i/\(∀y∈acc,y∈xs)/\zbo T acc (xs.drop i)=zbo T [] xs/\s.tidy [0,1,2,6,7,8]=⟨2,zh1 lv acc i,zhc (tObj.row (T++[zap])) T.length acc⟩) _ ?_ xs.length _ ⟨0,[],by simp,rfl,rfl,by simp,by simp,by simp,by
  generalize tObj.row (T++[zap])=R
  generalize T.length=N
  simp only[zh1,zhc,zgd,zhf,xaz,if_true,xas,xa7,zf8]
  simp -implicitDefEqProofs []⟩
 rintro m s ⟨i,acc,hi,hi2,ha2,hal,hax,hpv,hst⟩
 rw[hst]
 by_cases hlt:i<xs.length
 ·have hlt2:i+1<xs.length:=by omega
  obtain⟨a,ha⟩:∃a,xs[i]?=some a:=⟨_,xaa hlt⟩
  obtain⟨b,hb⟩:∃b,xs[i+1]?=some b:=⟨_,xaa hlt2⟩
  have hdrop:xs.drop i=a::b::xs.drop (i+2):=by
   rw[xbl hlt,xbl hlt2]
   rw[xaa hlt]at ha
   rw[xaa hlt2]at hb
   cases ha;cases hb;rfl
  have hpv2:zbo T (zdf T acc a b) (xs.drop (i+2))=zbo T [] xs:=by rw[<-hpv,hdrop];rfl
  have hma:=xah ha
  have hmb:=xah hb
  obtain⟨row,off,cap,hlv,_,_,hcuta⟩:=zbv hr ha
  obtain⟨row',off',cap',hlv',_,_,hcutb⟩:=zbv hr hb
  rw[hlv]at hlv'
  cases hlv'
  obtain⟨i1,hi1⟩:∃i1,i1=i+1:=⟨_,rfl⟩
  rw[<-hi1]at hcutb hlt2
  have ca:cut row (off+i*2) 2=some [.val (.int .u8 a.k),.val (.int .i64 a.n)]:=hcuta
  have cb:cut row (off+i1*2) 2=some [.val (.int .u8 b.k),.val (.int .i64 b.n)]:=hcutb
  obtain⟨i2,hi22⟩:∃i2,i2=i+2:=⟨_,rfl⟩
  have e1:IntKind.wrap .i64 ((i:Int)+1)=(i1:Int):=by rw[zaw (by omega) (by omega)];omega
  have e2:IntKind.wrap .i64 ((i:Int)+2)=(i2:Int):=by rw[zaw (by omega) (by omega)];omega
  have hlt':(i:Int)<xs.length:=by omega
  have hlt1:(i1:Int)<xs.length:=by omega
  have hra:=yep (acc:=acc) (fun y hy=>hwx y (hax y hy)) (by omega)
  have hat:=zqx T acc a
  obtain⟨m1,f1⟩:=yf7 (ext:=ext) c.c164 c.c161 c.c166 hrd hra (by omega) (htx a hma) (fun j y hy=>htx y (hax y (xah hy))) hat
  have hsl:=zw3 (T:=T) (acc:=acc) (a:=a) (b:=b)
  have hsm:∀y∈zdf T acc a b,y∈xs:=fun y hy=>by
   rcases zw4 hy with h|rfl|rfl
   ·exact hax y h
   ·exact hma
   ·exact hmb
  have key:∃s',den code ext zj4 ⟨2,zh1 lv acc i,zhc (tObj.row (T++[zap])) T.length acc⟩=some (.normal,s')/\s'.tidy [0,1,2,6,7,8]=⟨2,zh1 lv (zdf T acc a b) i2,zhc (tObj.row (T++[zap])) T.length (zdf T acc a b)⟩:=by
   refine zsi ?_
   have hrl2:(tVal.row acc).length=acc.length*2:=zca tVal acc
   have hcut:=zdv _ hrl2
   have hsz:(acc.length+2)*16<=140737488355328:=by omega
   have happ:tVal.row acc++[.val (.int .u8 a.k),.val (.int .i64 a.n),.val (.int .u8 b.k),.val (.int .i64 b.n)]=tVal.row (acc++[a,b]):=by simp[Ty.row,tVal]
   subst hlv
   unfold zdf
   by_cases hneg:atI T acc a<0
   ·rw[if_pos hneg]
    have hll:(acc++[a,b]).length=acc.length+2:=by simp
    simp only[zh1,zhc,zgd,zhf,hll]
    by_cases h0:acc.length=0
    ·have hac:acc=[]:=xat h0
     subst hac
     simp only[xaz,if_true,xa7,xaw]at *
     have hrow2:tVal.row [a,b]=[.val (.int .u8 a.k),.val (.int .i64 a.n),.val (.int .u8 b.k),.val (.int .i64 b.n)]:=rfl
     rw[hrow2]
     generalize atI T [] a=r at *
     generalize tObj.row (T++[zap])=R at *
     generalize T.length=N at *
     clear happ hcut hrl2 hra hsl hsm hpv hpv2 hdrop
     generalize xs.length=n at *
     simp -implicitDefEqProofs [zj4,f1,ca,cb,e1,e2,hlt,hlt',hlt1,hlt2,hneg,zaz,za0,elems]
    ·simp only[if_neg h0,if_neg (show ¬acc.length+2=0 by omega)]at *
     generalize atI T acc a=r at *
     generalize tVal.row (acc++[a,b])=W2 at *
     generalize tVal.row acc=W at *
     generalize tObj.row (T++[zap])=R at *
     generalize T.length=N at *
     clear hra hsl hsm hpv hpv2 hdrop hll
     generalize acc.length=k at *
     generalize xs.length=n at *
     simp -implicitDefEqProofs [zj4,f1,ca,cb,e1,e2,hlt,hlt',hlt1,hlt2,hneg,h0,zaz,za0,elems,hcut,hsz,happ]
   ·rw[if_neg hneg]
    rcases hat with⟨hh,_⟩|⟨j,y,hr2,hy,_⟩
    ·rw[hh]at hneg;exact absurd (by decide) hneg
    ·have hjl:=(xab.1 hy).1
     have h0:¬acc.length=0:=by omega
     obtain⟨r,hr0⟩:∃r:Nat,r=2*j:=⟨_,rfl⟩
     obtain⟨r1,hr1⟩:∃r1,r1=r+1:=⟨_,rfl⟩
     rw[<-hr0]at hr2
     rw[hr2]at f1 ⊢
     rw[show((r:Int)).toNat+1=r1 by omega]
     have w3:IntKind.wrap .i64 ((r:Int)+1)=(r1:Int):=by rw[zaw (by omega) (by omega)];omega
     have e5:¬(r:Int)<0:=by omega
     have e6:(r1:Int)<acc.length:=by omega
     have e6':r1<acc.length:=by omega
     have hset:setAll (tVal.row acc) (r1*2) [.val (.int .u8 b.k),.val (.int .i64 b.n)]=tVal.row (acc.set r1 b):=zxm acc r1 b e6'
     simp only[setAll]at hset
     have hll:(acc.set r1 b).length=acc.length:=xb8 ..
     simp only[zh1,zhc,zgd,zhf,hll]
     simp only[if_neg h0]at *
     generalize tVal.row (acc.set r1 b)=W2 at *
     generalize tVal.row acc=W at *
     generalize tObj.row (T++[zap])=R at *
     generalize T.length=N at *
     clear hra hsl hsm hpv hpv2 hdrop hll hy
     generalize acc.length=k at *
     generalize xs.length=n at *
     have hle:r1*2+2<=W.length:=by omega
     simp -implicitDefEqProofs [zj4,f1,ca,cb,e1,e2,hlt,hlt',hlt1,hlt2,e5,e6,e6',w3,h0,hset,hle,setAll]
  obtain⟨s',g1,g2⟩:=key
  exact⟨.normal,s',g1,.inl ⟨rfl,m-2,by omega,i2,_,by omega,by omega,by omega,by omega,hsm,by rw[hi22];exact hpv2,g2⟩⟩
 ·have:i=xs.length:=by omega
  subst this
  rw[List.drop_length]at hpv
  have hpv:acc=zbo T [] xs:=hpv
  rw[<-hpv]
  refine⟨.exit 0,⟨2,zh1 lv acc xs.length++[(28,avb false)],zhc (tObj.row (T++[zap])) T.length acc⟩,?_,.inr ⟨by simp,rfl,rfl⟩⟩
  generalize xs.length=n at *
  generalize zhc (tObj.row (T++[zap])) T.length acc=M at *
  generalize zgd 3 acc=ov at *
  simp -implicitDefEqProofs [zj4,f4]
end
section
variable {code:Nat->Option zab} {ext:zac}
abbrev zhd(lv:IV)(acc:List Val)(i:Nat):Env:=[(0,.optr 0 0),(1,.imm lv),(4,.optr 2 0),(5,zgd 3 acc),(6,zaa i)]
abbrev zgw(T:List Obj)(acc:List Val):Mem:=[.rich [.osl 1 0 5 T.length (some T.length),zaa 1152921504606846976,zaa 0],.flat (tObj.row T) false,.rich [.imm (.val (.int .u8 0)),zaa 0,zaj .empty,avb false]]++zhf acc
set_option maxHeartbeats 4000000 in
theorem yd5 (c:PlainFns code) {T:List Obj} (hn:T.length<=100000000) {lv:IV} {xs:List Val} (hr:zak tVal lv xs) (hl:xs.length<=60000) (hev:xs.length%2=0) (htx:∀y∈xs,zch T y):
  ∃e s',den code ext (.loop [0,1,4,5,6] zj7) ⟨2,zhd lv [] 0,zgw T []⟩=some (e,s')/\e≠ .normal/\
   (e=.exit 1/\s'=⟨2,zhd lv (zbo T [] xs) xs.length++[(22,avb false)],zgw T (zbo T [] xs)⟩):=by
 have f4:=zau hr
 have hwx:=hr.1
 refine zbu (fun m s=>∃(i:Nat) (acc:List Val),i+m=xs.length/\i%2=0/\acc.length%2=0/\acc.length<=i/\(∀y∈acc,y∈xs)/\zbo T acc (xs.drop i)=zbo T [] xs/\s.tidy [0,1,4,5,6]=⟨2,zhd lv acc i,zgw T acc⟩) _ ?_ xs.length _ ⟨0,[],by simp,rfl,rfl,by simp,by simp,by simp,by
  generalize tObj.row T=R
  generalize T.length=N
  simp only[zhd,zgw,zgd,zhf,xaz,if_true,xas,xa7]
  simp -implicitDefEqProofs []⟩
 rintro m s ⟨i,acc,hi,hi2,ha2,hal,hax,hpv,hst⟩
 rw[hst]
 by_cases hlt:i<xs.length
 ·have hlt2:i+1<xs.length:=by omega
  obtain⟨a,ha⟩:∃a,xs[i]?=some a:=⟨_,xaa hlt⟩
  obtain⟨b,hb⟩:∃b,xs[i+1]?=some b:=⟨_,xaa hlt2⟩
  have hdrop:xs.drop i=a::b::xs.drop (i+2):=by
   rw[xbl hlt,xbl hlt2]
   rw[xaa hlt]at ha
   rw[xaa hlt2]at hb
   cases ha;cases hb;rfl
  have hpv2:zbo T (zdf T acc a b) (xs.drop (i+2))=zbo T [] xs:=by rw[<-hpv,hdrop];rfl
  have hma:=xah ha
  have hmb:=xah hb
  obtain⟨row,off,cap,hlv,_,_,hcuta⟩:=zbv hr ha
  obtain⟨row',off',cap',hlv',_,_,hcutb⟩:=zbv hr hb
  rw[hlv]at hlv'
  cases hlv'
  obtain⟨i1,hi1⟩:∃i1,i1=i+1:=⟨_,rfl⟩
  rw[<-hi1]at hcutb hlt2
  have ca:cut row (off+i*2) 2=some [.val (.int .u8 a.k),.val (.int .i64 a.n)]:=hcuta
  have cb:cut row (off+i1*2) 2=some [.val (.int .u8 b.k),.val (.int .i64 b.n)]:=hcutb
  obtain⟨i2,hi22⟩:∃i2,i2=i+2:=⟨_,rfl⟩
  have e1:IntKind.wrap .i64 ((i:Int)+1)=(i1:Int):=by rw[zaw (by omega) (by omega)];omega
  have e2:IntKind.wrap .i64 ((i:Int)+2)=(i2:Int):=by rw[zaw (by omega) (by omega)];omega
  have hlt':(i:Int)<xs.length:=by omega
  have hlt1:(i1:Int)<xs.length:=by omega
  have hat:=zqx T acc a
  have hkx:∀(j:Nat) y,acc[2*j]?=some y->zch T y:=fun j y hy=>htx y (hax y (xah hy))
  have hsl:=zw3 (T:=T) (acc:=acc) (a:=a) (b:=b)
  have hsm:∀y∈zdf T acc a b,y∈xs:=fun y hy=>by
   rcases zw4 hy with h|rfl|rfl
   ·exact hax y h
   ·exact hma
   ·exact hmb
  have key:∃s',den code ext zj7 ⟨2,zhd lv acc i,zgw T acc⟩=some (.normal,s')/\s'.tidy [0,1,4,5,6]=⟨2,zhd lv (zdf T acc a b) i2,zgw T (zdf T acc a b)⟩:=by
   refine zsi ?_
   have hrl2:(tVal.row acc).length=acc.length*2:=zca tVal acc
   have hcut:=zdv _ hrl2
   have hsz:(acc.length+2)*16<=140737488355328:=by omega
   have happ:tVal.row acc++[.val (.int .u8 a.k),.val (.int .i64 a.n),.val (.int .u8 b.k),.val (.int .i64 b.n)]=tVal.row (acc++[a,b]):=by simp[Ty.row,tVal]
   subst hlv
   unfold zdf
   by_cases h0:acc.length=0
   ·have hac:acc=[]:=xat h0
    subst hac
    have f1:=ycf (ext:=ext) c hn (T:=T) (iv:=.val (.slice none 0 0)) (xs:=[]) ⟨by simp,by simp,.inl ⟨rfl,rfl⟩⟩ (by simp) (htx a hma) hkx hat
    have hneg:atI T [] a= -1:=by
     rcases hat with⟨h,_⟩|⟨j,y,_,hy,_⟩
     ·exact h
     ·simp at hy
    rw[hneg]at f1 ⊢
    rw[if_pos (by decide)]
    have hll:([]++[a,b]:List Val).length=2:=by simp
    have hrow2:tVal.row [a,b]=[.val (.int .u8 a.k),.val (.int .i64 a.n),.val (.int .u8 b.k),.val (.int .i64 b.n)]:=rfl
    simp only[zhd,zgw,zgd,zhf,hll]
    simp only[xaz,if_true,xa7,xas,xbo]
    rw[hrow2,if_neg (by decide),if_neg (by decide)]
    unfold sM at f1
    simp only[xan,if_false]at f1
    generalize tObj.row T=R at *
    generalize T.length=N at *
    clear happ hcut hrl2 hsl hsm hpv hpv2 hdrop hat hkx
    generalize xs.length=n at *
    simp -implicitDefEqProofs [zj7,f1,ca,cb,e1,e2,hlt,hlt',hlt1,hlt2,zaz,za0,elems,zdc]
   ·have f1:=ycd (ext:=ext) c hn (T:=T) (xs:=acc) (by omega) (htx a hma) hkx hat
    unfold sL at f1
    simp only[xan,if_false]at f1
    by_cases hneg:atI T acc a<0
    ·rw[if_pos hneg]
     have hneg1:¬(0:Int)<=atI T acc a:=by omega
     have hll:(acc++[a,b]).length=acc.length+2:=by simp
     simp only[zhd,zgw,zgd,zhf,hll]
     simp only[if_neg h0,if_neg (show ¬acc.length+2=0 by omega)]at *
     generalize atI T acc a=r at *
     generalize tVal.row (acc++[a,b])=W2 at *
     generalize tVal.row acc=W at *
     generalize tObj.row T=R at *
     generalize T.length=N at *
     clear hsl hsm hpv hpv2 hdrop hll hat hkx
     generalize acc.length=k at *
     generalize xs.length=n at *
     simp -implicitDefEqProofs [zj7,f1,ca,cb,e1,e2,hlt,hlt',hlt1,hlt2,hneg,hneg1,h0,zaz,za0,elems,hcut,hsz,happ,zdc]
    ·rw[if_neg hneg]
     rcases hat with⟨hh,_⟩|⟨j,y,hr2,hy,_⟩
     ·rw[hh]at hneg;exact absurd (by decide) hneg
     ·have hjl:=(xab.1 hy).1
      obtain⟨r,hr0⟩:∃r:Nat,r=2*j:=⟨_,rfl⟩
      obtain⟨r1,hr1⟩:∃r1,r1=r+1:=⟨_,rfl⟩
      rw[<-hr0]at hr2
      rw[hr2]at f1 ⊢
      rw[show((r:Int)).toNat+1=r1 by omega]
      have w3:IntKind.wrap .i64 ((r:Int)+1)=(r1:Int):=by rw[zaw (by omega) (by omega)];omega
      have e5:(0:Int)<=r:=by omega
      have e6:(r1:Int)<acc.length:=by omega
      have e6':r1<acc.length:=by omega
      have hset:setAll (tVal.row acc) (r1*2) [.val (.int .u8 b.k),.val (.int .i64 b.n)]=tVal.row (acc.set r1 b):=zxm acc r1 b e6'
      simp only[setAll]at hset
      have hll:(acc.set r1 b).length=acc.length:=xb8 ..
      simp only[zhd,zgw,zgd,zhf,hll]
      simp only[if_neg h0]at *
      generalize tVal.row (acc.set r1 b)=W2 at *
      generalize tVal.row acc=W at *
      generalize tObj.row T=R at *
      generalize T.length=N at *
      clear hsl hsm hpv hpv2 hdrop hll hy hkx
      generalize acc.length=k at *
      generalize xs.length=n at *
      have hle:r1*2+2<=W.length:=by omega
      simp -implicitDefEqProofs [zj7,f1,ca,cb,e1,e2,hlt,hlt',hlt1,hlt2,e5,e6,e6',w3,h0,hset,hle,setAll,zdc]
  obtain⟨s',g1,g2⟩:=key
  exact⟨.normal,s',g1,.inl ⟨rfl,m-2,by omega,i2,_,by omega,by omega,by omega,by omega,hsm,by rw[hi22];exact hpv2,g2⟩⟩
 ·have:i=xs.length:=by omega
  subst this
  rw[List.drop_length]at hpv
  have hpv:acc=zbo T [] xs:=hpv
  rw[<-hpv]
  refine⟨.exit 1,⟨2,zhd lv acc xs.length++[(22,avb false)],zgw T acc⟩,?_,.inr ⟨by simp,rfl,rfl⟩⟩
  generalize xs.length=n at *
  generalize zgw T acc=M at *
  generalize zgd 3 acc=ov at *
  simp -implicitDefEqProofs [zj7,f4]
end
section
variable {code:Nat->Option zab} {ext:zac} {T:List Obj}
theorem zr3(n:Nat):Int.tmod (n:Int) 2=((n%2:Nat):Int):=by
 rw[Int.tmod_eq_emod_of_nonneg (by omega)];omega
theorem ygb(c:zek code){lv:IV}(hf:zjb code ext T lv false):
  callW code ext 157 [.optr 0 0,.imm lv,avb false] (za6 (tObj.row (T++[zap])) T.length (T.length+1))=some (za1 0 0 zcg 0,za6 (tObj.row (T++[zap])) T.length (T.length+1)):=by
 obtain⟨m1,hf⟩:=hf
 obtain⟨m2,hk⟩:=zm6 (ext:=ext) c.c562 zcg
 rw[zad code ext c.c157]
 unfold za6 za1 at *
 generalize tObj.row (T++[zap])=R at *
 simp -implicitDefEqProofs [zp7,hf,hk]
theorem ygd(c:zek code){lv:IV}{xs:List Val}(hr:zak tVal lv xs)(hl:xs.length<=60000)(hodd:xs.length%2=1)(hf:zjb code ext T lv true):
  callW code ext 157 [.optr 0 0,.imm lv,avb false] (za6 (tObj.row (T++[zap])) T.length (T.length+1))=some (za1 0 0 zcg 0,za6 (tObj.row (T++[zap])) T.length (T.length+1)):=by
 obtain⟨m1,hf⟩:=hf
 obtain⟨m2,hk⟩:=zm6 (ext:=ext) c.c562 zcg
 have f4:=zau hr
 have f5:Int.tmod (xs.length:Int) 2=1:=by rw[zr3,hodd];rfl
 rw[zad code ext c.c157]
 unfold za6 za1 at *
 generalize tObj.row (T++[zap])=R at *
 generalize xs.length=n at *
 simp -implicitDefEqProofs [zp7,hf,hk,f4,f5]
set_option maxHeartbeats 4000000 in
theorem yge (c:zek code) (hn:T.length<=1000000) (hrd:zak tObj (.slice (tObj.row (T++[zap])) 0 T.length (some (T.length+1))) T) {lv:IV} {xs:List Val} (hr:zak tVal lv xs) (hl:xs.length<=60000) (hev:xs.length%2=0) (htx:∀y∈xs,zch T y) (hf:zjb code ext T lv true) {l:Sl tVal} (hla:LAt l (zbo T [] xs) none):
  callW code ext 157 [.optr 0 0,.imm lv,avb false] (za6 (tObj.row (T++[zap])) T.length (T.length+1))=some (za1 5 ((T.length+1:Nat):Int) .empty (zay (zal 5 xs.length 0 l)),zh0 T (zal 5 xs.length 0 l) none):=by
 obtain⟨m1,hf⟩:=hf
 obtain⟨e,s',h1,_,rfl,rfl⟩:=ygc (code:=code) (ext:=ext) c hrd hr hl hev htx
 have f4:=zau hr
 have f5:Int.tmod (xs.length:Int) 2=0:=by rw[zr3,hev];rfl
 have e0:¬(131072:Int)<xs.length:=by omega
 have hpl:=(zo5 (T:=T) xs.length [] xs (xap _) rfl).2.1
 simp only[xaz,xaw]at hpl
 have hox:(zal 5 xs.length 0 l).l.xs=zbo T [] xs:=hla.xs
 have hiv:=hla.iv
 unfold zh0
 rw[hox]
 simp only[zh1,zhc,zgd,zhf,zf8,zir,xaz,if_true,xas,xbo,xa7,xcm]at h1
 generalize zbo T [] xs=ys at *
 rw[zad code ext c.c157]
 unfold zp7
 generalize zj4=L at *
 by_cases h0:ys.length=0
 ·rw[if_pos h0]at hiv ⊢
  simp only[if_pos h0]at h1
  have f1:=zxh (ext:=ext) c.c165 c.c559 (T:=T) (by omega) 5 xs.length 0 (by omega) hiv
  generalize zay (zal 5 xs.length 0 l)=w at *
  unfold za6 za1 at *
  generalize tObj.row (T++[zal 5 xs.length 0 l])=R2 at *
  generalize tObj.row (T++[zap])=R at *
  clear hox hrd htx
  generalize xs.length=n at *
  generalize T.length=N at *
  simp -implicitDefEqProofs [hf,h1,f1,f4,f5,e0]
 ·rw[if_neg h0]at hiv ⊢
  simp only[if_neg h0]at h1
  have f1:=zr5 (ext:=ext) c.c165 c.c559 (T:=T) (by omega) 5 xs.length 0 (by omega) hiv
  have hrl:(tObj.row (T++[zal 5 xs.length 0 l])).length=(T++[zal 5 xs.length 0 l]).length*5:=zca tObj _
  rw[xak]at hrl
  simp only[xax,xaz,xaw]at hrl
  have hrf:∀v:AV,AV.refs.refsL (zax (tObj.row (T++[zal 5 xs.length 0 l])) (T.length*5+2) v)=v.refs:=fun v=>zdz (by omega)
  have p1:=zd0
  generalize zay (zal 5 xs.length 0 l)=w at *
  unfold za6 za1 at *
  generalize tObj.row (T++[zal 5 xs.length 0 l])=R2 at *
  generalize tObj.row (T++[zap])=R at *
  generalize tVal.row ys=W at *
  clear hox hrl hrd htx
  generalize xs.length=n at *
  generalize ys.length=k at *
  generalize T.length=N at *
  simp -implicitDefEqProofs [hf,h1,f1,f4,f5,e0,hrf,p1]
end
section
variable {code:Nat->Option zab} {ext:zac}
theorem yd6(c:PlainFns code)(T:List Obj){lv:IV}{xs:List Val}(hr:zak tVal lv xs)(hodd:xs.length%2=1):
  callW code ext 214 [.optr 0 0,.imm lv] (sM false T)=some (zdb 0 0 zcg,sM false T):=by
 have f4:=zau hr
 have f5:Int.tmod (xs.length:Int) 2=1:=by rw[zr3,hodd];rfl
 rw[zad code ext c.c214]
 unfold sM
 generalize tObj.row T=R
 generalize xs.length=n at *
 simp -implicitDefEqProofs [zp8,f4,f5]
set_option maxHeartbeats 4000000 in
theorem z2h (c:PlainFns code) {T:List Obj} (hn:T.length<=100000000) {lv:IV} {xs:List Val} (hr:zak tVal lv xs) (hl:xs.length<=60000) (hev:xs.length%2=0) (htx:∀y∈xs,zch T y) {l:Sl tVal} (hla:LAt l (zbo T [] xs) none):
  callW code ext 214 [.optr 0 0,.imm lv] (sM false T)=some (zdb 5 ((T.length+1:Nat):Int) .empty,
   if (zbo T [] xs).length=0 then sK false T (zal 5 xs.length 0 l) (zay (zal 5 xs.length 0 l))else sKP false T (zal 5 xs.length 0 l) (tVal.row (zbo T [] xs)) (zbo T [] xs).length none (zay (zal 5 xs.length 0 l))):=by
 obtain⟨e,s',h1,_,rfl,rfl⟩:=yd5 (code:=code) (ext:=ext) c hn hr hl hev htx
 have f4:=zau hr
 have f5:Int.tmod (xs.length:Int) 2=0:=by rw[zr3,hev];rfl
 have e0:¬(131072:Int)<xs.length:=by omega
 have hpl:=(zo5 (T:=T) xs.length [] xs (xap _) rfl).2.1
 simp only[xaz,xaw]at hpl
 have hiv:=hla.iv
 have hlx:=hla.xs
 simp only[zhd,zgw,zgd,zhf,xaz,if_true,xas,xbo,xa7,xcm]at h1
 generalize zbo T [] xs=ys at *
 have p1:=zd0
 rw[zad code ext c.c214]
 unfold zp8
 generalize zj7=L at *
 by_cases h0:ys.length=0
 ·rw[if_pos h0]at hiv ⊢
  simp only[if_pos h0]at h1
  have f1:=yd0 (ext:=ext) c (nl:=false) (T:=T) (by simp) hn 5 xs.length 0 hiv (by omega) (by omega) (by rw[hlx];omega)
  generalize zay (zal 5 xs.length 0 l)=w at *
  unfold sM sK at *
  simp only[xan,if_false]at f1 ⊢
  generalize tObj.row (T++[zal 5 xs.length 0 l])=R2 at *
  generalize tObj.row T=R at *
  clear htx hlx
  generalize xs.length=n at *
  generalize T.length=N at *
  simp -implicitDefEqProofs [h1,f1,f4,f5,e0]
 ·rw[if_neg h0]at hiv ⊢
  simp only[if_neg h0]at h1
  have f1:=zrp (ext:=ext) c (nl:=false) (T:=T) (by simp) hn 5 xs.length 0 hiv (by omega) (by omega) (by rw[hlx];omega)
  have hrf:∀v:AV,AV.refs.refsL (zax (tObj.row (T++[zal 5 xs.length 0 l])) (T.length*5+2) v)=v.refs:=fun v=>zdz (by rw[zca];simp[tObj];omega)
  generalize zay (zal 5 xs.length 0 l)=w at *
  unfold sM sL sKL sKP at *
  simp only[xan,if_false]at f1 ⊢
  generalize tObj.row (T++[zal 5 xs.length 0 l])=R2 at *
  generalize tObj.row T=R at *
  generalize tVal.row ys=W at *
  clear htx hlx
  generalize xs.length=n at *
  generalize ys.length=k at *
  generalize T.length=N at *
  simp -implicitDefEqProofs [h1,f1,f4,f5,e0,hrf,p1]
theorem zz7(c:PlainFns code)(T:List Obj)(op n:Int)(h1:op≠1)(h26:op≠26){lv:IV}{xs:List Val}(hr:zak tVal lv xs)(hl:xs.length<=60000)(h7:(xs.any fun v=>decide (v.k=7))=true):
  callW code ext 206 [.optr 0 0,.agg [.imm (.val (.int .u8 op)),zaa n,.imm lv,zae]] (sM false T)=some (zdb 0 0 zcg,sM false T):=by
 obtain⟨m,f1⟩:=zoc (ext:=ext) c.c580 hr (by omega)
 rw[h7]at f1
 rw[zad code ext c.c206]
 unfold sM
 generalize tObj.row T=R at *
 simp -implicitDefEqProofs [zfq,f1,h1,h26]
theorem zvq(c:PlainFns code)(T:List Obj){lv:IV}{xs:List Val}(hr:zak tVal lv xs)(hl:xs.length<=60000)(h7:(xs.any fun v=>decide (v.k=7))=false){kk n:Int}{t:ByteArray}{M:Mem}
  (hf:callW code ext 214 [.optr 0 0,.imm lv] (sM false T)=some (zdb kk n t,M)) (hcase:M=sM false T\/(∃o w,M=sK false T o w)\/∃o W k cap w,M=sKP false T o W k cap w):
  callW code ext 206 [.optr 0 0,.agg [.imm (.val (.int .u8 23)),zaa 0,.imm lv,zae]] (sM false T)=some (zdb kk n t,M):=by
 obtain⟨m,f1⟩:=zoc (ext:=ext) c.c580 hr (by omega)
 rw[h7]at f1
 have p1:=zd0
 rw[zad code ext c.c206]
 rcases hcase with rfl|⟨o,w,rfl⟩|⟨o,W,k,cap,w,rfl⟩
 ·unfold sM at *
  simp only[xan,if_false]at hf ⊢
  generalize tObj.row T=R at *
  generalize T.length=N at *
  simp -implicitDefEqProofs [zfq,f1,hf]
 ·unfold sM sK at *
  simp only[xan,if_false]at hf ⊢
  generalize tObj.row (T++[o])=R2 at *
  generalize tObj.row T=R at *
  generalize T.length=N at *
  simp -implicitDefEqProofs [zfq,f1,hf]
 ·have hrf:∀v:AV,AV.refs.refsL (zax (tObj.row (T++[o])) (T.length*5+2) v)=v.refs:=fun v=>zdz (by rw[zca];simp[tObj];omega)
  unfold sM sKP at *
  simp only[xan,if_false]at hf ⊢
  generalize tObj.row (T++[o])=R2 at *
  generalize tObj.row T=R at *
  generalize T.length=N at *
  simp -implicitDefEqProofs [zfq,f1,hf,hrf,p1]
theorem z8h(c:PlainFns code)(c749:code 749=some zbf)(c759:code 759=some zbc)(c207:code 207=some zj6)(T:List Obj)(fn:Int){lv:IV}{xs:List Val}(hr:zak tVal lv xs)(hl:xs.length<=60000)(h7:(xs.any fun v=>decide (v.k≠7))=true):
  callW code ext 206 [.optr 0 0,.agg [.imm (.val (.int .u8 26)),zaa fn,.imm lv,zae]] (sM false T)=some (zdb 0 0 zcg,sM false T):=by
 have f1:=zy3 (ext:=ext) c749 c759 hr hl (bad:=fun v=>decide (v.k≠7)) (fun v _=>z2g c207 v)
 rw[h7]at f1
 rw[zad code ext c.c206]
 unfold sM
 generalize tObj.row T=R at *
 simp -implicitDefEqProofs [zfq,f1]
theorem z8i(c:PlainFns code)(c749:code 749=some zbf)(c759:code 759=some zbc)(c207:code 207=some zj6){T:List Obj}(hn:T.length<=100000000)(fn:Int){lv:IV}{xs:List Val}(hr:zak tVal lv xs)(hz:zbt lv=false)(hl:xs.length<=60000)(h7:(xs.any fun v=>decide (v.k≠7))=false)(l:Sl tVal)(hx:l.xs=xs)(hiv:l.iv=.slice (tVal.row xs) 0 xs.length (zg6 xs.length)):
  callW code ext 206 [.optr 0 0,.agg [.imm (.val (.int .u8 26)),zaa fn,.imm lv,zae]] (sM false T)=
   some (zdb 6 ((T.length+1:Nat):Int) .empty,sKP false T (zal 6 0 fn l) (tVal.row xs) xs.length (zg6 xs.length) (zay (zal 6 0 fn l))):=by
 have f1:=zy3 (ext:=ext) c749 c759 hr hl (bad:=fun v=>decide (v.k≠7)) (fun v _=>z2g c207 v)
 rw[h7]at f1
 have f2:=zvi (ext:=ext) c.c742 hr hz (by omega)
 have f3:=zrp (ext:=ext) c (nl:=false) (T:=T) (by simp) hn 6 0 fn hiv (by omega) (by omega) (by rw[hx];omega)
 have p1:=zd0
 have hrf:∀v:AV,AV.refs.refsL (zax (tObj.row (T++[zal 6 0 fn l])) (T.length*5+2) v)=v.refs:=fun v=>zdz (by rw[zca];simp[tObj];omega)
 rw[zad code ext c.c206]
 unfold sM sL sKL sKP at *
 simp only[xan,if_false]at f3 ⊢
 generalize zay (zal 6 0 fn l)=w at *
 generalize tObj.row (T++[zal 6 0 fn l])=R1 at *
 generalize tObj.row T=R0 at *
 generalize tVal.row xs=W at *
 generalize zg6 xs.length=cp at *
 generalize xs.length=n at *
 generalize T.length=N at *
 simp -implicitDefEqProofs [zfq,f1,f2,f3,hrf,p1]
end
def zg4(code:Nat->Option zab)(ext:zac)(sv lv:IV)(r:Bool):Prop:=
 callW code ext 749 [.imm lv,.clo 641 [.optr 0 0]] [.rich [.imm sv]]=some (avb r,[.rich [.imm sv]])
section
variable {code:Nat->Option zab} {ext:zac}
theorem zvo(c:DoQ code){sv:IV}{S:List Obj}{X:Mem}(hX:XM 0 S X)(hn:S.length<=10000000)(h1:callW code ext 643 [.imm sv] []=some (.osl 0 0 5 S.length (some S.length),X)){lv:IV}(ha:zg4 code ext sv lv true)(op n0:Int):
  ∃X',XM 0 S X'/\callW code ext 640 [.imm sv,.imm (.val (.int .u8 op)),zaa n0,.imm lv] []=
   some (.agg [.osl 0 0 5 S.length (some S.length),.imm (.val (.int .u8 0)),zaa 0,zaj zcg,zaa 0],X'):=by
 unfold zg4 at ha
 rw[zad code ext c.c640]
 have hX3:XM 2 S (X.map (AObj.ren fun i=>some (2+i))):=zkf hX fun i hi=>by simp only[xaw]
 have hb:den code ext x640Q.body ⟨0,enter 0 [.imm sv,.imm (.val (.int .u8 op)),zaa n0,.imm lv],[]⟩=some (.ret,⟨0,[(8,.optr 1 0)],[.rich [.imm sv],.rich [.osl 2 0 5 S.length (some S.length),.imm (.val (.int .u8 0)),zaa 0,zaj zcg,zaa 0]]++X.map (AObj.ren fun i=>some (2+i))⟩):=by
  generalize S.length=N at *
  simp -implicitDefEqProofs [-IV.plain,x640Q,h1,ha]
 obtain⟨X',g7,g8⟩:=zjo (xf:=x640Q) rfl (q:=1) (P:=[.rich [.imm sv],.rich [.osl 2 0 5 S.length (some S.length),.imm (.val (.int .u8 0)),zaa 0,zaj zcg,zaa 0]]) hX3 rfl (by decide) hn rfl
 refine⟨X',g7,?_⟩
 simp only[xaz]
 rw[hb]
 exact g8
theorem zq3(c:DoQ code)(k:zkl code ext){sv:IV}{S:List Obj}(hr:zak tObj sv S)(hz:zbt sv=false)(hS:∀o∈S,o.l.xs.length<=1000000)(hn:S.length<=1000000){lv:IV}(ha:zg4 code ext sv lv false)(op n0 kk n:Int)(t:ByteArray)
  (hd:callW code ext 206 [.optr 0 0,.agg [.imm (.val (.int .u8 op)),zaa n0,.imm lv,zae]] (sM false (S.map zaf))=some (zdb kk n t,sM false (S.map zaf))):
  ∃X,XM 0 (S.map zaf) X/\callW code ext 640 [.imm sv,.imm (.val (.int .u8 op)),zaa n0,.imm lv] []=
   some (.agg [.osl 0 0 5 S.length (some S.length),.imm (.val (.int .u8 kk)),zaa n,zaj t,zaa 0],X):=by
 unfold zg4 at ha
 have h1:=k.imm hr hz hS (by omega)
 have hml:(S.map zaf).length=S.length:=xam ..
 obtain⟨Xf,hX,h2⟩:=zot k (T:=S.map zaf) (some S.length) (zkr hS) (by rw[hml];omega)
 have h3:=zpt (ext:=ext) (T:=S.map zaf) c.c642 c.c578 (some S.length) (zec tObj _) (by rw[hml];omega)
 have h4:=zn5 (ext:=ext) (T:=S.map zaf) (B:=[]) c.c639 c.c578 (some S.length) (by rw[xas];exact zec tObj _) (by rw[xas,hml];omega)
 rw[xas,show zdu []=0 from rfl]at h4
 unfold ze8 ze7 at h3
 unfold zd2 at h4
 rw[hml]at h2 h3 h4
 have hW:=zps (S.map zaf)
 rw[zad code ext c.c640]
 unfold sM at hd
 rw[hml]at hd
 simp only[xan,if_false]at hd ⊢
 have hTl:(S.map zaf).length<=10000000:=by rw[hml];omega
 generalize zdg (S.map zaf)=W at *
 generalize tObj.row (S.map zaf)=R1 at *
 generalize S.map zaf=T at *
 have hb:∃P b q,XM b T (Xf b)/\P.length=b/\1<=b/\P[q]?=some (.rich [.osl b 0 5 S.length (some S.length),.imm (.val (.int .u8 kk)),zaa n,zaj t,zaa 0])/\
   den code ext x640Q.body ⟨0,enter 0 [.imm sv,.imm (.val (.int .u8 op)),zaa n0,.imm lv],[]⟩=some (.ret,⟨0,[(8,.optr q 0)],P++Xf b⟩):=by
  by_cases h0:S.length=0
  ·rw[if_pos h0,if_pos h0]at h3
   rw[if_pos h0]at h4
   generalize S.length=N at *
   refine⟨[.rich [.imm sv],.rich [.osl 5 0 5 N (some N),.imm (.val (.int .u8 kk)),zaa n,zaj t,zaa 0],.flat R1 false,.rich [.osl 2 0 5 N (some N),zaa 1152921504606846976,zaa 0],.rich [.imm (.val (.int .u8 kk)),zaa n,zaj t,avb false]],5,1,hX 5,rfl,by decide,rfl,?_⟩
   simp -implicitDefEqProofs [-IV.plain,x640Q,-zbg,h1,h2,h3,h4,ha,hd]
  ·rw[if_neg h0,if_neg h0]at h3
   rw[if_neg h0]at h4
   generalize S.length=N at *
   refine⟨[.rich [.imm sv],.rich [.osl 6 0 5 N (some N),.imm (.val (.int .u8 kk)),zaa n,zaj t,zaa 0],.flat R1 false,.rich [.osl 2 0 5 N (some N),zaa 1152921504606846976,zaa 0],.flat W false,.rich [.imm (.val (.int .u8 kk)),zaa n,zaj t,avb false]],6,1,hX 6,rfl,by decide,rfl,?_⟩
   simp -implicitDefEqProofs [-IV.plain,x640Q,-zbg,h1,h2,h3,h4,ha,hd,hW]
 obtain⟨P,b,q,g1,g2,g3,g5,g6⟩:=hb
 obtain⟨X',g7,g8⟩:=zjo (xf:=x640Q) rfl g1 g2 g3 hTl g5
 refine⟨X',g7,?_⟩
 simp only[xaz]
 rw[g6]
 exact g8
theorem z79(c:DoQ code)(k:zkl code ext){sv:IV}{S:List Obj}(hr:zak tObj sv S)(hz:zbt sv=false)(hS:∀o∈S,o.l.xs.length<=1000000)(hn:S.length<=1000000){lv:IV}(ha:zg4 code ext sv lv false)(op n0 kk n:Int)(t:ByteArray){o:Obj}(hol:o.l.xs.length<=1000000)(w:Int)
  (hd:callW code ext 206 [.optr 0 0,.agg [.imm (.val (.int .u8 op)),zaa n0,.imm lv,zae]] (sM false (S.map zaf))=some (zdb kk n t,sK false (S.map zaf) o w)):
  ∃X,XM 0 (S.map zaf++[o]) X/\callW code ext 640 [.imm sv,.imm (.val (.int .u8 op)),zaa n0,.imm lv] []=
   some (.agg [.osl 0 0 5 (S.length+1) (some (S.length+1)),.imm (.val (.int .u8 kk)),zaa n,zaj t,zaa (zdu [o])],X):=by
 unfold zg4 at ha
 have h1:=k.imm hr hz hS (by omega)
 have hml:(S.map zaf).length=S.length:=xam ..
 have hml1:(S.map zaf++[o]).length=S.length+1:=by rw[xak,hml];rfl
 have hTl:∀q∈S.map zaf++[o],q.l.xs.length<=1000000:=by
  intro q hq
  rcases xaj.1 hq with hq|hq
  ·exact zkr hS q hq
  ·rw[xav.1 hq];exact hol
 obtain⟨Xf,hX,h2⟩:=zot k (T:=S.map zaf++[o]) none hTl (by rw[hml1];omega)
 have h3:=zpt (ext:=ext) (T:=S.map zaf) c.c642 c.c578 (some S.length) (zec tObj _) (by rw[hml];omega)
 have h4:=zn5 (ext:=ext) (T:=S.map zaf) (B:=[o]) c.c639 c.c578 none (zec tObj _) (by rw[hml1];omega)
 unfold ze8 ze7 at h3
 unfold zd2 at h4
 rw[hml1]at h2 h4
 rw[hml]at h3 h4
 have hW:=zps (S.map zaf)
 rw[zad code ext c.c640]
 unfold sM sK at hd
 rw[hml]at hd
 simp only[xan,if_false]at hd ⊢
 have hTn:(S.map zaf++[o]).length<=10000000:=by rw[hml1];omega
 generalize zdg (S.map zaf)=W at *
 generalize tObj.row (S.map zaf++[o])=R2 at *
 generalize tObj.row (S.map zaf)=R1 at *
 generalize S.map zaf++[o]=T at *
 generalize zdu [o]=ask at *
 have hb:∃P b q,XM b T (Xf b)/\P.length=b/\1<=b/\P[q]?=some (.rich [.osl b 0 5 (S.length+1) (some (S.length+1)),.imm (.val (.int .u8 kk)),zaa n,zaj t,zaa ask])/\
   den code ext x640Q.body ⟨0,enter 0 [.imm sv,.imm (.val (.int .u8 op)),zaa n0,.imm lv],[]⟩=some (.ret,⟨0,[(8,.optr q 0)],P++Xf b⟩):=by
  by_cases h0:S.length=0
  ·rw[if_pos h0,if_pos h0]at h3
   rw[if_pos h0]at h4
   generalize S.length=N at *
   refine⟨[.rich [.imm sv],.rich [.osl 6 0 5 (N+1) (some (N+1)),.imm (.val (.int .u8 kk)),zaa n,zaj t,zaa ask],.flat R1 false,.rich [.osl 4 0 5 (N+1) none,zaa 1152921504606846976,zaa w],.flat R2 false,.rich [.imm (.val (.int .u8 kk)),zaa n,zaj t,avb false]],6,1,hX 6,rfl,by decide,rfl,?_⟩
   simp -implicitDefEqProofs [-IV.plain,x640Q,-zbg,h1,h2,h3,h4,ha,hd]
  ·rw[if_neg h0,if_neg h0]at h3
   rw[if_neg h0]at h4
   generalize S.length=N at *
   refine⟨[.rich [.imm sv],.rich [.osl 7 0 5 (N+1) (some (N+1)),.imm (.val (.int .u8 kk)),zaa n,zaj t,zaa ask],.flat R1 false,.rich [.osl 5 0 5 (N+1) none,zaa 1152921504606846976,zaa w],.flat W false,.flat R2 false,.rich [.imm (.val (.int .u8 kk)),zaa n,zaj t,avb false]],7,1,hX 7,rfl,by decide,rfl,?_⟩
   simp -implicitDefEqProofs [-IV.plain,x640Q,-zbg,h1,h2,h3,h4,ha,hd,hW]
 obtain⟨P,b,q,g1,g2,g3,g5,g6⟩:=hb
 obtain⟨X',g7,g8⟩:=zjo (xf:=x640Q) rfl g1 g2 g3 hTn g5
 refine⟨X',g7,?_⟩
 simp only[xaz]
 rw[g6]
 exact g8
end
set_option maxHeartbeats 8000000
section
variable {code:Nat->Option zab} {ext:zac}
theorem zvp (c:DoQ code) {sv:IV} {S:List Obj} (kt:zny code ext S.length) (hrd:zak tObj sv S) (hz:zbt sv=false) (hSl:∀o∈S,o.l.xs.length<=1000000) (hlen:S.length<=1000000) {lv:IV} (ha:zg4 code ext sv lv false) (op n0 kk n:Int) (t:ByteArray)
  {o:Obj} {W2:List IV} {n2:Nat} {cap2:Option Nat} (hW2:W2=tVal.row o.l.xs) (hn2:n2=o.l.xs.length) (hx2:n2<=1000000) (hiv:o.l.iv=.slice W2 0 n2 cap2) (u:Int)
  (hd:callW code ext 206 [.optr 0 0,.agg [.imm (.val (.int .u8 op)),zaa n0,.imm lv,zae]] (sM false (S.map zaf))=some (zdb kk n t,sKP false (S.map zaf) o W2 n2 cap2 u)):
  ∃X,XM 0 (S.map zaf++[o]) X/\callW code ext 640 [.imm sv,.imm (.val (.int .u8 op)),zaa n0,.imm lv] []=
   some (.agg [.osl 0 0 5 (S.length+1) (some (S.length+1)),.imm (.val (.int .u8 kk)),zaa n,zaj t,zaa (zdu [o])],X):=by
 unfold zg4 at ha
 have hml:(S.map zaf).length=S.length:=xam ..
 have hml1:(S.map zaf++[o]).length=S.length+1:=by rw[xak,hml];rfl
 have hT2x:∀q∈S.map zaf++[o],q.l.xs.length<=1000000:=by
  intro q hq
  rcases xaj.1 hq with hq|hq
  ·exact zkr hSl q hq
  ·rw[xav.1 hq,<-hn2];exact hx2
 have hT2g:(S.map zaf++[o])[S.length]?=some o:=by rw[xag (by omega),hml,xcl];rfl
 have h1:=kt.imm hrd hz hSl (by omega)
 unfold zdr at h1
 rw[xaq (xap _)]at h1
 simp only at h1
 have h2:=zpt (ext:=ext) (T:=S.map zaf) c.c642 c.c578 (some S.length) (zec tObj _) (by rw[hml];omega)
 obtain⟨Xf,hX,h3⟩:=z16 kt hT2g cap2 none hT2x (by omega) (by rw[<-hW2,<-hn2];exact hiv)
 rw[hml1]at h3
 rw[<-hW2,<-hn2]at h3
 have h4:=zn5 (ext:=ext) (T:=S.map zaf) (B:=[o]) c.c639 c.c578 none (zec tObj _) (by rw[hml1];omega)
 unfold ze8 ze7 at h2
 unfold zd2 at h4
 rw[hml1]at h4
 rw[hml]at h2 h4
 have hW:=zps (S.map zaf)
 have p1:=zd0
 have hrl2:(tObj.row (S.map zaf++[o])).length=(S.length+1)*5:=by have:=zca tObj (S.map zaf++[o]);rw[hml1]at this;exact this
 have hrf2:∀v:AV,AV.refs.refsL (zax (tObj.row (S.map zaf++[o])) (S.length*5+2) v)=v.refs:=fun v=>zdz (by omega)
 have hfz2:=fun m id (hm:m[id]?=some (AObj.flat W2 false))=>z07 m (id:=id) (n:=n2) (cap:=cap2) (R:=tObj.row (S.map zaf++[o])) (p:=S.length*5+2) (by rw[<-hiv];exact zxl hT2g) hm
 rw[zad code ext c.c640]
 unfold sM sKP at hd
 rw[hml]at hd
 simp only[xan,if_false]at hd ⊢
 have hTl:(S.map zaf++[o]).length<=10000000:=by rw[hml1];omega
 clear hrl2 hT2g hT2x hiv hn2 hW2
 generalize zdu [o]=ask at *
 generalize tObj.row (S.map zaf++[o])=R2 at *
 generalize S.map zaf++[o]=T2 at *
 generalize zdg (S.map zaf)=Z at *
 generalize tObj.row (S.map zaf)=R1 at *
 have hb:∃P b q',XM b T2 (Xf b)/\P.length=b/\1<=b/\P[q']?=some (.rich [.osl b 0 5 (S.length+1) (some (S.length+1)),.imm (.val (.int .u8 kk)),zaa n,zaj t,zaa ask])/\
   den code ext x640Q.body ⟨0,enter 0 [.imm sv,.imm (.val (.int .u8 op)),zaa n0,.imm lv],[]⟩=some (.ret,⟨0,[(8,.optr q' 0)],P++Xf b⟩):=by
  by_cases h0:S.length=0
  ·rw[if_pos h0,if_pos h0]at h2
   rw[if_pos h0]at h4
   generalize S.length=N at *
   have h3:=fun s=>h3 s 4 5
   refine⟨[.rich [.imm sv],.rich [.osl 7 0 5 (N+1) (some (N+1)),.imm (.val (.int .u8 kk)),zaa n,zaj t,zaa ask],.flat R1 false,.rich [.osl 4 0 5 (N+1) none,zaa 1152921504606846976,zaa u],.rich (zax R2 (N*5+2) (.osl 5 0 2 n2 cap2)),.flat W2 false,.rich [.imm (.val (.int .u8 kk)),zaa n,zaj t,avb false]],7,1,hX 7,rfl,by decide,rfl,?_⟩
   simp -implicitDefEqProofs [-IV.plain,x640Q,-zbg,h1,h2,h3,h4,ha,hd,hrf2,p1,hfz2]
  ·rw[if_neg h0,if_neg h0]at h2
   rw[if_neg h0]at h4
   generalize S.length=N at *
   have h3:=fun s=>h3 s 5 6
   refine⟨[.rich [.imm sv],.rich [.osl 8 0 5 (N+1) (some (N+1)),.imm (.val (.int .u8 kk)),zaa n,zaj t,zaa ask],.flat R1 false,.rich [.osl 5 0 5 (N+1) none,zaa 1152921504606846976,zaa u],.flat Z false,.rich (zax R2 (N*5+2) (.osl 6 0 2 n2 cap2)),.flat W2 false,.rich [.imm (.val (.int .u8 kk)),zaa n,zaj t,avb false]],8,1,hX 8,rfl,by decide,rfl,?_⟩
   simp -implicitDefEqProofs [-IV.plain,x640Q,-zbg,h1,h2,h3,h4,ha,hd,hW,hrf2,p1,hfz2]
 obtain⟨P,b,q',g1,g2,g3,g5,g6⟩:=hb
 obtain⟨X',g7,g8⟩:=zjo (xf:=x640Q) rfl g1 g2 g3 hTl g5
 refine⟨X',g7,?_⟩
 simp only[xaz]
 rw[g6]
 exact g8
theorem z8d (c:DoQ code) {sv:IV} {S:List Obj} (kt:zny code ext S.length) (hrd:zak tObj sv S) (hz:zbt sv=false) (hSl:∀o∈S,o.l.xs.length<=1000000) (hlen:S.length<=1000000) {xs:List Val} (ha:zii code ext sv xs false) (op n0 kk n:Int) (t:ByteArray)
  {o:Obj} {W2:List IV} {n2:Nat} {cap2:Option Nat} (hW2:W2=tVal.row o.l.xs) (hn2:n2=o.l.xs.length) (hx2:n2<=1000000) (hiv:o.l.iv=.slice W2 0 n2 cap2) (u:Int)
  (hd:callW code ext 206 [.optr 0 0,.agg [.imm (.val (.int .u8 op)),zaa n0,.osl 1 0 2 xs.length (some xs.length),zae]] (sL false (S.map zaf) (tVal.row xs) 0)=some (zdb kk n t,sKQ (S.map zaf) (tVal.row xs) o W2 n2 cap2 u)):
  ∃X,XM 1 (S.map zaf++[o]) X/\callW code ext 640 [.imm sv,.imm (.val (.int .u8 op)),zaa n0,.osl 0 0 2 xs.length (some xs.length)] [.flat (tVal.row xs) false]=
   some (.agg [.osl 1 0 5 (S.length+1) (some (S.length+1)),.imm (.val (.int .u8 kk)),zaa n,zaj t,zaa (zdu [o])],.flat (tVal.row xs) false::X):=by
 unfold zii at ha
 have hml:(S.map zaf).length=S.length:=xam ..
 have hml1:(S.map zaf++[o]).length=S.length+1:=by rw[xak,hml];rfl
 have hT2x:∀q∈S.map zaf++[o],q.l.xs.length<=1000000:=by
  intro q hq
  rcases xaj.1 hq with hq|hq
  ·exact zkr hSl q hq
  ·rw[xav.1 hq,<-hn2];exact hx2
 have hT2g:(S.map zaf++[o])[S.length]?=some o:=by rw[xag (by omega),hml,xcl];rfl
 have h1:=kt.imm hrd hz hSl (by omega)
 unfold zdr at h1
 rw[xaq (xap _)]at h1
 simp only at h1
 have h2:=zpt (ext:=ext) (T:=S.map zaf) c.c642 c.c578 (some S.length) (zec tObj _) (by rw[hml];omega)
 obtain⟨Xf,hX,h3⟩:=z16 kt hT2g cap2 none hT2x (by omega) (by rw[<-hW2,<-hn2];exact hiv)
 rw[hml1]at h3
 rw[<-hW2,<-hn2]at h3
 have h4:=zn5 (ext:=ext) (T:=S.map zaf) (B:=[o]) c.c639 c.c578 none (zec tObj _) (by rw[hml1];omega)
 unfold ze8 ze7 at h2
 unfold zd2 at h4
 rw[hml1]at h4
 rw[hml]at h2 h4
 have hW:=zps (S.map zaf)
 have p1:=zd0
 have hrl2:(tObj.row (S.map zaf++[o])).length=(S.length+1)*5:=by have:=zca tObj (S.map zaf++[o]);rw[hml1]at this;exact this
 have hrf2:∀v:AV,AV.refs.refsL (zax (tObj.row (S.map zaf++[o])) (S.length*5+2) v)=v.refs:=fun v=>zdz (by omega)
 have hfz2:=fun m id (hm:m[id]?=some (AObj.flat W2 false))=>z07 m (id:=id) (n:=n2) (cap:=cap2) (R:=tObj.row (S.map zaf++[o])) (p:=S.length*5+2) (by rw[<-hiv];exact zxl hT2g) hm
 rw[zad code ext c.c640]
 unfold sL sKQ at hd
 rw[hml]at hd
 simp only[xan,if_false]at hd ⊢
 have hTl:(S.map zaf++[o]).length<=10000000:=by rw[hml1];omega
 clear hrl2 hT2g hT2x hiv hn2 hW2
 generalize zdu [o]=ask at *
 generalize tObj.row (S.map zaf++[o])=R2 at *
 generalize S.map zaf++[o]=T2 at *
 generalize zdg (S.map zaf)=Z at *
 generalize tObj.row (S.map zaf)=R1 at *
 generalize tVal.row xs=L at *
 generalize xs.length=m at *
 have hb:∃P b q',XM b T2 (Xf b)/\P.length=b/\1<=b/\P[0]?=some (.flat L false)/\P[q']?=some (.rich [.osl b 0 5 (S.length+1) (some (S.length+1)),.imm (.val (.int .u8 kk)),zaa n,zaj t,zaa ask])/\
   den code ext x640Q.body ⟨1,enter 0 [.imm sv,.imm (.val (.int .u8 op)),zaa n0,.osl 0 0 2 m (some m)],[.flat L false]⟩=some (.ret,⟨1,[(8,.optr q' 0)],P++Xf b⟩):=by
  by_cases h0:S.length=0
  ·rw[if_pos h0,if_pos h0]at h2
   rw[if_pos h0]at h4
   generalize S.length=N at *
   have h3:=fun s=>h3 s 5 6
   refine⟨[.flat L false,.rich [.imm sv],.rich [.osl 8 0 5 (N+1) (some (N+1)),.imm (.val (.int .u8 kk)),zaa n,zaj t,zaa ask],.flat R1 false,.rich [.osl 5 0 5 (N+1) none,zaa 1152921504606846976,zaa u],.rich (zax R2 (N*5+2) (.osl 6 0 2 n2 cap2)),.flat W2 false,.rich [.imm (.val (.int .u8 kk)),zaa n,zaj t,avb false]],8,2,hX 8,rfl,by decide,rfl,rfl,?_⟩
   simp -implicitDefEqProofs [-IV.plain,x640Q,-zbg,h1,h2,h3,h4,ha,hd,hrf2,p1,hfz2]
  ·rw[if_neg h0,if_neg h0]at h2
   rw[if_neg h0]at h4
   generalize S.length=N at *
   have h3:=fun s=>h3 s 6 7
   refine⟨[.flat L false,.rich [.imm sv],.rich [.osl 9 0 5 (N+1) (some (N+1)),.imm (.val (.int .u8 kk)),zaa n,zaj t,zaa ask],.flat R1 false,.rich [.osl 6 0 5 (N+1) none,zaa 1152921504606846976,zaa u],.flat Z false,.rich (zax R2 (N*5+2) (.osl 7 0 2 n2 cap2)),.flat W2 false,.rich [.imm (.val (.int .u8 kk)),zaa n,zaj t,avb false]],9,2,hX 9,rfl,by decide,rfl,rfl,?_⟩
   simp -implicitDefEqProofs [-IV.plain,x640Q,-zbg,h1,h2,h3,h4,ha,hd,hW,hrf2,p1,hfz2]
 obtain⟨P,b,q',g1,g2,g3,g4,g5,g6⟩:=hb
 obtain⟨X',g7,g8⟩:=zrj g1 g2 g3 hTl g4 g5
 refine⟨X',g7,?_⟩
 simp only[xax,xaz,xaw]
 rw[g6]
 exact g8
end
structure zkj (code:Nat->Option zab):Prop extends DoQ code where
 c207:code 207=some zj6
 c628:code 628=some x628Q
 c629:code 629=some x629Q
 c632:code 632=some x632Q
 c633:code 633=some x633Q
 c638:code 638=some x638
abbrev zb1(N:Nat)(kk n:Int)(t:ByteArray)(w:Int)(b:Nat):AV:=.agg [.osl b 0 5 N (some N),.imm (.val (.int .u8 kk)),zaa n,zaj t,zaa w]
section
variable {code:Nat->Option zab} {ext:zac}
theorem zwm{N:Nat}{T:List Obj}{X:Mem}(hX:XM 0 T X){sv lv:IV}{op n0 kk n w:Int}{t:ByteArray}
  (h:callW code ext 640 [.imm sv,.imm (.val (.int .u8 op)),zaa n0,.imm lv] []=some (zb1 N kk n t w 0,X)):
  ∃Xf:Nat->Mem,(∀n,XM n T (Xf n))/\∀(s:St),zbg (callW code ext) s 640 [.imm sv,.imm (.val (.int .u8 op)),zaa n0,.imm lv]=some (zb1 N kk n t w s.mem.length,{ s with mem:=s.mem++Xf s.mem.length }):=by
 refine⟨fun n=>X.map (AObj.ren fun i=>some (n+i)),fun n=>zkf hX fun i hi=>by simp,fun s=>?_⟩
 have ho:order 0 [] s.mem=[]:=by
  unfold order
  simp only[xcr,Mem.refs,xas,List.range_zero]
  rw[show(1000000000000:Nat)=999999999999+1 from rfl,reach]
 have hro:AV.refs.refsL [.imm sv,.imm (.val (.int .u8 op)),zaa n0,.imm lv]=[]:=rfl
 have hrn:AV.ren.renL (place []) [.imm sv,.imm (.val (.int .u8 op)),zaa n0,.imm lv]=[.imm sv,.imm (.val (.int .u8 op)),zaa n0,.imm lv]:=rfl
 have hl1:0<X.length:=by obtain⟨ob,rfl,_⟩:=hX;simp
 have hmap:∀n,X.map (AObj.ren fun i=>if i<0 then([]:List Nat)[i]? else some (n+(i-0)))=X.map (AObj.ren fun i=>some (n+i)):=fun n=>by
  refine xbk fun o ho=>zh3 o fun id hid=>?_
  rw[if_neg (by omega),Nat.sub_zero]
 have hall:(((zb1 N kk n t w 0).refs.all fun j=>decide (j<X.length))&&X.all fun o=>o.refs.all fun j=>decide (j<X.length))=true:=by
  rw[xae]
  refine⟨by simp[AV.refs,AV.refs.refsL,hl1],?_⟩
  rw[xai]
  intro o ho
  rw[xai]
  intro r hr
  have:=zlt hX o ho r hr
  simp;omega
 unfold zbg
 rw[hro,ho]
 dsimp only
 rw[show s.mem.pickAll []=[]from rfl,hrn,h]
 simp only[xaz]at hmap hall ⊢
 rw[if_pos]
 ·simp only[xc5,hmap]
  simp[AV.ren,AV.ren.renL]
 ·refine⟨by simp,?_⟩
  rw[xae]
  refine⟨by simp,hall⟩
theorem zxc(h:code 632=some x632Q){N:Nat}{T:List Obj}(hT:T.length<=10000000){sv lv:IV}{kk n w:Int}{t:ByteArray}
  (hd:∃X,XM 0 T X/\callW code ext 640 [.imm sv,.imm (.val (.int .u8 22)),zaa 0,.imm lv] []=some (zb1 N kk n t w 0,X)):
  ∃X,XM 0 T X/\callW code ext 632 [.imm sv,.imm lv] []=some (zb1 N kk n t w 0,X):=by
 obtain⟨X,hX,hd⟩:=hd
 obtain⟨Xf,hXf,hl⟩:=zwm hX hd
 have hb:den code ext x632Q.body ⟨0,enter 0 [.imm sv,.imm lv],[]⟩=some (.ret,⟨0,[(4,.optr 0 0)],[.rich [.osl 1 0 5 N (some N),.imm (.val (.int .u8 kk)),zaa n,zaj t,zaa w]]++Xf 1⟩):=by
  simp -implicitDefEqProofs [-IV.plain,x632Q,-zbg,hl]
 obtain⟨X',g7,g8⟩:=zjo (xf:=x632Q) rfl (q:=0) (P:=[.rich [.osl 1 0 5 N (some N),.imm (.val (.int .u8 kk)),zaa n,zaj t,zaa w]]) (hXf 1) rfl (by decide) hT rfl
 refine⟨X',g7,?_⟩
 rw[zad code ext h]
 simp only[xaz]
 rw[hb]
 exact g8
theorem zo7(h:code 633=some x633Q){N:Nat}{T:List Obj}(hT:T.length<=10000000){sv lv:IV}{kk n w:Int}{t:ByteArray}
  (hd:∃X,XM 0 T X/\callW code ext 640 [.imm sv,.imm (.val (.int .u8 23)),zaa 0,.imm lv] []=some (zb1 N kk n t w 0,X)):
  ∃X,XM 0 T X/\callW code ext 633 [.imm sv,.imm lv] []=some (zb1 N kk n t w 0,X):=by
 obtain⟨X,hX,hd⟩:=hd
 obtain⟨Xf,hXf,hl⟩:=zwm hX hd
 have hb:den code ext x633Q.body ⟨0,enter 0 [.imm sv,.imm lv],[]⟩=some (.ret,⟨0,[(4,.optr 0 0)],[.rich [.osl 1 0 5 N (some N),.imm (.val (.int .u8 kk)),zaa n,zaj t,zaa w]]++Xf 1⟩):=by
  simp -implicitDefEqProofs [-IV.plain,x633Q,-zbg,hl]
 obtain⟨X',g7,g8⟩:=zjo (xf:=x633Q) rfl (q:=0) (P:=[.rich [.osl 1 0 5 N (some N),.imm (.val (.int .u8 kk)),zaa n,zaj t,zaa w]]) (hXf 1) rfl (by decide) hT rfl
 refine⟨X',g7,?_⟩
 rw[zad code ext h]
 simp only[xaz]
 rw[hb]
 exact g8
theorem zxb(h:code 629=some x629Q){N:Nat}{T:List Obj}(hT:T.length<=10000000){sv lv:IV}{fn kk n w:Int}{t:ByteArray}
  (hd:∃X,XM 0 T X/\callW code ext 640 [.imm sv,.imm (.val (.int .u8 26)),zaa fn,.imm lv] []=some (zb1 N kk n t w 0,X)):
  ∃X,XM 0 T X/\callW code ext 629 [.imm sv,zaa fn,.imm lv] []=some (zb1 N kk n t w 0,X):=by
 obtain⟨X,hX,hd⟩:=hd
 obtain⟨Xf,hXf,hl⟩:=zwm hX hd
 have hb:den code ext x629Q.body ⟨0,enter 0 [.imm sv,zaa fn,.imm lv],[]⟩=some (.ret,⟨0,[(6,.optr 0 0)],[.rich [.osl 1 0 5 N (some N),.imm (.val (.int .u8 kk)),zaa n,zaj t,zaa w]]++Xf 1⟩):=by
  simp -implicitDefEqProofs [-IV.plain,x629Q,-zbg,hl]
 obtain⟨X',g7,g8⟩:=zjo (xf:=x629Q) rfl (q:=0) (P:=[.rich [.osl 1 0 5 N (some N),.imm (.val (.int .u8 kk)),zaa n,zaj t,zaa w]]) (hXf 1) rfl (by decide) hT rfl
 refine⟨X',g7,?_⟩
 rw[zad code ext h]
 simp only[xaz]
 rw[hb]
 exact g8
theorem zxa(h:code 628=some x628Q){N:Nat}{T:List Obj}(hT:T.length<=10000000){sv:IV}{kk n w:Int}{t:ByteArray}{v:Val}
  (hd:∃X,XM 1 T X/\callW code ext 640 [.imm sv,.imm (.val (.int .u8 7)),zaa 0,.osl 0 0 2 1 (some 1)] [.flat (tVal.row [v]) false]=some (zb1 N kk n t w 1,.flat (tVal.row [v]) false::X)):
  ∃X,XM 0 T X/\callW code ext 628 [.imm sv,zc7 v] []=some (zb1 N kk n t w 0,X):=by
 obtain⟨X,hX,hd⟩:=hd
 obtain⟨Xf,hXf,hl⟩:=ya3 hX hd
 rw[show tVal.row [v]=[.val (.int .u8 v.k),.val (.int .i64 v.n)]from rfl]at hl
 unfold zc7
 have hb:den code ext x628Q.body ⟨0,enter 0 [.imm sv,.agg [.imm (.val (.int .u8 v.k)),zaa v.n]],[]⟩=some (.ret,⟨0,[(4,.optr 1 0)],[.rich [.imm (.val (.int .u8 v.k)),zaa v.n],.rich [.osl 3 0 5 N (some N),.imm (.val (.int .u8 kk)),zaa n,zaj t,zaa w],.flat [.val (.int .u8 v.k),.val (.int .i64 v.n)] false]++Xf 3⟩):=by
  simp -implicitDefEqProofs [-IV.plain,x628Q,-zbg,hl]
 obtain⟨X',g7,g8⟩:=zjo (xf:=x628Q) rfl (q:=1) (P:=[.rich [.imm (.val (.int .u8 v.k)),zaa v.n],.rich [.osl 3 0 5 N (some N),.imm (.val (.int .u8 kk)),zaa n,zaj t,zaa w],.flat [.val (.int .u8 v.k),.val (.int .i64 v.n)] false]) (hXf 3) rfl (by decide) hT rfl
 refine⟨X',g7,?_⟩
 rw[zad code ext h]
 simp only[xaz]
 rw[hb]
 exact g8
abbrev zoq(t:ByteArray):List IV:=[.val (.int .u8 3),.val (.int .i64 0),.val (.string t)]
theorem z8g(c:PlainFns code){T:List Obj}(hn:T.length<=100000000)(t:ByteArray):
  callW code ext 206 [.optr 0 0,.agg [.imm (.val (.int .u8 1)),zaa 0,zae,.osl 1 0 3 1 (some 1)]] (sL false T (zoq t) 0)=
   if t.size<=4096 then some (zdb 3 ((T.length+1:Nat):Int) .empty,sKM false T (zoq t) (zb0 t) (zay (zb0 t)))else some (zdb 0 0 zhy,sL false T (zoq t) 0):=by
 have f1:=yd7 (ext:=ext) c (nl:=false) (T:=T) (by simp) hn t
 rw[zad code ext c.c206]
 unfold sM sK sL sKM at *
 simp only[xan,if_false]at f1 ⊢
 generalize zay (zb0 t)=w at *
 generalize tObj.row (T++[zb0 t])=R2 at *
 generalize tObj.row T=R at *
 generalize ((T.length+1:Nat):Int)=N1 at *
 split
 ·rename_i h
  rw[if_pos h]at f1
  simp -implicitDefEqProofs [zfq,f1]
 ·rename_i h
  rw[if_neg h]at f1
  simp -implicitDefEqProofs [zfq,f1]
end
theorem yjr{b:Nat}{P Q:Mem}{T:List Obj}{X:Mem}(h:XM b T X)(hP:P.length=b)(hT:T.length<=10000000):order 0 [b] (P++X++Q)=List.range' b X.length:=by
 have hl:=zhp h
 have hle:=zzl T
 obtain⟨ob,rfl,hro⟩:=h
 unfold order
 rw[xcr,show Mem.refs []=[]from rfl,xas]
 rw[show(1000000000000:Nat)=999999999999+1 from rfl,reach]
 have hbl:b<(P++ob::clM T++Q).length:=by simp;omega
 have hgb:(P++ob::clM T++Q)[b]?=some ob:=by rw[xac (by simp;omega),xag (by omega),hP,xcl];rfl
 rw[if_neg (by simp),if_pos hbl,hgb,xa0,zmz hro,zq2,xa7]
 rw[zrz]
 ·rw[hl,List.range'_succ];rfl
 ·simp;omega
 ·intro t ht
  rw[xc1]at ht
  refine⟨by simp;omega,?_,by simp;omega⟩
  rw[xac (by simp;omega),xag (by omega),hP]
  have:t-b=(t-b-1)+1:=by omega
  rw[this,xba]
  have hlt:t-b-1<(clM T).length:=by omega
  rw[xaa hlt,xa0]
  obtain⟨cs,e⟩:=zq1 _ (xa8 hlt)
  rw[e];rfl
 ·exact List.nodup_range'
theorem yjt{b:Nat}{P Q:Mem}{T:List Obj}{X:Mem}(h:XM b T X)(hP:P.length=b):
  ∃X',(P++X++Q).pickAll (List.range' b X.length)=X'/\XM 0 T X':=by
 obtain⟨X',h1,h2⟩:=zym (k:=0) h hP (by omega) (by simp)
 refine⟨X',?_,h2⟩
 have e:(P++X++Q).pickAll (List.range' b X.length)=(P++X).pickAll (List.range' b X.length):=by
  simp only[Mem.pickAll]
  refine xbk fun id hid=>?_
  rw[xc1]at hid
  rw[xac (by rw[xak];omega)]
 rw[e]
 simpa using h1
section
variable {code:Nat->Option zab} {ext:zac}
theorem z11{xf:zab}{ct:Nat}(hres:xf.res=[.cell ct (some 5)]){P Q:Mem}{b q N:Nat}{T:List Obj}{X:Mem}(hX:XM b T X)(hP:P.length=b)(hb:1<=b)(hT:T.length<=10000000){k n:Int}{t:ByteArray}{w:Int}
  (hq:P[q]?=some (.rich [.osl b 0 5 N (some N),.imm (.val (.int .u8 k)),zaa n,zaj t,zaa w])):
  ∃X',XM 0 T X'/\zha ⟨0,[(ct,.optr q 0)],P++X++Q⟩ xf=some (zb1 N k n t w 0,X'):=by
 have ho:=yjr (Q:=Q) hX hP hT
 obtain⟨X',hp,hX'⟩:=yjt (Q:=Q) hX hP
 have hpl:=zrw (k:=0) (b:=b) (n:=X.length) (i:=0) (by omega) (by rw[zhp hX];omega)
 rw[List.range_zero,xa7]at hpl
 refine⟨X',hX',?_⟩
 have hql:q<P.length:=(xab.1 hq).1
 have hq2:(P++X++Q)[q]?=some (.rich [.osl b 0 5 N (some N),.imm (.val (.int .u8 k)),zaa n,zaj t,zaa w]):=by rw[xbj,xac hql];exact hq
 have hlen:¬(P++X++Q).length=0:=by rw[xak,xak,hP,zhp hX];omega
 have hld:loadAt (P++X++Q) (some 5) (.optr q 0)=some (.agg [.osl b 0 5 N (some N),.imm (.val (.int .u8 k)),zaa n,zaj t,zaa w]):=by simp only[loadAt,hq2,zdw];simp
 unfold zha
 simp only[hres,XRes.outs,XRes.asIs,xa5,List.mapM_nil,zgx,Env.get,if_true,hld,xch,xb0,xbe,xao,zhk,hlen,if_false,xan]
 simp only[AV.refs,AV.refs.refsL,xas,xa7,ho,hp,xcr]
 simp only[AV.ren,AV.ren.renL]
 rw[xbi]at hpl
 rw[hpl]
theorem ya1{sv:IV}{N:Nat}{R:List IV}(h:callW code ext 643 [.imm sv] []=some (.osl 0 0 5 N (some N),[.flat R false]))(s:St):
  zbg (callW code ext) s 643 [.imm sv]=some (.osl s.mem.length 0 5 N (some N),{ s with mem:=s.mem++[.flat R false] }):=by
 have ho:order 0 [] s.mem=[]:=by
  unfold order
  simp only[xcr,Mem.refs,xas,List.range_zero]
  rw[show(1000000000000:Nat)=999999999999+1 from rfl,reach]
 have hro:AV.refs.refsL [.imm sv]=[]:=rfl
 have hrn:AV.ren.renL (place []) [.imm sv]=[.imm sv]:=rfl
 unfold zbg
 rw[hro,ho]
 dsimp only
 rw[show s.mem.pickAll []=[]from rfl,hrn,h]
 simp[AV.refs,AObj.refs,AV.ren,AObj.ren]
set_option maxHeartbeats 4000000 in
theorem ye9 (c:zkj code) (k:zkl code ext) {sv:IV} {S:List Obj} (hr:zak tObj sv S) (hz:zbt sv=false) (hS:∀o∈S,o.l.xs.length<=1000000) (hn:S.length<=1000000) (t:ByteArray):
  (t.size<=4096->∃X,XM 0 (S.map zaf++[zb0 t]) X/\callW code ext 638 [.imm sv,zaj t] []=some (zb1 (S.length+1) 3 ((S.length+1:Nat):Int) .empty (zay (zb0 t)) 0,X))/\
  (¬t.size<=4096->∃X,XM 0 (S.map zaf) X/\callW code ext 638 [.imm sv,zaj t] []=some (zb1 S.length 0 0 zhy 0 0,X)):=by
 have h1:=ya1 (k.imm hr hz hS (by omega))
 have hml:(S.map zaf).length=S.length:=xam ..
 have hd:=z8g (ext:=ext) c.toPlainFns (T:=S.map zaf) (by omega) t
 constructor
 ·intro ht
  rw[if_pos ht]at hd
  have hml1:(S.map zaf++[zb0 t]).length=S.length+1:=by rw[xak,hml];rfl
  have hTl:∀q∈S.map zaf++[zb0 t],q.l.xs.length<=1000000:=by
   intro q hq
   rcases xaj.1 hq with hq|hq
   ·exact zkr hS q hq
   ·rw[xav.1 hq];simp[zb0]
  obtain⟨Xf,hX,h2⟩:=zot k (T:=S.map zaf++[zb0 t]) none hTl (by rw[hml1];omega)
  obtain⟨m3,h3⟩:∃m,callW code ext 578 [.agg [.imm (.val (.int .u8 3)),zaj t,zae,zaa 0,zaa 0]] []=some (zaa (zay (zb0 t)),m):=zm4 (ext:=ext) c.c578 (zb0 t)
  have hcut:cut (tObj.row (S.map zaf++[zb0 t])) (S.length*5) 5=some [.val (.int .u8 3),.val (.string t),.val (.slice none 0 0),.val (.int .i64 0),.val (.int .i64 0)]:=ze1 (t:=tObj) (xs:=S.map zaf++[zb0 t]) (i:=S.length) (x:=zb0 t) (by rw[xag (by omega),hml,xcl];rfl)
  have e1:IntKind.wrap .i64 (S.length:Int)=(S.length:Int):=zaw (by omega) (by omega)
  have e2:(S.length:Int)<(S.length:Int)+1:=by omega
  have e3:∀(X:Mem) (c:AObj),(X++[c])[X.length]?=some c:=fun X c=>ze2 X c
  have e4:∀(X:Mem) (c d:AObj),(X++[c]).set X.length d=X++[d]:=fun X c d=>by rw[xbb _ _ (xap _),xcl];rfl
  rw[hml1]at h2
  rw[zad code ext c.c638]
  unfold sL sKM at hd
  rw[hml]at hd
  simp only[xan,if_false]at hd ⊢
  have hTn:(S.map zaf++[zb0 t]).length<=10000000:=by rw[hml1];omega
  generalize zay (zb0 t)=w at *
  generalize tObj.row (S.map zaf++[zb0 t])=R2 at *
  generalize tObj.row (S.map zaf)=R1 at *
  generalize S.map zaf++[zb0 t]=T at *
  have hb:∃P Q b,XM b T (Xf b)/\P.length=b/\1<=b/\P[0]?=some (.rich [.osl b 0 5 (S.length+1) (some (S.length+1)),.imm (.val (.int .u8 3)),zaa ((S.length+1:Nat):Int),zaj .empty,zaa w])/\
    den code ext x638.body ⟨0,enter 0 [.imm sv,zaj t],[]⟩=some (.ret,⟨0,[(4,.optr 0 0)],P++Xf b++Q⟩):=by
   generalize S.length=N at *
   refine⟨[.rich [.osl 6 0 5 (N+1) (some (N+1)),.imm (.val (.int .u8 3)),zaa ((N+1:Nat):Int),zaj .empty,zaa w],.flat R1 false,.rich [.osl 4 0 5 (N+1) none,zaa 1152921504606846976,zaa w],.flat (zoq t) false,.flat R2 false,.rich [.imm (.val (.int .u8 3)),zaa ((N+1:Nat):Int),zaj .empty,avb false]],[.rich [.osl 6 0 5 (N+1) (some (N+1)),.imm (.val (.int .u8 3)),zaa ((N+1:Nat):Int),zaj .empty,zaa w]],6,hX 6,rfl,by decide,rfl,?_⟩
   simp -implicitDefEqProofs [-IV.plain,x638,-zbg,h1,h2,h3,hd,hcut,e1,e2,e3,e4]
  obtain⟨P,Q,b,g1,g2,g3,g5,g6⟩:=hb
  obtain⟨X',g7,g8⟩:=z11 (xf:=x638) rfl g1 g2 g3 hTn g5
  refine⟨X',g7,?_⟩
  simp only[xaz]
  rw[g6]
  exact g8
 ·intro ht
  rw[if_neg ht]at hd
  obtain⟨Xf,hX,h2⟩:=zot k (T:=S.map zaf) (some S.length) (zkr hS) (by rw[hml];omega)
  rw[hml]at h2
  have e5:¬zhy=ByteArray.empty:=fun h=>by have:=congrArg ByteArray.size h;revert this;decide
  have e3:∀(X:Mem) (c:AObj),(X++[c])[X.length]?=some c:=fun X c=>ze2 X c
  have e4:∀(X:Mem) (c d:AObj),(X++[c]).set X.length d=X++[d]:=fun X c d=>by rw[xbb _ _ (xap _),xcl];rfl
  rw[zad code ext c.c638]
  unfold sL at hd
  rw[hml]at hd
  simp only[xan,if_false]at hd ⊢
  have hTn:(S.map zaf).length<=10000000:=by rw[hml];omega
  generalize tObj.row (S.map zaf)=R1 at *
  generalize S.map zaf=T at *
  have hb:∃P Q b,XM b T (Xf b)/\P.length=b/\1<=b/\P[0]?=some (.rich [.osl b 0 5 S.length (some S.length),.imm (.val (.int .u8 0)),zaa 0,zaj zhy,zaa 0])/\
    den code ext x638.body ⟨0,enter 0 [.imm sv,zaj t],[]⟩=some (.ret,⟨0,[(4,.optr 0 0)],P++Xf b++Q⟩):=by
   generalize S.length=N at *
   refine⟨[.rich [.osl 5 0 5 N (some N),.imm (.val (.int .u8 0)),zaa 0,zaj zhy,zaa 0],.flat R1 false,.rich [.osl 1 0 5 N (some N),zaa 1152921504606846976,zaa 0],.flat (zoq t) false,.rich [.imm (.val (.int .u8 0)),zaa 0,zaj zhy,avb false]],[.rich [.osl 5 0 5 N (some N),.imm (.val (.int .u8 0)),zaa 0,zaj zhy,zaa 0]],5,hX 5,rfl,by decide,rfl,?_⟩
   simp -implicitDefEqProofs [-IV.plain,x638,-zbg,h1,h2,hd,e3,e4,e5]
  obtain⟨P,Q,b,g1,g2,g3,g5,g6⟩:=hb
  obtain⟨X',g7,g8⟩:=z11 (xf:=x638) rfl g1 g2 g3 hTn g5
  refine⟨X',g7,?_⟩
  simp only[xaz]
  rw[g6]
  exact g8
end
section
variable {code:Nat->Option zab} {ext:zac}
theorem z77(k n w:Int)(t:ByteArray)(f:Nat->Option Nat):(za1 k n t w).ren f=za1 k n t w:=rfl
theorem z9j{M:Mem}{b:Nat}{TD:List Obj}{kk n w:Int}{t:ByteArray}(h:znu M b TD):frz M (.agg [.osl b 0 5 TD.length (some TD.length),.imm (.val (.int .u8 kk)),zaa n,zaj t,zaa w])=some (.agg [.imm (.slice (tObj.row (TD.map zaf)) 0 TD.length (some TD.length)),.imm (.val (.int .u8 kk)),zaa n,zaj t,zaa w]):=by
 have f2:=z9l (z75 h)
 show(List.mapM (za5 M 20) _).map _=_
 rw[xa5,f2];rfl
end
theorem yhs{T:List Obj}{v:Val}(h:zcd T v=true):zch T v:=by
 intro h3
 unfold zcd at h
 rw[if_neg (by omega),if_neg (by omega),if_neg (by omega)]at h
 exact xbm.1 h
section
variable {code:Nat->Option zab} {ext:zac} {T:List Obj}
end
theorem z9i{R W:List IV}{N c p n:Nat}{cap:Option Nat}(hp:p<R.length):znv [.rich [.osl 1 0 5 N (some c)],.rich (zax R p (.osl 2 0 2 n cap)),.flat W false] (.slice (R.set p (.slice W 0 n cap)) 0 N (some c)):=fun M A h=>by
 have h0:M[A]?=some (.rich [.osl (A+1) 0 5 N (some c)]):=h 0 _ rfl
 have h1:M[A+1]?=some (.rich (zax R p (.osl (A+2) 0 2 n cap))):=by
  have:=h 1 _ rfl
  rw[this]
  simp only[AObj.ren,zd0,AV.ren]
 have h2:M[A+2]?=some (.flat W false):=h 2 _ rfl
 have f3:za5 M 18 (.osl (A+2) 0 2 n cap)=some (.slice W 0 n cap):=by
  show(match M[A+2]? with
    |some (.flat cells _)=>some (IV.slice cells 0 n cap)
    |some (.rich cells)=>(cells.mapM (za5 M 17)).map fun row=>.slice row 0 n cap
    |_=>none)=_
  rw[h2]
 have f2:za5 M 19 (.osl (A+1) 0 5 N (some c))=some (.slice (R.set p (.slice W 0 n cap)) 0 N (some c)):=by
  show(match M[A+1]? with
    |some (.flat cells _)=>some (IV.slice cells 0 N (some c))
    |some (.rich cells)=>(cells.mapM (za5 M 18)).map fun row=>.slice row 0 N (some c)
    |_=>none)=_
  rw[h1]
  dsimp only
  unfold zax
  rw[z09 f3 R p hp];rfl
 have f1:za5 M 20 (.optr A 0)=some (.ptr [.slice (R.set p (.slice W 0 n cap)) 0 N (some c)] 0):=by
  show(match M[A]? with
    |some (.flat cells _)=>some (IV.ptr cells 0)
    |some (.rich cells)=>(cells.mapM (za5 M 19)).map fun row=>.ptr row 0
    |_=>none)=_
  rw[h0]
  dsimp only
  rw[xa5,f2];rfl
 show(za5 M 20 (.optr A 0)).map AV.imm=_
 rw[f1];rfl
structure zu6 (T:List Obj) (o:Obj) (mc:Mem):Prop where
 l:2<=mc.length
 m0:((mc[0]?).getD AObj.dead).moved=false
 m1:((mc[1]?).getD AObj.dead).moved=false
 f:znv mc (.slice (tObj.row (T++[o])) 0 (T.length+1) (some (T.length+1)))
theorem z17(T:List Obj)(o:Obj):zu6 T o (za6 (tObj.row (T++[o])) (T.length+1) (T.length+1)):=⟨xap _,rfl,rfl,z0z⟩
theorem zrm{T:List Obj}{o:Obj}{cap:Option Nat}(h:o.l.xs.length≠0->o.l.iv=.slice (tVal.row o.l.xs) 0 o.l.xs.length cap):zu6 T o (zh0 T o cap):=by
 unfold zh0
 by_cases h0:o.l.xs.length=0
 ·rw[if_pos h0];exact z17 T o
 ·rw[if_neg h0]
  refine⟨by simp,rfl,rfl,?_⟩
  have hg:(T++[o])[T.length]?=some o:=by rw[xag (xap _),xcl];rfl
  have hc:=zxl hg
  have hrl:=zca tObj (T++[o])
  have hz:tObj.sz=5:=rfl
  rw[xak,hz]at hrl
  simp only[xax,xaz]at hrl
  have hs:(tObj.row (T++[o])).set (T.length*5+2) (.slice (tVal.row o.l.xs) 0 o.l.xs.length cap)=tObj.row (T++[o]):=by
   rw[<-h h0]
   refine xbf fun i=>?_
   by_cases hi:T.length*5+2=i
   ·subst hi
    rw[xcf (by omega),hc]
   ·rw[xa6 hi]
  have:=z9i (R:=tObj.row (T++[o])) (W:=tVal.row o.l.xs) (N:=T.length+1) (c:=T.length+1) (p:=T.length*5+2) (n:=o.l.xs.length) (cap:=cap) (by omega)
  rw[hs]at this
  exact this
theorem yiu{a b:Obj}(h:LikeObj a b):zay a=zay b:=by
 obtain⟨e1,e2,e3,e4,e5⟩:=h
 unfold zay
 rw[e1,e2,e3,e4]
theorem zn4{o:Obj}(h0:0<=zay o)(h1:zay o<=1000000):zdu [o]=zay o:=by
 unfold zdu
 simp only[List.foldl_cons,List.foldl_nil,Int.zero_add]
 exact zaw (by omega) (by omega)
def zex(code:Nat->Option zab)(ext:zac)(sv:IV)(S:List Obj)(pf:Nat)(pargs:List AV)(rf:Nat)(rargs:List AV):Prop:=
 ∃(X:Mem) (TD:List Obj) (kk n w w':Int) (t:ByteArray) (mc:Mem) (hv:IV),XM 0 TD X/\TD.length<=1000000/\(∀o∈TD,o.l.xs.length<=1000000)/\
  callW code ext pf (.imm (tsv S)::pargs) []=some (.agg [.osl 0 0 5 TD.length (some TD.length),.imm (.val (.int .u8 kk)),zaa n,zaj t,zaa w],X)/\
  callW code ext rf (.optr 0 0::rargs) (za6 (tObj.row (S.map zam++[zap])) S.length (S.length+1))=some (za1 kk n t w',mc)/\
  2<=mc.length/\((mc[0]?).getD AObj.dead).moved=false/\((mc[1]?).getD AObj.dead).moved=false/\znv mc hv/\
  ∃m,callW code ext 490 [.agg [.imm (.slice (tObj.row (TD.map zaf)) 0 TD.length (some TD.length)),.imm (.val (.int .u8 kk)),zaa n,zaj t,zaa w],.imm (.ptr [hv] 0),za1 kk n t w',.imm (tsv S),.imm sv] []=some (avb true,m)
section
variable {code:Nat->Option zab} {ext:zac}
theorem z18(sf:zhs code){T2 TD:List Obj}{hv:IV}(hA:zhq T2 TD)(hl2:T2.length<=1000000)(h2:zak tObj hv T2):callW code ext 355 [.imm (.slice (tObj.row (TD.map zaf)) 0 TD.length (some TD.length)),.imm hv] []=some (avb true,[]):=by
 have hAc:=zu7 hA
 have hle:TD.length=T2.length:=hA.len
 have h1:zak tObj (.slice (tObj.row (TD.map zaf)) 0 (TD.map zaf).length (some TD.length)) (TD.map zaf):=zi0 tObj _ hAc.wf (by rw[hAc.len];omega) (fun c hc=>by cases hc;rw[xam];exact xap _)
 rw[xam]at h1
 exact ygz (ext:=ext) sf.c355 sf.c352 sf.c351 sf.c357 h1 h2 hAc.len (fun i a b ha hb=>(hAc.like i b a hb ha).symm)
theorem zoy(sf:zhs code){sv:IV}{S:List Obj}(hr:zak tObj sv S)(hh:zhr (S.map zam)){pf rf:Nat}{pargs rargs:List AV}{t:ByteArray}{TD:List Obj}(hA:zhq (S.map zam) TD)
  (hp:∃X,XM 0 TD X/\callW code ext pf (.imm (tsv S)::pargs) []=some (zb1 S.length 0 0 t 0 0,X))
  (hq:callW code ext rf (.optr 0 0::rargs) (za6 (tObj.row (S.map zam++[zap])) S.length (S.length+1))=some (za1 0 0 t 0,za6 (tObj.row (S.map zam++[zap])) S.length (S.length+1))):
  zex code ext sv S pf pargs rf rargs:=by
 obtain⟨X,hX,hp⟩:=hp
 have hTn:=hh.n
 have hlm:(S.map zam).length=S.length:=xam ..
 have hl:TD.length=S.length:=by rw[hA.len,hlm]
 have hrT:zak tObj (tsv S) (S.map zam):=by
  have:=zxx hh
  rw[hlm]at this
  exact this
 have hleft:=z12 (ext:=ext) sf.c336 sf.c329 sf.c330 sf.c334 hr
 rw[<-hl]at hp
 refine⟨X,TD,0,0,0,0,t,_,_,hX,by omega,fun o ho=>?_,hp,hq,xap _,rfl,rfl,z0z,z33 (ext:=ext) sf.c490 sf.c492 (z18 sf hA (by omega) hrT) hleft (by split<;>rfl)⟩
 obtain⟨i,hi⟩:=xa3 ho
 rcases zy2 hA i with⟨_,h3⟩|⟨a,b,h3,h4,h5⟩
 ·rw[h3]at hi;cases hi
 ·rw[h4]at hi;cases hi
  rw[<-h5.2.2.1]
  have:=hh.l a (xah h3)
  omega
theorem zoz(sf:zhs code){sv:IV}{S:List Obj}(hr:zak tObj sv S)(hh:zhr (S.map zam)){pf rf:Nat}{pargs rargs:List AV}{kk:Int}{o o':Obj}{mc:Mem}(hlike:LikeObj o' o)(hw:tObj.wf o)(hw':tObj.wf o')(hox:o.l.xs.length<=1000000)(hm:zu6 (S.map zam) o' mc)
  (hp:∃X,XM 0 ((S.map zam).map zaf++[o]) X/\callW code ext pf (.imm (tsv S)::pargs) []=some (zb1 (S.length+1) kk ((S.length+1:Nat):Int) .empty (zay o) 0,X))
  (hq:callW code ext rf (.optr 0 0::rargs) (za6 (tObj.row (S.map zam++[zap])) S.length (S.length+1))=some (za1 kk ((S.length+1:Nat):Int) .empty (zay o'),mc)):
  zex code ext sv S pf pargs rf rargs:=by
 obtain⟨X,hX,hp⟩:=hp
 have hTn:=hh.n
 have hlm:(S.map zam).length=S.length:=xam ..
 have hleft:=z12 (ext:=ext) sf.c336 sf.c329 sf.c330 sf.c334 hr
 have hA0:zhq (S.map zam) ((S.map zam).map zaf):=zu7 ⟨rfl,fun i a b ha hb=>by rw[ha]at hb;cases hb;exact⟨rfl,rfl,rfl,rfl,rfl⟩,hh.wf⟩
 generalize hTD:(S.map zam).map zaf=TD0 at *
 have hl0:TD0.length=S.length:=by rw[hA0.len,hlm]
 have hl:(TD0++[o]).length=S.length+1:=by rw[xak,hl0];rfl
 have hA:zhq (S.map zam++[o']) (TD0++[o]):=by
  refine⟨by rw[xak,xak,hA0.len];rfl,fun i a b ha hb=>?_,fun z hz=>?_⟩
  ·by_cases hi:i<S.length
   ·rw[xac (by omega)]at ha hb
    exact hA0.like i a b ha hb
   ·rw[xag (by omega)]at ha hb
    rw[hlm]at ha
    rw[hl0]at hb
    have hz:i-S.length=0:=by
     have:=(xab.1 ha).1
     simp at this;omega
    rw[hz]at ha hb
    cases ha;cases hb
    exact hlike
  ·rcases xaj.1 hz with hz|hz
   ·exact hA0.wf z hz
   ·rw[xav.1 hz];exact hw
 have h2:zak tObj (.slice (tObj.row (S.map zam++[o'])) 0 (S.map zam++[o']).length (some (S.length+1))) (S.map zam++[o']):=zi0 tObj _ (fun z hz=>by
  rcases xaj.1 hz with hz|hz
  ·exact hh.wf z hz
  ·rw[xav.1 hz];exact hw') (by rw[xak,hlm];simp;omega) (fun c hc=>by cases hc;rw[xak,hlm];exact xap _)
 have e2:(S.map zam++[o']).length=S.length+1:=by rw[xak,hlm];rfl
 rw[e2]at h2
 have hfz:=hm.f
 rw[hlm]at hfz
 have hww:=yiu hlike
 refine⟨X,TD0++[o],kk,_,_,_,.empty,mc,_,hX,by rw[hl];omega,fun z hz=>?_,by rw[hl];exact hp,hq,hm.l,hm.m0,hm.m1,hfz,z33 (ext:=ext) sf.c490 sf.c492 (z18 sf hA (by omega) h2) hleft (by rw[if_pos rfl];exact hww.symm)⟩
 rcases xaj.1 hz with hz|hz
 ·obtain⟨i,hi⟩:=xa3 hz
  rcases zy2 hA0 i with⟨_,h3⟩|⟨a,b,h3,h4,h5⟩
  ·rw[h3]at hi;cases hi
  ·rw[h4]at hi;cases hi
   rw[<-h5.2.2.1]
   have:=hh.l a (xah h3)
   omega
 ·rw[xav.1 hz];exact hox
end
end Go.EX

