import Derived.Test.YtjdfihnmpmckjaaGreatDoorK14
set_option maxHeartbeats 1000000
set_option linter.unusedVariables false
set_option linter.unusedSimpArgs false
namespace Go.EX
section
variable {code:Nat->Option zab} {ext:zac}
theorem yat {sA:AV} {t:TP} {T:List Obj} (hT:zbb code ext sA t T) (h':code 656=some zbo) (h2:code 653=some zbt) (h3:code 759=some zbp) (h4:code 749=some zbr) (h5:code 650=some zb2) (h6:code 652=some zam) (hb:T.length<=1048576) (k:Nat) (o:Obj) (ho:T[k]?=some o) (k3:¬o.k=3) (k4:¬o.k=4) (k5:¬o.k=5) (k6:¬o.k=6) (cS:¬o.s=.empty):∃b:Bool,callW code ext 652 [sA,t.at k] []=some (avb b,[])/\(b=true↔zan T o):=by
 rw[zad code ext h6]
 have hlen:=zaz o.l.ok
 have hok:zan T o↔(o.s=.empty/\o.room=0/\o.fn=0/\(o.l.xs.length:Int)=1/\zas T o.l.xs false=true):=by
  unfold zan
  rw[if_neg k3,if_neg k4,if_neg k5,if_neg k6]
 rw[hok]
 clear hok
 have g0:t.row[t.off+k*5]?=some (.val (.int .u8 o.k)):=zai (hT.obj k o ho) 0 (by omega)
 have g1:t.row[t.off+k*5+1]?=some (.val (.string o.s)):=zai (hT.obj k o ho) 1 (by omega)
 have g2:t.row[t.off+k*5+2]?=some (o.l.iv):=zai (hT.obj k o ho) 2 (by omega)
 have g3:t.row[t.off+k*5+3]?=some (.val (.int .i64 o.room)):=zai (hT.obj k o ho) 3 (by omega)
 have g4:t.row[t.off+k*5+4]?=some (.val (.int .i64 o.fn)):=zai (hT.obj k o ho) 4 (by omega)
 have hba:=zc1 (ext:=ext) hT h' h2 h3 h4 hb k o ho o.l.ok
 rw[zc2]at hba
 rw[show decide (o.k=6)=false by simp;omega]at hba
 simp only[zbd,TP.at]at hba
 have cSt:(o.s=.empty)=False:=eq_false cS
 by_cases hh:zas T o.l.xs false=true
 case neg=>
  have hhf:zas T o.l.xs false=false:=by simpa using hh
  rw[hhf]at hba
  exact⟨false,by simp -implicitDefEqProofs [zam,hT.refs,hT.ren,TP.at,hT.box,-AV.cells,zaw,g1,g2,hlen,hba,cSt],by simp[hhf]⟩
 rw[hh]at hba
 exact⟨false,by simp -implicitDefEqProofs [zam,hT.refs,hT.ren,TP.at,hT.box,-AV.cells,zaw,k3,k4,k5,k6,g0,g1,g2,hlen,hba,cSt],by simp[cS,hh]⟩
theorem yau {sA:AV} {t:TP} {T:List Obj} (hT:zbb code ext sA t T) (h':code 656=some zbo) (h2:code 653=some zbt) (h3:code 759=some zbp) (h4:code 749=some zbr) (h5:code 650=some zb2) (h6:code 652=some zam) (hb:T.length<=1048576) (k:Nat) (o:Obj) (ho:T[k]?=some o) (k3:¬o.k=3) (k4:¬o.k=4) (k5:¬o.k=5) (k6:¬o.k=6) (cS:o.s=.empty) (cF:¬o.fn=0):∃b:Bool,callW code ext 652 [sA,t.at k] []=some (avb b,[])/\(b=true↔zan T o):=by
 rw[zad code ext h6]
 have hlen:=zaz o.l.ok
 have hok:zan T o↔(o.s=.empty/\o.room=0/\o.fn=0/\(o.l.xs.length:Int)=1/\zas T o.l.xs false=true):=by
  unfold zan
  rw[if_neg k3,if_neg k4,if_neg k5,if_neg k6]
 rw[hok]
 clear hok
 have g0:t.row[t.off+k*5]?=some (.val (.int .u8 o.k)):=zai (hT.obj k o ho) 0 (by omega)
 have g1:t.row[t.off+k*5+1]?=some (.val (.string o.s)):=zai (hT.obj k o ho) 1 (by omega)
 have g2:t.row[t.off+k*5+2]?=some (o.l.iv):=zai (hT.obj k o ho) 2 (by omega)
 have g3:t.row[t.off+k*5+3]?=some (.val (.int .i64 o.room)):=zai (hT.obj k o ho) 3 (by omega)
 have g4:t.row[t.off+k*5+4]?=some (.val (.int .i64 o.fn)):=zai (hT.obj k o ho) 4 (by omega)
 have hba:=zc1 (ext:=ext) hT h' h2 h3 h4 hb k o ho o.l.ok
 rw[zc2]at hba
 rw[show decide (o.k=6)=false by simp;omega]at hba
 simp only[zbd,TP.at]at hba
 have cSt:(o.s=.empty)=True:=eq_true cS
 have cFt:(o.fn=0)=False:=eq_false cF
 by_cases hh:zas T o.l.xs false=true
 case neg=>
  have hhf:zas T o.l.xs false=false:=by simpa using hh
  rw[hhf]at hba
  exact⟨false,by simp -implicitDefEqProofs [zam,hT.refs,hT.ren,TP.at,hT.box,-AV.cells,zaw,g1,g2,g4,hlen,hba,cSt,cFt],by simp[hhf]⟩
 rw[hh]at hba
 by_cases cZ:o.room=0
 case neg=>
  have cZt:(o.room=0)=False:=eq_false cZ
  exact⟨false,by simp -implicitDefEqProofs [zam,hT.refs,hT.ren,TP.at,hT.box,-AV.cells,zaw,k3,k4,k5,k6,g0,g1,g2,g3,g4,hlen,hba,cSt,cFt,cZt],by simp[cS,cF,cZ]⟩
 have cZt:(o.room=0)=True:=eq_true cZ
 exact⟨false,by simp -implicitDefEqProofs [zam,hT.refs,hT.ren,TP.at,hT.box,-AV.cells,zaw,k3,k4,k5,k6,g0,g1,g2,g3,g4,hlen,hba,cSt,cFt,cZt],by simp[cS,cF,cZ,hh]⟩
theorem yav {sA:AV} {t:TP} {T:List Obj} (hT:zbb code ext sA t T) (h':code 656=some zbo) (h2:code 653=some zbt) (h3:code 759=some zbp) (h4:code 749=some zbr) (h5:code 650=some zb2) (h6:code 652=some zam) (hb:T.length<=1048576) (k:Nat) (o:Obj) (ho:T[k]?=some o) (k3:¬o.k=3) (k4:¬o.k=4) (k5:¬o.k=5) (k6:¬o.k=6) (cS:o.s=.empty) (cF:o.fn=0) (cR:¬(o.l.xs.length:Int)<=o.room):∃b:Bool,callW code ext 652 [sA,t.at k] []=some (avb b,[])/\(b=true↔zan T o):=by
 rw[zad code ext h6]
 have hlen:=zaz o.l.ok
 have hok:zan T o↔(o.s=.empty/\o.room=0/\o.fn=0/\(o.l.xs.length:Int)=1/\zas T o.l.xs false=true):=by
  unfold zan
  rw[if_neg k3,if_neg k4,if_neg k5,if_neg k6]
 rw[hok]
 clear hok
 have g0:t.row[t.off+k*5]?=some (.val (.int .u8 o.k)):=zai (hT.obj k o ho) 0 (by omega)
 have g1:t.row[t.off+k*5+1]?=some (.val (.string o.s)):=zai (hT.obj k o ho) 1 (by omega)
 have g2:t.row[t.off+k*5+2]?=some (o.l.iv):=zai (hT.obj k o ho) 2 (by omega)
 have g3:t.row[t.off+k*5+3]?=some (.val (.int .i64 o.room)):=zai (hT.obj k o ho) 3 (by omega)
 have g4:t.row[t.off+k*5+4]?=some (.val (.int .i64 o.fn)):=zai (hT.obj k o ho) 4 (by omega)
 have hba:=zc1 (ext:=ext) hT h' h2 h3 h4 hb k o ho o.l.ok
 rw[zc2]at hba
 rw[show decide (o.k=6)=false by simp;omega]at hba
 simp only[zbd,TP.at]at hba
 have cSt:(o.s=.empty)=True:=eq_true cS
 have cFt:(o.fn=0)=True:=eq_true cF
 have cRt:((o.l.xs.length:Int)<=o.room)=False:=eq_false cR
 by_cases hh:zas T o.l.xs false=true
 case neg=>
  have hhf:zas T o.l.xs false=false:=by simpa using hh
  rw[hhf]at hba
  exact⟨false,by simp -implicitDefEqProofs [zam,hT.refs,hT.ren,TP.at,hT.box,-AV.cells,zaw,g1,g2,g3,g4,hlen,hba,cSt,cFt,cRt],by simp[hhf]⟩
 rw[hh]at hba
 by_cases cZ:o.room=0
 case neg=>
  have cZt:(o.room=0)=False:=eq_false cZ
  exact⟨false,by simp -implicitDefEqProofs [zam,hT.refs,hT.ren,TP.at,hT.box,-AV.cells,zaw,k3,k4,k5,k6,g0,g1,g2,g3,g4,hlen,hba,cSt,cFt,cRt,cZt],by simp[cS,cF,cZ]⟩
 have cZt:(o.room=0)=True:=eq_true cZ
 by_cases cN1:(o.l.xs.length:Int)=1
 case neg=>
  have cN1t:((o.l.xs.length:Int)=1)=False:=eq_false cN1
  exact⟨false,by simp -implicitDefEqProofs [zam,hT.refs,hT.ren,TP.at,hT.box,-AV.cells,zaw,k3,k4,k5,k6,g0,g1,g2,g3,g4,hlen,hba,cSt,cFt,cRt,cZt,cN1t],by simp[cS,cF,cZ,cN1]⟩
 have cN1t:((o.l.xs.length:Int)=1)=True:=eq_true cN1
 exact⟨true,by simp -implicitDefEqProofs [zam,hT.refs,hT.ren,TP.at,hT.box,-AV.cells,zaw,k3,k4,k5,k6,g0,g1,g2,g3,g4,hlen,hba,cSt,cFt,cRt,cZt,cN1t],by simp[cS,cF,cZ,cN1,hh]⟩
theorem yaw {sA:AV} {t:TP} {T:List Obj} (hT:zbb code ext sA t T) (h':code 656=some zbo) (h2:code 653=some zbt) (h3:code 759=some zbp) (h4:code 749=some zbr) (h5:code 650=some zb2) (h6:code 652=some zam) (hb:T.length<=1048576) (k:Nat) (o:Obj) (ho:T[k]?=some o) (k3:¬o.k=3) (k4:¬o.k=4) (k5:¬o.k=5) (k6:¬o.k=6) (cS:o.s=.empty) (cF:o.fn=0) (cR:(o.l.xs.length:Int)<=o.room) (cQ:¬o.room<=262144):∃b:Bool,callW code ext 652 [sA,t.at k] []=some (avb b,[])/\(b=true↔zan T o):=by
 rw[zad code ext h6]
 have hlen:=zaz o.l.ok
 have hok:zan T o↔(o.s=.empty/\o.room=0/\o.fn=0/\(o.l.xs.length:Int)=1/\zas T o.l.xs false=true):=by
  unfold zan
  rw[if_neg k3,if_neg k4,if_neg k5,if_neg k6]
 rw[hok]
 clear hok
 have g0:t.row[t.off+k*5]?=some (.val (.int .u8 o.k)):=zai (hT.obj k o ho) 0 (by omega)
 have g1:t.row[t.off+k*5+1]?=some (.val (.string o.s)):=zai (hT.obj k o ho) 1 (by omega)
 have g2:t.row[t.off+k*5+2]?=some (o.l.iv):=zai (hT.obj k o ho) 2 (by omega)
 have g3:t.row[t.off+k*5+3]?=some (.val (.int .i64 o.room)):=zai (hT.obj k o ho) 3 (by omega)
 have g4:t.row[t.off+k*5+4]?=some (.val (.int .i64 o.fn)):=zai (hT.obj k o ho) 4 (by omega)
 have hba:=zc1 (ext:=ext) hT h' h2 h3 h4 hb k o ho o.l.ok
 rw[zc2]at hba
 rw[show decide (o.k=6)=false by simp;omega]at hba
 simp only[zbd,TP.at]at hba
 have cSt:(o.s=.empty)=True:=eq_true cS
 have cFt:(o.fn=0)=True:=eq_true cF
 have cRt:((o.l.xs.length:Int)<=o.room)=True:=eq_true cR
 have cQt:(o.room<=262144)=False:=eq_false cQ
 by_cases hh:zas T o.l.xs false=true
 case neg=>
  have hhf:zas T o.l.xs false=false:=by simpa using hh
  rw[hhf]at hba
  exact⟨false,by simp -implicitDefEqProofs [zam,hT.refs,hT.ren,TP.at,hT.box,-AV.cells,zaw,g1,g2,g3,g4,hlen,hba,cSt,cFt,cRt,cQt],by simp[hhf]⟩
 rw[hh]at hba
 by_cases cZ:o.room=0
 case neg=>
  have cZt:(o.room=0)=False:=eq_false cZ
  exact⟨false,by simp -implicitDefEqProofs [zam,hT.refs,hT.ren,TP.at,hT.box,-AV.cells,zaw,k3,k4,k5,k6,g0,g1,g2,g3,g4,hlen,hba,cSt,cFt,cRt,cQt,cZt],by simp[cS,cF,cZ]⟩
 have cZt:(o.room=0)=True:=eq_true cZ
 by_cases cN1:(o.l.xs.length:Int)=1
 case neg=>
  have cN1t:((o.l.xs.length:Int)=1)=False:=eq_false cN1
  exact⟨false,by simp -implicitDefEqProofs [zam,hT.refs,hT.ren,TP.at,hT.box,-AV.cells,zaw,k3,k4,k5,k6,g0,g1,g2,g3,g4,hlen,hba,cSt,cFt,cRt,cQt,cZt,cN1t],by simp[cS,cF,cZ,cN1]⟩
 have cN1t:((o.l.xs.length:Int)=1)=True:=eq_true cN1
 exact⟨true,by simp -implicitDefEqProofs [zam,hT.refs,hT.ren,TP.at,hT.box,-AV.cells,zaw,k3,k4,k5,k6,g0,g1,g2,g3,g4,hlen,hba,cSt,cFt,cRt,cQt,cZt,cN1t],by simp[cS,cF,cZ,cN1,hh]⟩
theorem yax {sA:AV} {t:TP} {T:List Obj} (hT:zbb code ext sA t T) (h':code 656=some zbo) (h2:code 653=some zbt) (h3:code 759=some zbp) (h4:code 749=some zbr) (h5:code 650=some zb2) (h6:code 652=some zam) (hb:T.length<=1048576) (k:Nat) (o:Obj) (ho:T[k]?=some o) (k3:¬o.k=3) (k4:¬o.k=4) (k5:¬o.k=5) (k6:¬o.k=6) (cS:o.s=.empty) (cF:o.fn=0) (cR:(o.l.xs.length:Int)<=o.room) (cQ:o.room<=262144):∃b:Bool,callW code ext 652 [sA,t.at k] []=some (avb b,[])/\(b=true↔zan T o):=by
 rw[zad code ext h6]
 have hlen:=zaz o.l.ok
 have hok:zan T o↔(o.s=.empty/\o.room=0/\o.fn=0/\(o.l.xs.length:Int)=1/\zas T o.l.xs false=true):=by
  unfold zan
  rw[if_neg k3,if_neg k4,if_neg k5,if_neg k6]
 rw[hok]
 clear hok
 have g0:t.row[t.off+k*5]?=some (.val (.int .u8 o.k)):=zai (hT.obj k o ho) 0 (by omega)
 have g1:t.row[t.off+k*5+1]?=some (.val (.string o.s)):=zai (hT.obj k o ho) 1 (by omega)
 have g2:t.row[t.off+k*5+2]?=some (o.l.iv):=zai (hT.obj k o ho) 2 (by omega)
 have g3:t.row[t.off+k*5+3]?=some (.val (.int .i64 o.room)):=zai (hT.obj k o ho) 3 (by omega)
 have g4:t.row[t.off+k*5+4]?=some (.val (.int .i64 o.fn)):=zai (hT.obj k o ho) 4 (by omega)
 have hba:=zc1 (ext:=ext) hT h' h2 h3 h4 hb k o ho o.l.ok
 rw[zc2]at hba
 rw[show decide (o.k=6)=false by simp;omega]at hba
 simp only[zbd,TP.at]at hba
 have cSt:(o.s=.empty)=True:=eq_true cS
 have cFt:(o.fn=0)=True:=eq_true cF
 have cRt:((o.l.xs.length:Int)<=o.room)=True:=eq_true cR
 have cQt:(o.room<=262144)=True:=eq_true cQ
 by_cases hh:zas T o.l.xs false=true
 case neg=>
  have hhf:zas T o.l.xs false=false:=by simpa using hh
  rw[hhf]at hba
  exact⟨false,by simp -implicitDefEqProofs [zam,hT.refs,hT.ren,TP.at,hT.box,-AV.cells,zaw,g1,g2,g3,g4,hlen,hba,cSt,cFt,cRt,cQt],by simp[hhf]⟩
 rw[hh]at hba
 by_cases cZ:o.room=0
 case neg=>
  have cZt:(o.room=0)=False:=eq_false cZ
  exact⟨false,by simp -implicitDefEqProofs [zam,hT.refs,hT.ren,TP.at,hT.box,-AV.cells,zaw,k3,k4,k5,k6,g0,g1,g2,g3,g4,hlen,hba,cSt,cFt,cRt,cQt,cZt],by simp[cS,cF,cZ]⟩
 have cZt:(o.room=0)=True:=eq_true cZ
 by_cases cN1:(o.l.xs.length:Int)=1
 case neg=>
  have cN1t:((o.l.xs.length:Int)=1)=False:=eq_false cN1
  exact⟨false,by simp -implicitDefEqProofs [zam,hT.refs,hT.ren,TP.at,hT.box,-AV.cells,zaw,k3,k4,k5,k6,g0,g1,g2,g3,g4,hlen,hba,cSt,cFt,cRt,cQt,cZt,cN1t],by simp[cS,cF,cZ,cN1]⟩
 have cN1t:((o.l.xs.length:Int)=1)=True:=eq_true cN1
 exact⟨true,by simp -implicitDefEqProofs [zam,hT.refs,hT.ren,TP.at,hT.box,-AV.cells,zaw,k3,k4,k5,k6,g0,g1,g2,g3,g4,hlen,hba,cSt,cFt,cRt,cQt,cZt,cN1t],by simp[cS,cF,cZ,cN1,hh]⟩
theorem yas{sA:AV}{t:TP}{T:List Obj}(hT:zbb code ext sA t T)(h':code 656=some zbo)(h2:code 653=some zbt)(h3:code 759=some zbp)(h4:code 749=some zbr)(h5:code 650=some zb2)(h6:code 652=some zam)(hb:T.length<=1048576)(k:Nat)(o:Obj)(ho:T[k]?=some o)(k3:¬o.k=3)(k4:¬o.k=4)(k5:¬o.k=5)(k6:¬o.k=6):∃b:Bool,callW code ext 652 [sA,t.at k] []=some (avb b,[])/\(b=true↔zan T o):=by
 by_cases cS:o.s=.empty
 case neg=>exact yat hT h' h2 h3 h4 h5 h6 hb k o ho k3 k4 k5 k6 cS
 by_cases cF:o.fn=0
 case neg=>exact yau hT h' h2 h3 h4 h5 h6 hb k o ho k3 k4 k5 k6 cS cF
 by_cases cR:(o.l.xs.length:Int)<=o.room
 case neg=>exact yav hT h' h2 h3 h4 h5 h6 hb k o ho k3 k4 k5 k6 cS cF cR
 by_cases cQ:o.room<=262144
 case neg=>exact yaw hT h' h2 h3 h4 h5 h6 hb k o ho k3 k4 k5 k6 cS cF cR cQ
 exact yax hT h' h2 h3 h4 h5 h6 hb k o ho k3 k4 k5 k6 cS cF cR cQ
end
section
variable {code:Nat->Option zab} {ext:zac}
theorem yay{sA:AV}{t:TP}{T:List Obj}(hT:zbb code ext sA t T)(h':code 656=some zbo)(h2:code 653=some zbt)(h3:code 759=some zbp)(h4:code 749=some zbr)(h5:code 650=some zb2)(h6:code 652=some zam)(hb:T.length<=1048576)(k:Nat)(o:Obj)(ho:T[k]?=some o):∃b:Bool,callW code ext 652 [sA,t.at k] []=some (avb b,[])/\(b=true↔zan T o):=by
 by_cases k3:o.k=3
 ·exact z94 hT h' h2 h3 h4 h5 h6 hb k o ho k3
 by_cases k4:o.k=4
 ·exact yaa hT h' h2 h3 h4 h5 h6 hb k o ho k4
 by_cases k5:o.k=5
 ·exact yag hT h' h2 h3 h4 h5 h6 hb k o ho k5
 by_cases k6:o.k=6
 ·exact yam hT h' h2 h3 h4 h5 h6 hb k o ho k6
 exact yas hT h' h2 h3 h4 h5 h6 hb k o ho k3 k4 k5 k6
abbrev zhv(v:Val):AObj:=.flat [.val (.int .u8 v.k),.val (.int .i64 v.n)] false
abbrev zod(i:Int):Env:=[(1,.optr 1 0),(2,.optr 2 0),(3,.optr 3 0),(8,.osl 0 0 2 1 (some 1)),(9,zaa 1),(10,zaa i)]
def ze4(sA:AV)(t:TP)(v:Val):Option Nat->Mem
 |none=>[zhv v,.rich [sA],.rich [.omap 4],.rich [zaf],.map []]
 |some q=>[zhv v,.rich [sA],.rich [.omap 4],.rich [.osl 5 0 1 1 none],.map (zco t [q]),.rich (zbe t [q])]
theorem yc6{sA:AV}{t:TP}{T:List Obj}(hT:zbb code ext sA t T)(hb:T.length<=1048576)(v:Val)(hw:tVal.wf v):
  ∃s',den code ext zdi ⟨5,zod 0,ze4 sA t v none⟩=some (.normal,s')/\s'.tidy [1,2,3,8,9,10]=⟨5,zod 1,ze4 sA t v (zau T v)⟩:=by
 have hld:=hT.lead v hw.2
 have e1:IntKind.wrap .i64 1=1:=rfl
 cases hq:zau T v with
 |none=>
  rw[hq,zdh]at hld
  try simp only[TP.at]at hld
  simp only[ze4]
  simp -implicitDefEqProofs [zdi,hT.refs,hT.ren,hld,e1]
 |some q=>
  rw[hq,zdh]at hld
  try simp only[TP.at]at hld
  simp only[ze4]
  have hf:∀m,zcn m 3 (.tag t.b (t.a+q*5) (.ptr t.row (t.off+q*5))) [] 0=some none:=fun _=>rfl
  simp -implicitDefEqProofs [zdi,hT.refs,hT.ren,TP.at,hld,e1,hf,za0,za1,zb4,elems,zbq,zco,zbe]
theorem yc5{sA:AV}{t:TP}{T:List Obj}(hT:zbb code ext sA t T)(h':code 655=some zg1)(hb:T.length<=1048576)(v:Val)(hw:tVal.wf v):
  callW code ext 655 [.osl 0 0 2 1 (some 1),.optr 1 0,.optr 2 0,.optr 3 0] (ze4 sA t v none)=some (.tup [],ze4 sA t v (zau T v)):=by
 obtain⟨s',g1,g2⟩:=yc6 (ext:=ext) hT hb v hw
 have hl:∀s,s.tidy [1,2,3,8,9,10]=⟨5,zod 0,ze4 sA t v none⟩->den code ext (.loop [1,2,3,8,9,10] zdi) s=some (.exit 0,⟨5,zod 1++[(11,avb false)],ze4 sA t v (zau T v)⟩):=by
  intro s hs
  rw[zfc,hs,g1]
  simp only[andThen]
  rw[zfc,g2]
  cases zau T v with
  |none=>simp -implicitDefEqProofs [zdi,ze4]
  |some q=>simp -implicitDefEqProofs [zdi,TP.at,ze4,zbe,zco]
 rw[zad code ext h']
 have hl':=hl ⟨5,zod 0,ze4 sA t v none⟩ (by simp -implicitDefEqProofs [ze4])
 cases hq:zau T v with
 |none=>
  rw[hq]at hl'
  simp only[ze4]at hl' ⊢
  simp -implicitDefEqProofs [zg1,hl']
 |some q=>
  rw[hq]at hl'
  simp only[ze4,zbe,zco]at hl' ⊢
  simp -implicitDefEqProofs [zg1,hT.refs,hT.ren,TP.at,hl']
end
section
variable {code:Nat->Option zab} {ext:zac}
abbrev zjr(i:Int):Env:=[(4,.optr 1 0),(6,.clo 655 [.optr 2 0,.optr 3 0,.optr 1 0]),(7,zaa i)]
def zfx(sA:AV)(t:TP)(v:Val)(out:List Nat):Mem:=[zhv v,.rich [.osl 4 0 1 out.length none],.rich [sA],.rich [.omap 5],.rich (zbe t out),.map (zco t out)]
theorem yed{sA:AV}{t:TP}{T:List Obj}(hT:zbb code ext sA t T)(h':code 655=some zg1)(hb:T.length<=1048576)(v:Val)(out:List Nat)(hnd:out.Nodup)(hlt:∀q∈out,q<T.length)(i k:Nat)(hk:out[i]?=some k)(o:Obj)(ho:T[k]?=some o):
  ∃s',den code ext zj4 ⟨1,zjr i,zfx sA t v out⟩=some (.normal,s')/\s'.tidy [4,6,7]=⟨1,zjr ((i:Int)+1),zfx sA t v (zb3 T out o.l.xs)⟩:=by
 have hi:=(xaa.1 hk).1
 have hlen:=z3a T.length out hnd hlt
 have e1:IntKind.wrap .i64 ((i:Int)+1)=(i:Int)+1:=zap (by omega) (by omega)
 have hp:(zbe t out)[i]?=some (t.at k):=by simp[zbe,hk]
 have hL:t.row[t.off+k*5+2]?=some o.l.iv:=zai (hT.obj k o ho) 2 (by omega)
 obtain⟨o',tail',g1,g2,g3,g4⟩:=z48 (ext:=ext) hT h' hb o.l.iv o.l.xs o.l.ok 5 out (.osl 4 0 1 out.length none) [.rich (zbe t out)] (.inr ⟨rfl,.inl ⟨rfl,rfl⟩⟩) rfl hnd hlt
 simp only[za9,xby,xbg]at g4
 by_cases he:zb3 T out o.l.xs=out
 ·obtain⟨rfl,rfl⟩:=g2 he
  rw[he]at g4 ⊢
  refine⟨⟨1,zjr ((i:Int)+1),zfx sA t v out⟩,?_,?_⟩
  ·simp -implicitDefEqProofs [zj4,hT.refs,hT.ren,TP.at,zfx,hi,hp,hL,g4,e1]
  ·simp -implicitDefEqProofs [zfx,hT.refs,hT.ren]
 ·have ho':=g3 he
  subst ho'
  generalize zb3 T out o.l.xs=out' at *
  obtain rfl:tail'=[.dead,.rich (zbe t out')]:=by
   rcases g1 with⟨h5,_⟩|⟨_,⟨h6,_⟩|⟨_,h7⟩⟩
   ·cases h5
   ·cases h6
   ·exact h7
  refine⟨⟨1,zjr ((i:Int)+1),[zhv v,.rich [.osl 6 0 1 out'.length none],.rich [sA],.rich [.omap 5],.dead,.map (zco t out'),.rich (zbe t out')]⟩,?_,?_⟩
  ·simp -implicitDefEqProofs [zj4,hT.refs,hT.ren,TP.at,zfx,hi,hp,hL,g4,e1]
  ·simp -implicitDefEqProofs [zfx,hT.refs,hT.ren]
def zoh(t:TP)(v:Val)(out:List Nat):AV×Mem:=if out=[]then(zaf,[zhv v])else(.osl 1 0 1 out.length none,[zhv v,.rich (zbe t out)])
theorem yec{sA:AV}{t:TP}{T:List Obj}(hT:zbb code ext sA t T)(h':code 655=some zg1)(h2:code 654=some zpt)(hb:T.length<=1048576)(v:Val)(hw:tVal.wf v):
  ∃out,Grown T [v] out out.length/\callW code ext 654 [sA,.osl 0 0 2 1 (some 1)] [zhv v]=some (zoh t v out):=by
 have g4:=yc5 (ext:=ext) hT h' hb v hw
 have hG:=Grown.start T [v]
 rw[zad code ext h2]
 cases hq:zau T v with
 |none=>
  have he:zb3 T [] [v]=[]:=by simp[zb3,hq]
  rw[hq]at g4
  rw[he]at hG
  simp only[ze4]at g4
  refine⟨[],hG,?_⟩
  have hl:den code ext (.loop [4,6,7] zj4) ⟨1,[(4,.optr 2 0),(6,.clo 655 [.optr 1 0,.optr 4 0,.optr 2 0]),(7,zaa 0)],[zhv v,.rich [sA],.rich [zaf],.map [],.rich [.omap 3]]⟩=
     some (.exit 0,⟨1,[(4,.optr 1 0),(6,.clo 655 [.optr 2 0,.optr 3 0,.optr 1 0]),(7,zaa 0),(16,avb false)],[zhv v,.rich [zaf],.rich [sA],.rich [.omap 4],.map []]⟩):=by
   rw[zfc]
   simp -implicitDefEqProofs [zj4,hT.refs,hT.ren]
  simp -implicitDefEqProofs [zpt,hT.refs,hT.ren,hT.box,-AV.cells,zke,zja,g4,hl,zoh]
 |some q=>
  have he:zb3 T [] [v]=[q]:=by simp[zb3,hq]
  rw[hq]at g4
  rw[he]at hG
  simp only[ze4]at g4
  have loop:∀s:St,s.tidy [4,6,7]=⟨1,zjr 0,zfx sA t v [q]⟩->∃e s',den code ext (.loop [4,6,7] zj4) s=some (e,s')/\e≠ .normal/\
    (e=.exit 0/\∃out,out≠[]/\Grown T [v] out out.length/\s'=⟨1,zjr out.length++[(16,avb false)],zfx sA t v out⟩):=by
   intro s hst
   refine zb1 (fun n s=>∃(i:Nat) (out:List Nat),i<=out.length/\out≠[]/\n+i=T.length/\Grown T [v] out i/\s.tidy [4,6,7]=⟨1,zjr i,zfx sA t v out⟩) _ ?_ T.length s ⟨0,[q],by omega,by simp,by omega,hG,hst⟩
   clear hst hG he g4
   rintro n s ⟨i,out,hio,hne,hn,hG,hst⟩
   rw[hst]
   have hlt:∀q∈out,q<T.length:=fun q hq=>(hG.reach q hq).lt
   by_cases hi:i<out.length
   ·have hk:=xab hi
    have hko:=hlt _ (xa7 hi)
    obtain⟨s',q1,q2⟩:=yed (code:=code) (ext:=ext) hT h' hb v out hG.nodup hlt i _ hk _ (xab hko)
    have hG':=hG.next hk (xab hko)
    have hs:=hG.short
    obtain⟨r,hr⟩:=znn T T[out[i]].l.xs out
    refine⟨.normal,s',q1,.inl ⟨rfl,n-1,by omega,i+1,_,?_,?_,by omega,hG',by rw[q2];rfl⟩⟩
    ·rw[hr,xao];omega
    ·rw[hr];intro e;exact hne (List.append_eq_nil_iff.1 e).1
   ·have:i=out.length:=by omega
    subst this
    refine⟨.exit 0,⟨1,zjr out.length++[(16,avb false)],zfx sA t v out⟩,?_,.inr ⟨by simp,rfl,out,hne,hG,rfl⟩⟩
    simp -implicitDefEqProofs [zj4,zfx]
  obtain⟨e,s',l1,_,rfl,out,hne,hG',rfl⟩:=loop ⟨1,[(4,.optr 2 0),(6,.clo 655 [.optr 1 0,.optr 4 0,.optr 2 0]),(7,zaa 0)],[zhv v,.rich [sA],.rich [.osl 5 0 1 1 none],.map (zco t [q]),.rich [.omap 3],.rich (zbe t [q])]⟩ (by simp -implicitDefEqProofs [zfx,hT.refs,hT.ren,TP.at,zbe,zco])
  refine⟨out,hG',?_⟩
  simp -implicitDefEqProofs [zpt,hT.refs,hT.ren,hT.box,-AV.cells,zkf,zja,g4,l1,zfx,zoh,hne]
end
section
variable {code:Nat->Option zab} {ext:zac}
theorem ycu{sA:AV}{t:TP}{T:List Obj}(hT:zbb code ext sA t T)(h':code 656=some zbo)(h2:code 653=some zbt)(h3:code 759=some zbp)(h4:code 749=some zbr)(h5:code 650=some zb2)(h6:code 652=some zam)(h7:code 647=some zps)(hb:T.length<=1048576)(k:Nat)(o:Obj)(ho:T[k]?=some o):
  ∃b:Bool,callW code ext 647 [t.at k,.optr 0 0] [.rich [sA]]=some (avb b,[.rich [sA]])/\(b=true↔ ¬zan T o):=by
 obtain⟨b,hm,hbo⟩:=yay (ext:=ext) hT h' h2 h3 h4 h5 h6 hb k o ho
 refine⟨!b,?_,by rw[<-hbo];simp⟩
 simp only[TP.at]at hm ⊢
 rw[zad code ext h7]
 simp -implicitDefEqProofs [zps,hT.refs,hT.ren,hm]
def zek(sA:AV)(t:TP)(out:List Nat):Mem:=[.rich (zbe t out),.rich [sA]]
theorem z5d{sA:AV}{t:TP}{T:List Obj}(hT:zbb code ext sA t T)(h':code 656=some zbo)(h2:code 653=some zbt)(h3:code 759=some zbp)(h4:code 749=some zbr)(h5:code 650=some zb2)(h6:code 652=some zam)(h7:code 647=some zps)(h8:code 745=some zne)(h9:code 755=some zld)(hb:T.length<=1048576)(out:List Nat)(hol:out.length<=T.length)(hlt:∀q∈out,q<T.length):
  ∃b:Bool,callW code ext 745 [.osl 0 0 1 out.length none,.clo 647 [.optr 1 0]] (zek sA t out)=some (avb b,zek sA t out)/\(b=true↔ ∃(k:Nat) (o:Obj),k∈out/\T[k]?=some o/\¬zan T o):=by
 have loop:∃e s',den code ext (.loop [0,1,7,8] zle) ⟨2,[(0,.osl 0 0 1 out.length none),(1,.clo 647 [.optr 1 0]),(7,zaa out.length),(8,zaa 0)],zek sA t out⟩=some (e,s')/\e≠ .normal/\
   ((e=.exit 0/\(∀(i k:Nat) (o:Obj),out[i]?=some k->T[k]?=some o->zan T o)/\s'=⟨2,[(0,.osl 0 0 1 out.length none),(1,.clo 647 [.optr 1 0]),(7,zaa out.length),(8,zaa out.length),(9,avb false)],zek sA t out⟩)\/(e=.ret/\(∃(k:Nat) (o:Obj),k∈out/\T[k]?=some o/\¬zan T o)/\∃i:Nat,s'=⟨2,[(4,zaa (i:Nat))],zek sA t out⟩)):=by
  refine zb1 (fun n s=>∃(i:Nat),i+n=out.length/\(∀(j k:Nat) (o:Obj),j<i->out[j]?=some k->T[k]?=some o->zan T o)/\s=⟨2,[(0,.osl 0 0 1 out.length none),(1,.clo 647 [.optr 1 0]),(7,zaa out.length),(8,zaa (i:Nat))],zek sA t out⟩) _ ?_ out.length _ ⟨0,by simp,fun j k o hj=>by omega,rfl⟩
  rintro n _ ⟨i,hi,hall,rfl⟩
  by_cases hio:i<out.length
  ·have hk:=xab hio
   have hkm:=xa7 hio
   have hkT:=hlt _ hkm
   have e1:IntKind.wrap .i64 ((i:Int)+1)=(i:Int)+1:=zap (by omega) (by omega)
   generalize out[i]=k at hk hkm hkT
   have hTk:=xab hkT
   generalize T[k]=o at hTk
   have hp:(zbe t out)[i]?=some (t.at k):=by simp[zbe,hk]
   obtain⟨b,hm,hbo⟩:=ycu (ext:=ext) hT h' h2 h3 h4 h5 h6 h7 hb k o hTk
   simp only[TP.at]at hm hp
   cases b with
   |true=>
    refine⟨.ret,⟨2,[(4,zaa (i:Nat))],zek sA t out⟩,?_,.inr ⟨by simp,.inr ⟨rfl,⟨k,o,hkm,hTk,hbo.1 rfl⟩,i,rfl⟩⟩⟩
    simp -implicitDefEqProofs [zle,hT.refs,hT.ren,zek,hio,hp,hm]
   |false=>
    refine⟨.normal,⟨2,[(0,.osl 0 0 1 out.length none),(1,.clo 647 [.optr 1 0]),(7,zaa out.length),(8,zaa ((i:Int)+1))],zek sA t out⟩,?_,.inl ⟨rfl,n-1,by omega,i+1,by omega,?_,rfl⟩⟩
    ·simp -implicitDefEqProofs [zle,hT.refs,hT.ren,zek,hio,hp,hm,e1]
    ·intro j k' o' hj h1 h2
     by_cases hji:j<i
     ·exact hall j k' o' hji h1 h2
     ·have:j=i:=by omega
      subst this
      rw[hk]at h1;cases h1
      rw[hTk]at h2;cases h2
      exact Classical.byContradiction fun hc=>by have:=hbo.2 hc;cases this
  ·have:i=out.length:=by omega
   subst this
   refine⟨.exit 0,_,?_,.inr ⟨by simp,.inl ⟨rfl,fun i k o h1 h2=>hall i k o (xaa.1 h1).1 h1 h2,rfl⟩⟩⟩
   simp -implicitDefEqProofs [zle,zek]
 have hidx:∃r:Int,callW code ext 755 [.osl 0 0 1 out.length none,.clo 647 [.optr 1 0]] (zek sA t out)=some (zaa r,zek sA t out)/\((0<=r)↔ ∃(k:Nat) (o:Obj),k∈out/\T[k]?=some o/\¬zan T o):=by
  obtain⟨e,s',g1,_,⟨rfl,ha,rfl⟩|⟨rfl,ha,i,rfl⟩⟩:=loop
  ·refine⟨-1,?_,⟨fun h=>by omega,?_⟩⟩
   ·rw[zad code ext h9]
    simp only[zek]at g1 ⊢
    simp -implicitDefEqProofs [zld,g1]
   ·rintro⟨k,o,hk,ho,hn⟩
    obtain⟨i,hi⟩:=xa3 hk
    exact absurd (ha i k o hi ho) hn
  ·refine⟨i,?_,⟨fun _=>ha,fun _=>by omega⟩⟩
   rw[zad code ext h9]
   simp only[zek]at g1 ⊢
   simp -implicitDefEqProofs [zld,g1]
 obtain⟨r,hr,hri⟩:=hidx
 rw[zad code ext h8]
 refine⟨decide (0<=r),?_,by rw[decide_eq_true_eq,hri]⟩
 simp only[zek]at hr ⊢
 simp -implicitDefEqProofs [zne,hT.refs,hT.ren,hr]
theorem ycs(h8:code 745=some zne)(h9:code 755=some zld){sA:AV}{t:TP}{T:List Obj}(hT:zbb code ext sA t T):
  callW code ext 745 [zaf,.clo 647 [.optr 0 0]] [.rich [sA]]=some (avb false,[.rich [sA]]):=by
 have hl:den code ext (.loop [0,1,7,8] zle) ⟨1,[(0,zaf),(1,.clo 647 [.optr 0 0]),(7,zaa 0),(8,zaa 0)],[.rich [sA]]⟩=some (.exit 0,⟨1,[(0,zaf),(1,.clo 647 [.optr 0 0]),(7,zaa 0),(8,zaa 0),(9,avb false)],[.rich [sA]]⟩):=by
  rw[zfc]
  simp -implicitDefEqProofs [zle]
 have h5:callW code ext 755 [zaf,.clo 647 [.optr 0 0]] [.rich [sA]]=some (zaa (-1),[.rich [sA]]):=by
  rw[zad code ext h9]
  simp -implicitDefEqProofs [zld,hl]
 rw[zad code ext h8]
 simp -implicitDefEqProofs [zne,hT.refs,hT.ren,h5]
theorem z6e{sA:AV}{t:TP}{T:List Obj}(hT:zbb code ext sA t T)(h':code 656=some zbo)(h2:code 653=some zbt)(h3:code 759=some zbp)(h4:code 749=some zbr)(h5:code 650=some zb2)(h6:code 652=some zam)(h7:code 647=some zps)(h8:code 745=some zne)(h9:code 755=some zld)(h10:code 654=some zpt)(h11:code 655=some zg1)(h12:code 646=some zpr)
  (hb:T.length<=1048576) (v:Val) (hw:tVal.wf v):
  ∃b:Bool,callW code ext 646 [sA,.agg [.imm (.val (.int .u8 v.k)),zaa v.n]] []=some (avb b,[])/\(b=true↔zcq T v):=by
 have hv:=z33 (ext:=ext) hT h' hb v hw.2
 rw[zad code ext h12]
 cases hvv:zbz T v with
 |false=>
  rw[hvv]at hv
  exact⟨false,by simp -implicitDefEqProofs [zpr,hT.refs,hT.ren,hT.box,-AV.cells,zii,hv],by simp[zcq,hvv]⟩
 |true=>
  rw[hvv]at hv
  obtain⟨out,hG,hre⟩:=yec (ext:=ext) hT h11 h10 hb v hw
  have hmem:∀k,k∈out↔Reach T [v] k:=hG.done (xan _)
  by_cases hne:out=[]
  ·subst hne
   simp only[zoh,if_true]at hre
   have hna:=ycs (ext:=ext) h8 h9 hT
   refine⟨true,by simp -implicitDefEqProofs [zpr,hT.refs,hT.ren,hT.box,-AV.cells,zii,hv,hre,hna],?_⟩
   simp only[zcq,hvv,true_and,true_iff]
   intro k o hk
   have:=(hmem k).2 hk
   cases this
  ·simp only[zoh,if_neg hne]at hre
   obtain⟨b,hany,hbo⟩:=z5d (ext:=ext) hT h' h2 h3 h4 h5 h6 h7 h8 h9 hb out hG.short (fun q hq=>((hmem q).1 hq).lt)
   refine⟨!b,?_,?_⟩
   ·simp only[zek]at hany
    simp -implicitDefEqProofs [zpr,hT.refs,hT.ren,hT.box,-AV.cells,zii,hv,hre,hany]
   ·simp only[zcq,hvv,true_and]
    cases b with
    |true=>
     obtain⟨k,o,hk,ho,hn⟩:=hbo.1 rfl
     simp only[Bool.not_true,xar,false_iff]
     exact fun hc=>hn (hc k o ((hmem k).1 hk) ho)
    |false=>
     simp only[Bool.not_false,true_iff]
     intro k o hk ho
     exact Classical.byContradiction fun hc=>by
      have:=hbo.2 ⟨k,o,(hmem k).2 hk,ho,hc⟩
      cases this
end
end Go.EX

