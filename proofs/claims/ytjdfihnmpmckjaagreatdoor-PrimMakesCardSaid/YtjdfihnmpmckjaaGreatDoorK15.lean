import Derived.Test.YtjdfihnmpmckjaaGreatDoorK14
set_option maxHeartbeats 1000000
set_option linter.unusedVariables false
set_option linter.unusedSimpArgs false
namespace Go.EX
section
variable {code:Nat->Option zab} {ext:zac}
theorem ybt {sA:AV} {t:TP} {T:List Obj} (hT:zbd code ext sA t T) (h':code 656=some zbq) (h2:code 653=some zbs) (h3:code 759=some zbc) (h4:code 749=some zbf) (h5:code 650=some zb3) (h6:code 652=some zan) (hb:T.length<=1048576) (k:Nat) (o:Obj) (ho:T[k]?=some o) (k5:o.k=5) (cS:¬o.s=.empty):∃b:Bool,callW code ext 652 [sA,t.at k] []=some (avb b,[])/\(b=true↔zao T o):=by
 rw[zad code ext h6]
 have hlen:=zau o.l.ok
 have hok:zao T o↔(o.s=.empty/\o.fn=0/\(o.l.xs.length:Int).tmod 2=0/\(o.l.xs.length:Int)<=131072/\(o.l.xs.length:Int)<=o.room/\o.room<=262144/\zar T o.l.xs false=true/\zf2 T o.l.xs):=by
  unfold zao
  rw[if_neg (by omega),if_neg (by omega),if_pos k5]
 rw[hok]
 clear hok
 have g0:t.row[t.off+k*5]?=some (.val (.int .u8 o.k)):=zai (hT.obj k o ho) 0 (by omega)
 have g1:t.row[t.off+k*5+1]?=some (.val (.string o.s)):=zai (hT.obj k o ho) 1 (by omega)
 have g2:t.row[t.off+k*5+2]?=some (o.l.iv):=zai (hT.obj k o ho) 2 (by omega)
 have g3:t.row[t.off+k*5+3]?=some (.val (.int .i64 o.room)):=zai (hT.obj k o ho) 3 (by omega)
 have g4:t.row[t.off+k*5+4]?=some (.val (.int .i64 o.fn)):=zai (hT.obj k o ho) 4 (by omega)
 have hba:=zcz (ext:=ext) hT h' h2 h3 h4 hb k o ho o.l.ok
 rw[zc0]at hba
 rw[show decide (o.k=6)=false by simp;omega]at hba
 simp only[zbh,TP.at]at hba
 have cSt:(o.s=.empty)=False:=eq_false cS
 by_cases hh:zar T o.l.xs false=true
 case neg=>
  have hhf:zar T o.l.xs false=false:=by simpa using hh
  rw[hhf]at hba
  exact⟨false,by simp -implicitDefEqProofs [zan,hT.refs,hT.ren,TP.at,hT.box,-AV.cells,zat,g1,g2,hlen,hba,cSt],by simp[hhf]⟩
 rw[hh]at hba
 exact⟨false,by simp -implicitDefEqProofs [zan,hT.refs,hT.ren,TP.at,hT.box,-AV.cells,zat,k5,g0,g1,g2,hlen,hba,cSt],by simp[cS,hh]⟩
theorem ybu {sA:AV} {t:TP} {T:List Obj} (hT:zbd code ext sA t T) (h':code 656=some zbq) (h2:code 653=some zbs) (h3:code 759=some zbc) (h4:code 749=some zbf) (h5:code 650=some zb3) (h6:code 652=some zan) (hb:T.length<=1048576) (k:Nat) (o:Obj) (ho:T[k]?=some o) (k5:o.k=5) (cS:o.s=.empty) (cF:¬o.fn=0):∃b:Bool,callW code ext 652 [sA,t.at k] []=some (avb b,[])/\(b=true↔zao T o):=by
 rw[zad code ext h6]
 have hlen:=zau o.l.ok
 have hok:zao T o↔(o.s=.empty/\o.fn=0/\(o.l.xs.length:Int).tmod 2=0/\(o.l.xs.length:Int)<=131072/\(o.l.xs.length:Int)<=o.room/\o.room<=262144/\zar T o.l.xs false=true/\zf2 T o.l.xs):=by
  unfold zao
  rw[if_neg (by omega),if_neg (by omega),if_pos k5]
 rw[hok]
 clear hok
 have g0:t.row[t.off+k*5]?=some (.val (.int .u8 o.k)):=zai (hT.obj k o ho) 0 (by omega)
 have g1:t.row[t.off+k*5+1]?=some (.val (.string o.s)):=zai (hT.obj k o ho) 1 (by omega)
 have g2:t.row[t.off+k*5+2]?=some (o.l.iv):=zai (hT.obj k o ho) 2 (by omega)
 have g3:t.row[t.off+k*5+3]?=some (.val (.int .i64 o.room)):=zai (hT.obj k o ho) 3 (by omega)
 have g4:t.row[t.off+k*5+4]?=some (.val (.int .i64 o.fn)):=zai (hT.obj k o ho) 4 (by omega)
 have hba:=zcz (ext:=ext) hT h' h2 h3 h4 hb k o ho o.l.ok
 rw[zc0]at hba
 rw[show decide (o.k=6)=false by simp;omega]at hba
 simp only[zbh,TP.at]at hba
 have cSt:(o.s=.empty)=True:=eq_true cS
 have cFt:(o.fn=0)=False:=eq_false cF
 by_cases hh:zar T o.l.xs false=true
 case neg=>
  have hhf:zar T o.l.xs false=false:=by simpa using hh
  rw[hhf]at hba
  exact⟨false,by simp -implicitDefEqProofs [zan,hT.refs,hT.ren,TP.at,hT.box,-AV.cells,zat,g1,g2,g4,hlen,hba,cSt,cFt],by simp[hhf]⟩
 rw[hh]at hba
 exact⟨false,by simp -implicitDefEqProofs [zan,hT.refs,hT.ren,TP.at,hT.box,-AV.cells,zat,k5,g0,g1,g2,g4,hlen,hba,cSt,cFt],by simp[cS,cF,hh]⟩
theorem ybv {sA:AV} {t:TP} {T:List Obj} (hT:zbd code ext sA t T) (h':code 656=some zbq) (h2:code 653=some zbs) (h3:code 759=some zbc) (h4:code 749=some zbf) (h5:code 650=some zb3) (h6:code 652=some zan) (hb:T.length<=1048576) (k:Nat) (o:Obj) (ho:T[k]?=some o) (k5:o.k=5) (cS:o.s=.empty) (cF:o.fn=0) (cR:¬(o.l.xs.length:Int)<=o.room):∃b:Bool,callW code ext 652 [sA,t.at k] []=some (avb b,[])/\(b=true↔zao T o):=by
 rw[zad code ext h6]
 have hlen:=zau o.l.ok
 have hok:zao T o↔(o.s=.empty/\o.fn=0/\(o.l.xs.length:Int).tmod 2=0/\(o.l.xs.length:Int)<=131072/\(o.l.xs.length:Int)<=o.room/\o.room<=262144/\zar T o.l.xs false=true/\zf2 T o.l.xs):=by
  unfold zao
  rw[if_neg (by omega),if_neg (by omega),if_pos k5]
 rw[hok]
 clear hok
 have g0:t.row[t.off+k*5]?=some (.val (.int .u8 o.k)):=zai (hT.obj k o ho) 0 (by omega)
 have g1:t.row[t.off+k*5+1]?=some (.val (.string o.s)):=zai (hT.obj k o ho) 1 (by omega)
 have g2:t.row[t.off+k*5+2]?=some (o.l.iv):=zai (hT.obj k o ho) 2 (by omega)
 have g3:t.row[t.off+k*5+3]?=some (.val (.int .i64 o.room)):=zai (hT.obj k o ho) 3 (by omega)
 have g4:t.row[t.off+k*5+4]?=some (.val (.int .i64 o.fn)):=zai (hT.obj k o ho) 4 (by omega)
 have hba:=zcz (ext:=ext) hT h' h2 h3 h4 hb k o ho o.l.ok
 rw[zc0]at hba
 rw[show decide (o.k=6)=false by simp;omega]at hba
 simp only[zbh,TP.at]at hba
 have cSt:(o.s=.empty)=True:=eq_true cS
 have cFt:(o.fn=0)=True:=eq_true cF
 have cRt:((o.l.xs.length:Int)<=o.room)=False:=eq_false cR
 by_cases hh:zar T o.l.xs false=true
 case neg=>
  have hhf:zar T o.l.xs false=false:=by simpa using hh
  rw[hhf]at hba
  exact⟨false,by simp -implicitDefEqProofs [zan,hT.refs,hT.ren,TP.at,hT.box,-AV.cells,zat,g1,g2,g3,g4,hlen,hba,cSt,cFt,cRt],by simp[hhf]⟩
 rw[hh]at hba
 exact⟨false,by simp -implicitDefEqProofs [zan,hT.refs,hT.ren,TP.at,hT.box,-AV.cells,zat,k5,g0,g1,g2,g3,g4,hlen,hba,cSt,cFt,cRt],by simp[cS,cF,cR,hh]⟩
theorem ybw {sA:AV} {t:TP} {T:List Obj} (hT:zbd code ext sA t T) (h':code 656=some zbq) (h2:code 653=some zbs) (h3:code 759=some zbc) (h4:code 749=some zbf) (h5:code 650=some zb3) (h6:code 652=some zan) (hb:T.length<=1048576) (k:Nat) (o:Obj) (ho:T[k]?=some o) (k5:o.k=5) (cS:o.s=.empty) (cF:o.fn=0) (cR:(o.l.xs.length:Int)<=o.room) (cQ:¬o.room<=262144):∃b:Bool,callW code ext 652 [sA,t.at k] []=some (avb b,[])/\(b=true↔zao T o):=by
 rw[zad code ext h6]
 have hlen:=zau o.l.ok
 have hok:zao T o↔(o.s=.empty/\o.fn=0/\(o.l.xs.length:Int).tmod 2=0/\(o.l.xs.length:Int)<=131072/\(o.l.xs.length:Int)<=o.room/\o.room<=262144/\zar T o.l.xs false=true/\zf2 T o.l.xs):=by
  unfold zao
  rw[if_neg (by omega),if_neg (by omega),if_pos k5]
 rw[hok]
 clear hok
 have g0:t.row[t.off+k*5]?=some (.val (.int .u8 o.k)):=zai (hT.obj k o ho) 0 (by omega)
 have g1:t.row[t.off+k*5+1]?=some (.val (.string o.s)):=zai (hT.obj k o ho) 1 (by omega)
 have g2:t.row[t.off+k*5+2]?=some (o.l.iv):=zai (hT.obj k o ho) 2 (by omega)
 have g3:t.row[t.off+k*5+3]?=some (.val (.int .i64 o.room)):=zai (hT.obj k o ho) 3 (by omega)
 have g4:t.row[t.off+k*5+4]?=some (.val (.int .i64 o.fn)):=zai (hT.obj k o ho) 4 (by omega)
 have hba:=zcz (ext:=ext) hT h' h2 h3 h4 hb k o ho o.l.ok
 rw[zc0]at hba
 rw[show decide (o.k=6)=false by simp;omega]at hba
 simp only[zbh,TP.at]at hba
 have cSt:(o.s=.empty)=True:=eq_true cS
 have cFt:(o.fn=0)=True:=eq_true cF
 have cRt:((o.l.xs.length:Int)<=o.room)=True:=eq_true cR
 have cQt:(o.room<=262144)=False:=eq_false cQ
 by_cases hh:zar T o.l.xs false=true
 case neg=>
  have hhf:zar T o.l.xs false=false:=by simpa using hh
  rw[hhf]at hba
  exact⟨false,by simp -implicitDefEqProofs [zan,hT.refs,hT.ren,TP.at,hT.box,-AV.cells,zat,g1,g2,g3,g4,hlen,hba,cSt,cFt,cRt,cQt],by simp[hhf]⟩
 rw[hh]at hba
 exact⟨false,by simp -implicitDefEqProofs [zan,hT.refs,hT.ren,TP.at,hT.box,-AV.cells,zat,k5,g0,g1,g2,g3,g4,hlen,hba,cSt,cFt,cRt,cQt],by simp[cS,cF,cR,cQ,hh]⟩
theorem ybx {sA:AV} {t:TP} {T:List Obj} (hT:zbd code ext sA t T) (h':code 656=some zbq) (h2:code 653=some zbs) (h3:code 759=some zbc) (h4:code 749=some zbf) (h5:code 650=some zb3) (h6:code 652=some zan) (hb:T.length<=1048576) (k:Nat) (o:Obj) (ho:T[k]?=some o) (k5:o.k=5) (cS:o.s=.empty) (cF:o.fn=0) (cR:(o.l.xs.length:Int)<=o.room) (cQ:o.room<=262144):∃b:Bool,callW code ext 652 [sA,t.at k] []=some (avb b,[])/\(b=true↔zao T o):=by
 rw[zad code ext h6]
 have hlen:=zau o.l.ok
 have hok:zao T o↔(o.s=.empty/\o.fn=0/\(o.l.xs.length:Int).tmod 2=0/\(o.l.xs.length:Int)<=131072/\(o.l.xs.length:Int)<=o.room/\o.room<=262144/\zar T o.l.xs false=true/\zf2 T o.l.xs):=by
  unfold zao
  rw[if_neg (by omega),if_neg (by omega),if_pos k5]
 rw[hok]
 clear hok
 have g0:t.row[t.off+k*5]?=some (.val (.int .u8 o.k)):=zai (hT.obj k o ho) 0 (by omega)
 have g1:t.row[t.off+k*5+1]?=some (.val (.string o.s)):=zai (hT.obj k o ho) 1 (by omega)
 have g2:t.row[t.off+k*5+2]?=some (o.l.iv):=zai (hT.obj k o ho) 2 (by omega)
 have g3:t.row[t.off+k*5+3]?=some (.val (.int .i64 o.room)):=zai (hT.obj k o ho) 3 (by omega)
 have g4:t.row[t.off+k*5+4]?=some (.val (.int .i64 o.fn)):=zai (hT.obj k o ho) 4 (by omega)
 have hba:=zcz (ext:=ext) hT h' h2 h3 h4 hb k o ho o.l.ok
 rw[zc0]at hba
 rw[show decide (o.k=6)=false by simp;omega]at hba
 simp only[zbh,TP.at]at hba
 have cSt:(o.s=.empty)=True:=eq_true cS
 have cFt:(o.fn=0)=True:=eq_true cF
 have cRt:((o.l.xs.length:Int)<=o.room)=True:=eq_true cR
 have cQt:(o.room<=262144)=True:=eq_true cQ
 by_cases hh:zar T o.l.xs false=true
 case neg=>
  have hhf:zar T o.l.xs false=false:=by simpa using hh
  rw[hhf]at hba
  exact⟨false,by simp -implicitDefEqProofs [zan,hT.refs,hT.ren,TP.at,hT.box,-AV.cells,zat,g1,g2,g3,g4,hlen,hba,cSt,cFt,cRt,cQt],by simp[hhf]⟩
 rw[hh]at hba
 by_cases cE:(o.l.xs.length:Int).tmod 2=0
 case neg=>
  have cEt:((o.l.xs.length:Int).tmod 2=0)=False:=eq_false cE
  first
  |(exfalso;omega)
  |exact⟨false,by simp -implicitDefEqProofs [zan,hT.refs,hT.ren,TP.at,hT.box,-AV.cells,zat,k5,g0,g1,g2,g3,g4,hlen,hba,cSt,cFt,cRt,cQt,cEt],by simp[cS,cF,cR,cQ,cE]⟩
 have cEt:((o.l.xs.length:Int).tmod 2=0)=True:=eq_true cE
 by_cases cN5:(o.l.xs.length:Int)<=131072
 case neg=>
  have cN5t:((o.l.xs.length:Int)<=131072)=False:=eq_false cN5
  first
  |(exfalso;omega)
  |exact⟨false,by simp -implicitDefEqProofs [zan,hT.refs,hT.ren,TP.at,hT.box,-AV.cells,zat,k5,g0,g1,g2,g3,g4,hlen,hba,cSt,cFt,cRt,cQt,cEt,cN5t],by simp[cS,cF,cR,cQ,cE,cN5]⟩
 have cN5t:((o.l.xs.length:Int)<=131072)=True:=eq_true cN5
 have hev:o.l.xs.length%2=0:=by
  have h9:=cE
  rw[Int.tmod_eq_emod_of_nonneg (by omega)]at h9
  omega
 have hkv:∀v∈o.l.xs,zcd T v=true:=by
  intro v hv
  have h1:=xai.1 hh v hv
  simp only[xae]at h1
  exact h1.1
 have hkk:=yaa (ext:=ext) hT h5 hb o.l.ok hev
 have hki:=yac T o.l.xs hev hkv
 have hkb:(decide ((zc2 T o.l.xs o.l.xs.length).length=o.l.xs.length / 2)=true)↔zf2 T o.l.xs:=by rw[decide_eq_true_eq,hki]
 generalize decide ((zc2 T o.l.xs o.l.xs.length).length=o.l.xs.length / 2)=bk at hkk hkb
 refine⟨bk,?_,by rw[hkb];simp[cS,cF,cR,cQ,cE,cN5,hh]⟩
 simp -implicitDefEqProofs [zan,hT.refs,hT.ren,TP.at,hT.box,-AV.cells,zat,k5,g0,g1,g2,g3,g4,hlen,hba,cSt,cFt,cRt,cQt,cEt,cN5t,hkk]
theorem ybs{sA:AV}{t:TP}{T:List Obj}(hT:zbd code ext sA t T)(h':code 656=some zbq)(h2:code 653=some zbs)(h3:code 759=some zbc)(h4:code 749=some zbf)(h5:code 650=some zb3)(h6:code 652=some zan)(hb:T.length<=1048576)(k:Nat)(o:Obj)(ho:T[k]?=some o)(k5:o.k=5):∃b:Bool,callW code ext 652 [sA,t.at k] []=some (avb b,[])/\(b=true↔zao T o):=by
 by_cases cS:o.s=.empty
 case neg=>exact ybt hT h' h2 h3 h4 h5 h6 hb k o ho k5 cS
 by_cases cF:o.fn=0
 case neg=>exact ybu hT h' h2 h3 h4 h5 h6 hb k o ho k5 cS cF
 by_cases cR:(o.l.xs.length:Int)<=o.room
 case neg=>exact ybv hT h' h2 h3 h4 h5 h6 hb k o ho k5 cS cF cR
 by_cases cQ:o.room<=262144
 case neg=>exact ybw hT h' h2 h3 h4 h5 h6 hb k o ho k5 cS cF cR cQ
 exact ybx hT h' h2 h3 h4 h5 h6 hb k o ho k5 cS cF cR cQ
end
set_option maxHeartbeats 1000000
section
variable {code:Nat->Option zab} {ext:zac}
theorem ybz {sA:AV} {t:TP} {T:List Obj} (hT:zbd code ext sA t T) (h':code 656=some zbq) (h2:code 653=some zbs) (h3:code 759=some zbc) (h4:code 749=some zbf) (h5:code 650=some zb3) (h6:code 652=some zan) (hb:T.length<=1048576) (k:Nat) (o:Obj) (ho:T[k]?=some o) (k6:o.k=6) (cS:¬o.s=.empty):∃b:Bool,callW code ext 652 [sA,t.at k] []=some (avb b,[])/\(b=true↔zao T o):=by
 rw[zad code ext h6]
 have hlen:=zau o.l.ok
 have hok:zao T o↔(o.s=.empty/\o.room=0/\0<=o.fn/\o.fn<256/\zar T o.l.xs true=true):=by
  unfold zao
  rw[if_neg (by omega),if_neg (by omega),if_neg (by omega),if_pos k6]
 rw[hok]
 clear hok
 have g0:t.row[t.off+k*5]?=some (.val (.int .u8 o.k)):=zai (hT.obj k o ho) 0 (by omega)
 have g1:t.row[t.off+k*5+1]?=some (.val (.string o.s)):=zai (hT.obj k o ho) 1 (by omega)
 have g2:t.row[t.off+k*5+2]?=some (o.l.iv):=zai (hT.obj k o ho) 2 (by omega)
 have g3:t.row[t.off+k*5+3]?=some (.val (.int .i64 o.room)):=zai (hT.obj k o ho) 3 (by omega)
 have g4:t.row[t.off+k*5+4]?=some (.val (.int .i64 o.fn)):=zai (hT.obj k o ho) 4 (by omega)
 have hba:=zcz (ext:=ext) hT h' h2 h3 h4 hb k o ho o.l.ok
 rw[zc0]at hba
 rw[show decide (o.k=6)=true by simp[k6]]at hba
 simp only[zbh,TP.at]at hba
 have cSt:(o.s=.empty)=False:=eq_false cS
 by_cases hh:zar T o.l.xs true=true
 case neg=>
  have hhf:zar T o.l.xs true=false:=by simpa using hh
  rw[hhf]at hba
  exact⟨false,by simp -implicitDefEqProofs [zan,hT.refs,hT.ren,TP.at,hT.box,-AV.cells,zat,g1,g2,hlen,hba,cSt],by simp[hhf]⟩
 rw[hh]at hba
 exact⟨false,by simp -implicitDefEqProofs [zan,hT.refs,hT.ren,TP.at,hT.box,-AV.cells,zat,k6,g0,g1,g2,hlen,hba,cSt],by simp[cS,hh]⟩
theorem yb0 {sA:AV} {t:TP} {T:List Obj} (hT:zbd code ext sA t T) (h':code 656=some zbq) (h2:code 653=some zbs) (h3:code 759=some zbc) (h4:code 749=some zbf) (h5:code 650=some zb3) (h6:code 652=some zan) (hb:T.length<=1048576) (k:Nat) (o:Obj) (ho:T[k]?=some o) (k6:o.k=6) (cS:o.s=.empty) (cF:¬o.fn=0):∃b:Bool,callW code ext 652 [sA,t.at k] []=some (avb b,[])/\(b=true↔zao T o):=by
 rw[zad code ext h6]
 have hlen:=zau o.l.ok
 have hok:zao T o↔(o.s=.empty/\o.room=0/\0<=o.fn/\o.fn<256/\zar T o.l.xs true=true):=by
  unfold zao
  rw[if_neg (by omega),if_neg (by omega),if_neg (by omega),if_pos k6]
 rw[hok]
 clear hok
 have g0:t.row[t.off+k*5]?=some (.val (.int .u8 o.k)):=zai (hT.obj k o ho) 0 (by omega)
 have g1:t.row[t.off+k*5+1]?=some (.val (.string o.s)):=zai (hT.obj k o ho) 1 (by omega)
 have g2:t.row[t.off+k*5+2]?=some (o.l.iv):=zai (hT.obj k o ho) 2 (by omega)
 have g3:t.row[t.off+k*5+3]?=some (.val (.int .i64 o.room)):=zai (hT.obj k o ho) 3 (by omega)
 have g4:t.row[t.off+k*5+4]?=some (.val (.int .i64 o.fn)):=zai (hT.obj k o ho) 4 (by omega)
 have hba:=zcz (ext:=ext) hT h' h2 h3 h4 hb k o ho o.l.ok
 rw[zc0]at hba
 rw[show decide (o.k=6)=true by simp[k6]]at hba
 simp only[zbh,TP.at]at hba
 have cSt:(o.s=.empty)=True:=eq_true cS
 have cFt:(o.fn=0)=False:=eq_false cF
 by_cases hh:zar T o.l.xs true=true
 case neg=>
  have hhf:zar T o.l.xs true=false:=by simpa using hh
  rw[hhf]at hba
  exact⟨false,by simp -implicitDefEqProofs [zan,hT.refs,hT.ren,TP.at,hT.box,-AV.cells,zat,g1,g2,g4,hlen,hba,cSt,cFt],by simp[hhf]⟩
 rw[hh]at hba
 by_cases cZ:o.room=0
 case neg=>
  have cZt:(o.room=0)=False:=eq_false cZ
  first
  |(exfalso;omega)
  |exact⟨false,by simp -implicitDefEqProofs [zan,hT.refs,hT.ren,TP.at,hT.box,-AV.cells,zat,k6,g0,g1,g2,g3,g4,hlen,hba,cSt,cFt,cZt],by simp[cS,cZ]⟩
 have cZt:(o.room=0)=True:=eq_true cZ
 by_cases cG:0<=o.fn
 case neg=>
  have cGt:(0<=o.fn)=False:=eq_false cG
  first
  |(exfalso;omega)
  |exact⟨false,by simp -implicitDefEqProofs [zan,hT.refs,hT.ren,TP.at,hT.box,-AV.cells,zat,k6,g0,g1,g2,g3,g4,hlen,hba,cSt,cFt,cZt,cGt],by simp[cS,cZ,cG]⟩
 have cGt:(0<=o.fn)=True:=eq_true cG
 by_cases cH:o.fn<256
 case neg=>
  have cHt:(o.fn<256)=False:=eq_false cH
  first
  |(exfalso;omega)
  |exact⟨false,by simp -implicitDefEqProofs [zan,hT.refs,hT.ren,TP.at,hT.box,-AV.cells,zat,k6,g0,g1,g2,g3,g4,hlen,hba,cSt,cFt,cZt,cGt,cHt],by simp[cS,cZ,cG,cH]⟩
 have cHt:(o.fn<256)=True:=eq_true cH
 exact⟨true,by simp -implicitDefEqProofs [zan,hT.refs,hT.ren,TP.at,hT.box,-AV.cells,zat,k6,g0,g1,g2,g3,g4,hlen,hba,cSt,cFt,cZt,cGt,cHt],by simp[cS,cZ,cG,cH,hh]⟩
theorem yb1 {sA:AV} {t:TP} {T:List Obj} (hT:zbd code ext sA t T) (h':code 656=some zbq) (h2:code 653=some zbs) (h3:code 759=some zbc) (h4:code 749=some zbf) (h5:code 650=some zb3) (h6:code 652=some zan) (hb:T.length<=1048576) (k:Nat) (o:Obj) (ho:T[k]?=some o) (k6:o.k=6) (cS:o.s=.empty) (cF:o.fn=0) (cR:¬(o.l.xs.length:Int)<=o.room):∃b:Bool,callW code ext 652 [sA,t.at k] []=some (avb b,[])/\(b=true↔zao T o):=by
 rw[zad code ext h6]
 have hlen:=zau o.l.ok
 have hok:zao T o↔(o.s=.empty/\o.room=0/\0<=o.fn/\o.fn<256/\zar T o.l.xs true=true):=by
  unfold zao
  rw[if_neg (by omega),if_neg (by omega),if_neg (by omega),if_pos k6]
 rw[hok]
 clear hok
 have g0:t.row[t.off+k*5]?=some (.val (.int .u8 o.k)):=zai (hT.obj k o ho) 0 (by omega)
 have g1:t.row[t.off+k*5+1]?=some (.val (.string o.s)):=zai (hT.obj k o ho) 1 (by omega)
 have g2:t.row[t.off+k*5+2]?=some (o.l.iv):=zai (hT.obj k o ho) 2 (by omega)
 have g3:t.row[t.off+k*5+3]?=some (.val (.int .i64 o.room)):=zai (hT.obj k o ho) 3 (by omega)
 have g4:t.row[t.off+k*5+4]?=some (.val (.int .i64 o.fn)):=zai (hT.obj k o ho) 4 (by omega)
 have hba:=zcz (ext:=ext) hT h' h2 h3 h4 hb k o ho o.l.ok
 rw[zc0]at hba
 rw[show decide (o.k=6)=true by simp[k6]]at hba
 simp only[zbh,TP.at]at hba
 have cSt:(o.s=.empty)=True:=eq_true cS
 have cFt:(o.fn=0)=True:=eq_true cF
 have cRt:((o.l.xs.length:Int)<=o.room)=False:=eq_false cR
 by_cases hh:zar T o.l.xs true=true
 case neg=>
  have hhf:zar T o.l.xs true=false:=by simpa using hh
  rw[hhf]at hba
  exact⟨false,by simp -implicitDefEqProofs [zan,hT.refs,hT.ren,TP.at,hT.box,-AV.cells,zat,g1,g2,g3,g4,hlen,hba,cSt,cFt,cRt],by simp[hhf]⟩
 rw[hh]at hba
 by_cases cZ:o.room=0
 case neg=>
  have cZt:(o.room=0)=False:=eq_false cZ
  first
  |(exfalso;omega)
  |exact⟨false,by simp -implicitDefEqProofs [zan,hT.refs,hT.ren,TP.at,hT.box,-AV.cells,zat,k6,g0,g1,g2,g3,g4,hlen,hba,cSt,cFt,cRt,cZt],by simp[cS,cF,cZ]⟩
 have cZt:(o.room=0)=True:=eq_true cZ
 by_cases cG:0<=o.fn
 case neg=>
  have cGt:(0<=o.fn)=False:=eq_false cG
  first
  |(exfalso;omega)
  |exact⟨false,by simp -implicitDefEqProofs [zan,hT.refs,hT.ren,TP.at,hT.box,-AV.cells,zkp,zkq,zl3,zjf,ziq,zat,k6,g0,g1,g2,g3,g4,hlen,hba,cSt,cFt,cRt,cZt,cGt],by simp[cS,cF,cR,cZ,cG]⟩
 have cGt:(0<=o.fn)=True:=eq_true cG
 by_cases cH:o.fn<256
 case neg=>
  have cHt:(o.fn<256)=False:=eq_false cH
  first
  |(exfalso;omega)
  |exact⟨false,by simp -implicitDefEqProofs [zan,hT.refs,hT.ren,TP.at,hT.box,-AV.cells,zkp,zkq,zl3,zjf,ziq,zat,k6,g0,g1,g2,g3,g4,hlen,hba,cSt,cFt,cRt,cZt,cGt,cHt],by simp[cS,cF,cR,cZ,cG,cH]⟩
 have cHt:(o.fn<256)=True:=eq_true cH
 exact⟨true,by simp -implicitDefEqProofs [zan,hT.refs,hT.ren,TP.at,hT.box,-AV.cells,zat,k6,g0,g1,g2,g3,g4,hlen,hba,cSt,cFt,cRt,cZt,cGt,cHt],by simp[cS,cF,cZ,hh]⟩
theorem yb2 {sA:AV} {t:TP} {T:List Obj} (hT:zbd code ext sA t T) (h':code 656=some zbq) (h2:code 653=some zbs) (h3:code 759=some zbc) (h4:code 749=some zbf) (h5:code 650=some zb3) (h6:code 652=some zan) (hb:T.length<=1048576) (k:Nat) (o:Obj) (ho:T[k]?=some o) (k6:o.k=6) (cS:o.s=.empty) (cF:o.fn=0) (cR:(o.l.xs.length:Int)<=o.room) (cQ:¬o.room<=262144):∃b:Bool,callW code ext 652 [sA,t.at k] []=some (avb b,[])/\(b=true↔zao T o):=by
 rw[zad code ext h6]
 have hlen:=zau o.l.ok
 have hok:zao T o↔(o.s=.empty/\o.room=0/\0<=o.fn/\o.fn<256/\zar T o.l.xs true=true):=by
  unfold zao
  rw[if_neg (by omega),if_neg (by omega),if_neg (by omega),if_pos k6]
 rw[hok]
 clear hok
 have g0:t.row[t.off+k*5]?=some (.val (.int .u8 o.k)):=zai (hT.obj k o ho) 0 (by omega)
 have g1:t.row[t.off+k*5+1]?=some (.val (.string o.s)):=zai (hT.obj k o ho) 1 (by omega)
 have g2:t.row[t.off+k*5+2]?=some (o.l.iv):=zai (hT.obj k o ho) 2 (by omega)
 have g3:t.row[t.off+k*5+3]?=some (.val (.int .i64 o.room)):=zai (hT.obj k o ho) 3 (by omega)
 have g4:t.row[t.off+k*5+4]?=some (.val (.int .i64 o.fn)):=zai (hT.obj k o ho) 4 (by omega)
 have hba:=zcz (ext:=ext) hT h' h2 h3 h4 hb k o ho o.l.ok
 rw[zc0]at hba
 rw[show decide (o.k=6)=true by simp[k6]]at hba
 simp only[zbh,TP.at]at hba
 have cSt:(o.s=.empty)=True:=eq_true cS
 have cFt:(o.fn=0)=True:=eq_true cF
 have cRt:((o.l.xs.length:Int)<=o.room)=True:=eq_true cR
 have cQt:(o.room<=262144)=False:=eq_false cQ
 by_cases hh:zar T o.l.xs true=true
 case neg=>
  have hhf:zar T o.l.xs true=false:=by simpa using hh
  rw[hhf]at hba
  exact⟨false,by simp -implicitDefEqProofs [zan,hT.refs,hT.ren,TP.at,hT.box,-AV.cells,zat,g1,g2,g3,g4,hlen,hba,cSt,cFt,cRt,cQt],by simp[hhf]⟩
 rw[hh]at hba
 by_cases cZ:o.room=0
 case neg=>
  have cZt:(o.room=0)=False:=eq_false cZ
  first
  |(exfalso;omega)
  |exact⟨false,by simp -implicitDefEqProofs [zan,hT.refs,hT.ren,TP.at,hT.box,-AV.cells,zat,k6,g0,g1,g2,g3,g4,hlen,hba,cSt,cFt,cRt,cQt,cZt],by simp[cS,cF,cZ]⟩
 have cZt:(o.room=0)=True:=eq_true cZ
 by_cases cG:0<=o.fn
 case neg=>
  have cGt:(0<=o.fn)=False:=eq_false cG
  first
  |(exfalso;omega)
  |exact⟨false,by simp -implicitDefEqProofs [zan,hT.refs,hT.ren,TP.at,hT.box,-AV.cells,zkp,zkq,zl3,zjf,ziq,zat,k6,g0,g1,g2,g3,g4,hlen,hba,cSt,cFt,cRt,cQt,cZt,cGt],by simp[cS,cF,cR,cQ,cZ,cG]⟩
 have cGt:(0<=o.fn)=True:=eq_true cG
 by_cases cH:o.fn<256
 case neg=>
  have cHt:(o.fn<256)=False:=eq_false cH
  first
  |(exfalso;omega)
  |exact⟨false,by simp -implicitDefEqProofs [zan,hT.refs,hT.ren,TP.at,hT.box,-AV.cells,zkp,zkq,zl3,zjf,ziq,zat,k6,g0,g1,g2,g3,g4,hlen,hba,cSt,cFt,cRt,cQt,cZt,cGt,cHt],by simp[cS,cF,cR,cQ,cZ,cG,cH]⟩
 have cHt:(o.fn<256)=True:=eq_true cH
 exact⟨true,by simp -implicitDefEqProofs [zan,hT.refs,hT.ren,TP.at,hT.box,-AV.cells,zat,k6,g0,g1,g2,g3,g4,hlen,hba,cSt,cFt,cRt,cQt,cZt,cGt,cHt],by simp[cS,cF,cZ,hh]⟩
theorem yb3 {sA:AV} {t:TP} {T:List Obj} (hT:zbd code ext sA t T) (h':code 656=some zbq) (h2:code 653=some zbs) (h3:code 759=some zbc) (h4:code 749=some zbf) (h5:code 650=some zb3) (h6:code 652=some zan) (hb:T.length<=1048576) (k:Nat) (o:Obj) (ho:T[k]?=some o) (k6:o.k=6) (cS:o.s=.empty) (cF:o.fn=0) (cR:(o.l.xs.length:Int)<=o.room) (cQ:o.room<=262144):∃b:Bool,callW code ext 652 [sA,t.at k] []=some (avb b,[])/\(b=true↔zao T o):=by
 rw[zad code ext h6]
 have hlen:=zau o.l.ok
 have hok:zao T o↔(o.s=.empty/\o.room=0/\0<=o.fn/\o.fn<256/\zar T o.l.xs true=true):=by
  unfold zao
  rw[if_neg (by omega),if_neg (by omega),if_neg (by omega),if_pos k6]
 rw[hok]
 clear hok
 have g0:t.row[t.off+k*5]?=some (.val (.int .u8 o.k)):=zai (hT.obj k o ho) 0 (by omega)
 have g1:t.row[t.off+k*5+1]?=some (.val (.string o.s)):=zai (hT.obj k o ho) 1 (by omega)
 have g2:t.row[t.off+k*5+2]?=some (o.l.iv):=zai (hT.obj k o ho) 2 (by omega)
 have g3:t.row[t.off+k*5+3]?=some (.val (.int .i64 o.room)):=zai (hT.obj k o ho) 3 (by omega)
 have g4:t.row[t.off+k*5+4]?=some (.val (.int .i64 o.fn)):=zai (hT.obj k o ho) 4 (by omega)
 have hba:=zcz (ext:=ext) hT h' h2 h3 h4 hb k o ho o.l.ok
 rw[zc0]at hba
 rw[show decide (o.k=6)=true by simp[k6]]at hba
 simp only[zbh,TP.at]at hba
 have cSt:(o.s=.empty)=True:=eq_true cS
 have cFt:(o.fn=0)=True:=eq_true cF
 have cRt:((o.l.xs.length:Int)<=o.room)=True:=eq_true cR
 have cQt:(o.room<=262144)=True:=eq_true cQ
 by_cases hh:zar T o.l.xs true=true
 case neg=>
  have hhf:zar T o.l.xs true=false:=by simpa using hh
  rw[hhf]at hba
  exact⟨false,by simp -implicitDefEqProofs [zan,hT.refs,hT.ren,TP.at,hT.box,-AV.cells,zat,g1,g2,g3,g4,hlen,hba,cSt,cFt,cRt,cQt],by simp[hhf]⟩
 rw[hh]at hba
 by_cases cZ:o.room=0
 case neg=>
  have cZt:(o.room=0)=False:=eq_false cZ
  first
  |(exfalso;omega)
  |exact⟨false,by simp -implicitDefEqProofs [zan,hT.refs,hT.ren,TP.at,hT.box,-AV.cells,zat,k6,g0,g1,g2,g3,g4,hlen,hba,cSt,cFt,cRt,cQt,cZt],by simp[cS,cF,cZ]⟩
 have cZt:(o.room=0)=True:=eq_true cZ
 by_cases cG:0<=o.fn
 case neg=>
  have cGt:(0<=o.fn)=False:=eq_false cG
  first
  |(exfalso;omega)
  |exact⟨false,by simp -implicitDefEqProofs [zan,hT.refs,hT.ren,TP.at,hT.box,-AV.cells,zkp,zkq,zl3,zjf,ziq,zat,k6,g0,g1,g2,g3,g4,hlen,hba,cSt,cFt,cRt,cQt,cZt,cGt],by simp[cS,cF,cR,cQ,cZ,cG]⟩
 have cGt:(0<=o.fn)=True:=eq_true cG
 by_cases cH:o.fn<256
 case neg=>
  have cHt:(o.fn<256)=False:=eq_false cH
  first
  |(exfalso;omega)
  |exact⟨false,by simp -implicitDefEqProofs [zan,hT.refs,hT.ren,TP.at,hT.box,-AV.cells,zkp,zkq,zl3,zjf,ziq,zat,k6,g0,g1,g2,g3,g4,hlen,hba,cSt,cFt,cRt,cQt,cZt,cGt,cHt],by simp[cS,cF,cR,cQ,cZ,cG,cH]⟩
 have cHt:(o.fn<256)=True:=eq_true cH
 exact⟨true,by simp -implicitDefEqProofs [zan,hT.refs,hT.ren,TP.at,hT.box,-AV.cells,zat,k6,g0,g1,g2,g3,g4,hlen,hba,cSt,cFt,cRt,cQt,cZt,cGt,cHt],by simp[cS,cF,cZ,hh]⟩
theorem yby{sA:AV}{t:TP}{T:List Obj}(hT:zbd code ext sA t T)(h':code 656=some zbq)(h2:code 653=some zbs)(h3:code 759=some zbc)(h4:code 749=some zbf)(h5:code 650=some zb3)(h6:code 652=some zan)(hb:T.length<=1048576)(k:Nat)(o:Obj)(ho:T[k]?=some o)(k6:o.k=6):∃b:Bool,callW code ext 652 [sA,t.at k] []=some (avb b,[])/\(b=true↔zao T o):=by
 by_cases cS:o.s=.empty
 case neg=>exact ybz hT h' h2 h3 h4 h5 h6 hb k o ho k6 cS
 by_cases cF:o.fn=0
 case neg=>exact yb0 hT h' h2 h3 h4 h5 h6 hb k o ho k6 cS cF
 by_cases cR:(o.l.xs.length:Int)<=o.room
 case neg=>exact yb1 hT h' h2 h3 h4 h5 h6 hb k o ho k6 cS cF cR
 by_cases cQ:o.room<=262144
 case neg=>exact yb2 hT h' h2 h3 h4 h5 h6 hb k o ho k6 cS cF cR cQ
 exact yb3 hT h' h2 h3 h4 h5 h6 hb k o ho k6 cS cF cR cQ
end
set_option maxHeartbeats 1000000
section
variable {code:Nat->Option zab} {ext:zac}
theorem yb5 {sA:AV} {t:TP} {T:List Obj} (hT:zbd code ext sA t T) (h':code 656=some zbq) (h2:code 653=some zbs) (h3:code 759=some zbc) (h4:code 749=some zbf) (h5:code 650=some zb3) (h6:code 652=some zan) (hb:T.length<=1048576) (k:Nat) (o:Obj) (ho:T[k]?=some o) (k3:¬o.k=3) (k4:¬o.k=4) (k5:¬o.k=5) (k6:¬o.k=6) (cS:¬o.s=.empty):∃b:Bool,callW code ext 652 [sA,t.at k] []=some (avb b,[])/\(b=true↔zao T o):=by
 rw[zad code ext h6]
 have hlen:=zau o.l.ok
 have hok:zao T o↔(o.s=.empty/\o.room=0/\o.fn=0/\(o.l.xs.length:Int)=1/\zar T o.l.xs false=true):=by
  unfold zao
  rw[if_neg k3,if_neg k4,if_neg k5,if_neg k6]
 rw[hok]
 clear hok
 have g0:t.row[t.off+k*5]?=some (.val (.int .u8 o.k)):=zai (hT.obj k o ho) 0 (by omega)
 have g1:t.row[t.off+k*5+1]?=some (.val (.string o.s)):=zai (hT.obj k o ho) 1 (by omega)
 have g2:t.row[t.off+k*5+2]?=some (o.l.iv):=zai (hT.obj k o ho) 2 (by omega)
 have g3:t.row[t.off+k*5+3]?=some (.val (.int .i64 o.room)):=zai (hT.obj k o ho) 3 (by omega)
 have g4:t.row[t.off+k*5+4]?=some (.val (.int .i64 o.fn)):=zai (hT.obj k o ho) 4 (by omega)
 have hba:=zcz (ext:=ext) hT h' h2 h3 h4 hb k o ho o.l.ok
 rw[zc0]at hba
 rw[show decide (o.k=6)=false by simp;omega]at hba
 simp only[zbh,TP.at]at hba
 have cSt:(o.s=.empty)=False:=eq_false cS
 by_cases hh:zar T o.l.xs false=true
 case neg=>
  have hhf:zar T o.l.xs false=false:=by simpa using hh
  rw[hhf]at hba
  exact⟨false,by simp -implicitDefEqProofs [zan,hT.refs,hT.ren,TP.at,hT.box,-AV.cells,zat,g1,g2,hlen,hba,cSt],by simp[hhf]⟩
 rw[hh]at hba
 exact⟨false,by simp -implicitDefEqProofs [zan,hT.refs,hT.ren,TP.at,hT.box,-AV.cells,zat,k3,k4,k5,k6,g0,g1,g2,hlen,hba,cSt],by simp[cS,hh]⟩
theorem yb6 {sA:AV} {t:TP} {T:List Obj} (hT:zbd code ext sA t T) (h':code 656=some zbq) (h2:code 653=some zbs) (h3:code 759=some zbc) (h4:code 749=some zbf) (h5:code 650=some zb3) (h6:code 652=some zan) (hb:T.length<=1048576) (k:Nat) (o:Obj) (ho:T[k]?=some o) (k3:¬o.k=3) (k4:¬o.k=4) (k5:¬o.k=5) (k6:¬o.k=6) (cS:o.s=.empty) (cF:¬o.fn=0):∃b:Bool,callW code ext 652 [sA,t.at k] []=some (avb b,[])/\(b=true↔zao T o):=by
 rw[zad code ext h6]
 have hlen:=zau o.l.ok
 have hok:zao T o↔(o.s=.empty/\o.room=0/\o.fn=0/\(o.l.xs.length:Int)=1/\zar T o.l.xs false=true):=by
  unfold zao
  rw[if_neg k3,if_neg k4,if_neg k5,if_neg k6]
 rw[hok]
 clear hok
 have g0:t.row[t.off+k*5]?=some (.val (.int .u8 o.k)):=zai (hT.obj k o ho) 0 (by omega)
 have g1:t.row[t.off+k*5+1]?=some (.val (.string o.s)):=zai (hT.obj k o ho) 1 (by omega)
 have g2:t.row[t.off+k*5+2]?=some (o.l.iv):=zai (hT.obj k o ho) 2 (by omega)
 have g3:t.row[t.off+k*5+3]?=some (.val (.int .i64 o.room)):=zai (hT.obj k o ho) 3 (by omega)
 have g4:t.row[t.off+k*5+4]?=some (.val (.int .i64 o.fn)):=zai (hT.obj k o ho) 4 (by omega)
 have hba:=zcz (ext:=ext) hT h' h2 h3 h4 hb k o ho o.l.ok
 rw[zc0]at hba
 rw[show decide (o.k=6)=false by simp;omega]at hba
 simp only[zbh,TP.at]at hba
 have cSt:(o.s=.empty)=True:=eq_true cS
 have cFt:(o.fn=0)=False:=eq_false cF
 by_cases hh:zar T o.l.xs false=true
 case neg=>
  have hhf:zar T o.l.xs false=false:=by simpa using hh
  rw[hhf]at hba
  exact⟨false,by simp -implicitDefEqProofs [zan,hT.refs,hT.ren,TP.at,hT.box,-AV.cells,zat,g1,g2,g4,hlen,hba,cSt,cFt],by simp[hhf]⟩
 rw[hh]at hba
 by_cases cZ:o.room=0
 case neg=>
  have cZt:(o.room=0)=False:=eq_false cZ
  exact⟨false,by simp -implicitDefEqProofs [zan,hT.refs,hT.ren,TP.at,hT.box,-AV.cells,zat,k3,k4,k5,k6,g0,g1,g2,g3,g4,hlen,hba,cSt,cFt,cZt],by simp[cS,cF,cZ]⟩
 have cZt:(o.room=0)=True:=eq_true cZ
 exact⟨false,by simp -implicitDefEqProofs [zan,hT.refs,hT.ren,TP.at,hT.box,-AV.cells,zat,k3,k4,k5,k6,g0,g1,g2,g3,g4,hlen,hba,cSt,cFt,cZt],by simp[cS,cF,cZ,hh]⟩
theorem yb7 {sA:AV} {t:TP} {T:List Obj} (hT:zbd code ext sA t T) (h':code 656=some zbq) (h2:code 653=some zbs) (h3:code 759=some zbc) (h4:code 749=some zbf) (h5:code 650=some zb3) (h6:code 652=some zan) (hb:T.length<=1048576) (k:Nat) (o:Obj) (ho:T[k]?=some o) (k3:¬o.k=3) (k4:¬o.k=4) (k5:¬o.k=5) (k6:¬o.k=6) (cS:o.s=.empty) (cF:o.fn=0) (cR:¬(o.l.xs.length:Int)<=o.room):∃b:Bool,callW code ext 652 [sA,t.at k] []=some (avb b,[])/\(b=true↔zao T o):=by
 rw[zad code ext h6]
 have hlen:=zau o.l.ok
 have hok:zao T o↔(o.s=.empty/\o.room=0/\o.fn=0/\(o.l.xs.length:Int)=1/\zar T o.l.xs false=true):=by
  unfold zao
  rw[if_neg k3,if_neg k4,if_neg k5,if_neg k6]
 rw[hok]
 clear hok
 have g0:t.row[t.off+k*5]?=some (.val (.int .u8 o.k)):=zai (hT.obj k o ho) 0 (by omega)
 have g1:t.row[t.off+k*5+1]?=some (.val (.string o.s)):=zai (hT.obj k o ho) 1 (by omega)
 have g2:t.row[t.off+k*5+2]?=some (o.l.iv):=zai (hT.obj k o ho) 2 (by omega)
 have g3:t.row[t.off+k*5+3]?=some (.val (.int .i64 o.room)):=zai (hT.obj k o ho) 3 (by omega)
 have g4:t.row[t.off+k*5+4]?=some (.val (.int .i64 o.fn)):=zai (hT.obj k o ho) 4 (by omega)
 have hba:=zcz (ext:=ext) hT h' h2 h3 h4 hb k o ho o.l.ok
 rw[zc0]at hba
 rw[show decide (o.k=6)=false by simp;omega]at hba
 simp only[zbh,TP.at]at hba
 have cSt:(o.s=.empty)=True:=eq_true cS
 have cFt:(o.fn=0)=True:=eq_true cF
 have cRt:((o.l.xs.length:Int)<=o.room)=False:=eq_false cR
 by_cases hh:zar T o.l.xs false=true
 case neg=>
  have hhf:zar T o.l.xs false=false:=by simpa using hh
  rw[hhf]at hba
  exact⟨false,by simp -implicitDefEqProofs [zan,hT.refs,hT.ren,TP.at,hT.box,-AV.cells,zat,g1,g2,g3,g4,hlen,hba,cSt,cFt,cRt],by simp[hhf]⟩
 rw[hh]at hba
 by_cases cZ:o.room=0
 case neg=>
  have cZt:(o.room=0)=False:=eq_false cZ
  exact⟨false,by simp -implicitDefEqProofs [zan,hT.refs,hT.ren,TP.at,hT.box,-AV.cells,zat,k3,k4,k5,k6,g0,g1,g2,g3,g4,hlen,hba,cSt,cFt,cRt,cZt],by simp[cS,cF,cZ]⟩
 have cZt:(o.room=0)=True:=eq_true cZ
 by_cases cN1:(o.l.xs.length:Int)=1
 case neg=>
  have cN1t:((o.l.xs.length:Int)=1)=False:=eq_false cN1
  exact⟨false,by simp -implicitDefEqProofs [zan,hT.refs,hT.ren,TP.at,hT.box,-AV.cells,zat,k3,k4,k5,k6,g0,g1,g2,g3,g4,hlen,hba,cSt,cFt,cRt,cZt,cN1t],by simp[cS,cF,cZ,cN1]⟩
 have cN1t:((o.l.xs.length:Int)=1)=True:=eq_true cN1
 exact⟨true,by simp -implicitDefEqProofs [zan,hT.refs,hT.ren,TP.at,hT.box,-AV.cells,zat,k3,k4,k5,k6,g0,g1,g2,g3,g4,hlen,hba,cSt,cFt,cRt,cZt,cN1t],by simp[cS,cF,cZ,cN1,hh]⟩
theorem yb8 {sA:AV} {t:TP} {T:List Obj} (hT:zbd code ext sA t T) (h':code 656=some zbq) (h2:code 653=some zbs) (h3:code 759=some zbc) (h4:code 749=some zbf) (h5:code 650=some zb3) (h6:code 652=some zan) (hb:T.length<=1048576) (k:Nat) (o:Obj) (ho:T[k]?=some o) (k3:¬o.k=3) (k4:¬o.k=4) (k5:¬o.k=5) (k6:¬o.k=6) (cS:o.s=.empty) (cF:o.fn=0) (cR:(o.l.xs.length:Int)<=o.room) (cQ:¬o.room<=262144):∃b:Bool,callW code ext 652 [sA,t.at k] []=some (avb b,[])/\(b=true↔zao T o):=by
 rw[zad code ext h6]
 have hlen:=zau o.l.ok
 have hok:zao T o↔(o.s=.empty/\o.room=0/\o.fn=0/\(o.l.xs.length:Int)=1/\zar T o.l.xs false=true):=by
  unfold zao
  rw[if_neg k3,if_neg k4,if_neg k5,if_neg k6]
 rw[hok]
 clear hok
 have g0:t.row[t.off+k*5]?=some (.val (.int .u8 o.k)):=zai (hT.obj k o ho) 0 (by omega)
 have g1:t.row[t.off+k*5+1]?=some (.val (.string o.s)):=zai (hT.obj k o ho) 1 (by omega)
 have g2:t.row[t.off+k*5+2]?=some (o.l.iv):=zai (hT.obj k o ho) 2 (by omega)
 have g3:t.row[t.off+k*5+3]?=some (.val (.int .i64 o.room)):=zai (hT.obj k o ho) 3 (by omega)
 have g4:t.row[t.off+k*5+4]?=some (.val (.int .i64 o.fn)):=zai (hT.obj k o ho) 4 (by omega)
 have hba:=zcz (ext:=ext) hT h' h2 h3 h4 hb k o ho o.l.ok
 rw[zc0]at hba
 rw[show decide (o.k=6)=false by simp;omega]at hba
 simp only[zbh,TP.at]at hba
 have cSt:(o.s=.empty)=True:=eq_true cS
 have cFt:(o.fn=0)=True:=eq_true cF
 have cRt:((o.l.xs.length:Int)<=o.room)=True:=eq_true cR
 have cQt:(o.room<=262144)=False:=eq_false cQ
 by_cases hh:zar T o.l.xs false=true
 case neg=>
  have hhf:zar T o.l.xs false=false:=by simpa using hh
  rw[hhf]at hba
  exact⟨false,by simp -implicitDefEqProofs [zan,hT.refs,hT.ren,TP.at,hT.box,-AV.cells,zat,g1,g2,g3,g4,hlen,hba,cSt,cFt,cRt,cQt],by simp[hhf]⟩
 rw[hh]at hba
 by_cases cZ:o.room=0
 case neg=>
  have cZt:(o.room=0)=False:=eq_false cZ
  exact⟨false,by simp -implicitDefEqProofs [zan,hT.refs,hT.ren,TP.at,hT.box,-AV.cells,zat,k3,k4,k5,k6,g0,g1,g2,g3,g4,hlen,hba,cSt,cFt,cRt,cQt,cZt],by simp[cS,cF,cZ]⟩
 have cZt:(o.room=0)=True:=eq_true cZ
 by_cases cN1:(o.l.xs.length:Int)=1
 case neg=>
  have cN1t:((o.l.xs.length:Int)=1)=False:=eq_false cN1
  exact⟨false,by simp -implicitDefEqProofs [zan,hT.refs,hT.ren,TP.at,hT.box,-AV.cells,zat,k3,k4,k5,k6,g0,g1,g2,g3,g4,hlen,hba,cSt,cFt,cRt,cQt,cZt,cN1t],by simp[cS,cF,cZ,cN1]⟩
 have cN1t:((o.l.xs.length:Int)=1)=True:=eq_true cN1
 exact⟨true,by simp -implicitDefEqProofs [zan,hT.refs,hT.ren,TP.at,hT.box,-AV.cells,zat,k3,k4,k5,k6,g0,g1,g2,g3,g4,hlen,hba,cSt,cFt,cRt,cQt,cZt,cN1t],by simp[cS,cF,cZ,cN1,hh]⟩
theorem yb9 {sA:AV} {t:TP} {T:List Obj} (hT:zbd code ext sA t T) (h':code 656=some zbq) (h2:code 653=some zbs) (h3:code 759=some zbc) (h4:code 749=some zbf) (h5:code 650=some zb3) (h6:code 652=some zan) (hb:T.length<=1048576) (k:Nat) (o:Obj) (ho:T[k]?=some o) (k3:¬o.k=3) (k4:¬o.k=4) (k5:¬o.k=5) (k6:¬o.k=6) (cS:o.s=.empty) (cF:o.fn=0) (cR:(o.l.xs.length:Int)<=o.room) (cQ:o.room<=262144):∃b:Bool,callW code ext 652 [sA,t.at k] []=some (avb b,[])/\(b=true↔zao T o):=by
 rw[zad code ext h6]
 have hlen:=zau o.l.ok
 have hok:zao T o↔(o.s=.empty/\o.room=0/\o.fn=0/\(o.l.xs.length:Int)=1/\zar T o.l.xs false=true):=by
  unfold zao
  rw[if_neg k3,if_neg k4,if_neg k5,if_neg k6]
 rw[hok]
 clear hok
 have g0:t.row[t.off+k*5]?=some (.val (.int .u8 o.k)):=zai (hT.obj k o ho) 0 (by omega)
 have g1:t.row[t.off+k*5+1]?=some (.val (.string o.s)):=zai (hT.obj k o ho) 1 (by omega)
 have g2:t.row[t.off+k*5+2]?=some (o.l.iv):=zai (hT.obj k o ho) 2 (by omega)
 have g3:t.row[t.off+k*5+3]?=some (.val (.int .i64 o.room)):=zai (hT.obj k o ho) 3 (by omega)
 have g4:t.row[t.off+k*5+4]?=some (.val (.int .i64 o.fn)):=zai (hT.obj k o ho) 4 (by omega)
 have hba:=zcz (ext:=ext) hT h' h2 h3 h4 hb k o ho o.l.ok
 rw[zc0]at hba
 rw[show decide (o.k=6)=false by simp;omega]at hba
 simp only[zbh,TP.at]at hba
 have cSt:(o.s=.empty)=True:=eq_true cS
 have cFt:(o.fn=0)=True:=eq_true cF
 have cRt:((o.l.xs.length:Int)<=o.room)=True:=eq_true cR
 have cQt:(o.room<=262144)=True:=eq_true cQ
 by_cases hh:zar T o.l.xs false=true
 case neg=>
  have hhf:zar T o.l.xs false=false:=by simpa using hh
  rw[hhf]at hba
  exact⟨false,by simp -implicitDefEqProofs [zan,hT.refs,hT.ren,TP.at,hT.box,-AV.cells,zat,g1,g2,g3,g4,hlen,hba,cSt,cFt,cRt,cQt],by simp[hhf]⟩
 rw[hh]at hba
 by_cases cZ:o.room=0
 case neg=>
  have cZt:(o.room=0)=False:=eq_false cZ
  exact⟨false,by simp -implicitDefEqProofs [zan,hT.refs,hT.ren,TP.at,hT.box,-AV.cells,zat,k3,k4,k5,k6,g0,g1,g2,g3,g4,hlen,hba,cSt,cFt,cRt,cQt,cZt],by simp[cS,cF,cZ]⟩
 have cZt:(o.room=0)=True:=eq_true cZ
 by_cases cN1:(o.l.xs.length:Int)=1
 case neg=>
  have cN1t:((o.l.xs.length:Int)=1)=False:=eq_false cN1
  exact⟨false,by simp -implicitDefEqProofs [zan,hT.refs,hT.ren,TP.at,hT.box,-AV.cells,zat,k3,k4,k5,k6,g0,g1,g2,g3,g4,hlen,hba,cSt,cFt,cRt,cQt,cZt,cN1t],by simp[cS,cF,cZ,cN1]⟩
 have cN1t:((o.l.xs.length:Int)=1)=True:=eq_true cN1
 exact⟨true,by simp -implicitDefEqProofs [zan,hT.refs,hT.ren,TP.at,hT.box,-AV.cells,zat,k3,k4,k5,k6,g0,g1,g2,g3,g4,hlen,hba,cSt,cFt,cRt,cQt,cZt,cN1t],by simp[cS,cF,cZ,cN1,hh]⟩
theorem yb4{sA:AV}{t:TP}{T:List Obj}(hT:zbd code ext sA t T)(h':code 656=some zbq)(h2:code 653=some zbs)(h3:code 759=some zbc)(h4:code 749=some zbf)(h5:code 650=some zb3)(h6:code 652=some zan)(hb:T.length<=1048576)(k:Nat)(o:Obj)(ho:T[k]?=some o)(k3:¬o.k=3)(k4:¬o.k=4)(k5:¬o.k=5)(k6:¬o.k=6):∃b:Bool,callW code ext 652 [sA,t.at k] []=some (avb b,[])/\(b=true↔zao T o):=by
 by_cases cS:o.s=.empty
 case neg=>exact yb5 hT h' h2 h3 h4 h5 h6 hb k o ho k3 k4 k5 k6 cS
 by_cases cF:o.fn=0
 case neg=>exact yb6 hT h' h2 h3 h4 h5 h6 hb k o ho k3 k4 k5 k6 cS cF
 by_cases cR:(o.l.xs.length:Int)<=o.room
 case neg=>exact yb7 hT h' h2 h3 h4 h5 h6 hb k o ho k3 k4 k5 k6 cS cF cR
 by_cases cQ:o.room<=262144
 case neg=>exact yb8 hT h' h2 h3 h4 h5 h6 hb k o ho k3 k4 k5 k6 cS cF cR cQ
 exact yb9 hT h' h2 h3 h4 h5 h6 hb k o ho k3 k4 k5 k6 cS cF cR cQ
end
section
variable {code:Nat->Option zab} {ext:zac}
theorem yca{sA:AV}{t:TP}{T:List Obj}(hT:zbd code ext sA t T)(h':code 656=some zbq)(h2:code 653=some zbs)(h3:code 759=some zbc)(h4:code 749=some zbf)(h5:code 650=some zb3)(h6:code 652=some zan)(hb:T.length<=1048576)(k:Nat)(o:Obj)(ho:T[k]?=some o):∃b:Bool,callW code ext 652 [sA,t.at k] []=some (avb b,[])/\(b=true↔zao T o):=by
 by_cases k3:o.k=3
 ·exact ybg hT h' h2 h3 h4 h5 h6 hb k o ho k3
 by_cases k4:o.k=4
 ·exact ybm hT h' h2 h3 h4 h5 h6 hb k o ho k4
 by_cases k5:o.k=5
 ·exact ybs hT h' h2 h3 h4 h5 h6 hb k o ho k5
 by_cases k6:o.k=6
 ·exact yby hT h' h2 h3 h4 h5 h6 hb k o ho k6
 exact yb4 hT h' h2 h3 h4 h5 h6 hb k o ho k3 k4 k5 k6
abbrev zh4(v:Val):AObj:=.flat [.val (.int .u8 v.k),.val (.int .i64 v.n)] false
abbrev zo3(i:Int):Env:=[(1,.optr 1 0),(2,.optr 2 0),(3,.optr 3 0),(8,.osl 0 0 2 1 (some 1)),(9,zaa 1),(10,zaa i)]
def ze6(sA:AV)(t:TP)(v:Val):Option Nat->Mem
 |none=>[zh4 v,.rich [sA],.rich [.omap 4],.rich [zae],.map []]
 |some q=>[zh4 v,.rich [sA],.rich [.omap 4],.rich [.osl 5 0 1 1 none],.map (zcq t [q]),.rich (zbi t [q])]
theorem yeg{sA:AV}{t:TP}{T:List Obj}(hT:zbd code ext sA t T)(hb:T.length<=1048576)(v:Val)(hw:tVal.wf v):
  ∃s',den code ext zdh ⟨5,zo3 0,ze6 sA t v none⟩=some (.normal,s')/\s'.tidy [1,2,3,8,9,10]=⟨5,zo3 1,ze6 sA t v (za7 T v)⟩:=by
 have hld:=hT.lead v hw.2
 have e1:IntKind.wrap .i64 1=1:=rfl
 cases hq:za7 T v with
 |none=>
  rw[hq,zde]at hld
  try simp only[TP.at]at hld
  simp only[ze6]
  simp -implicitDefEqProofs [zdh,hT.refs,hT.ren,hld,e1]
 |some q=>
  rw[hq,zde]at hld
  try simp only[TP.at]at hld
  simp only[ze6]
  have hf:∀m,zcp m 3 (.tag t.b (t.a+q*5) (.ptr t.row (t.off+q*5))) [] 0=some none:=fun _=>rfl
  simp -implicitDefEqProofs [zdh,hT.refs,hT.ren,TP.at,hld,e1,hf,zaz,za0,zb8,elems,zbr,zcq,zbi]
theorem yef{sA:AV}{t:TP}{T:List Obj}(hT:zbd code ext sA t T)(h':code 655=some zg3)(hb:T.length<=1048576)(v:Val)(hw:tVal.wf v):
  callW code ext 655 [.osl 0 0 2 1 (some 1),.optr 1 0,.optr 2 0,.optr 3 0] (ze6 sA t v none)=some (.tup [],ze6 sA t v (za7 T v)):=by
 obtain⟨s',g1,g2⟩:=yeg (ext:=ext) hT hb v hw
 have hl:∀s,s.tidy [1,2,3,8,9,10]=⟨5,zo3 0,ze6 sA t v none⟩->den code ext (.loop [1,2,3,8,9,10] zdh) s=some (.exit 0,⟨5,zo3 1++[(11,avb false)],ze6 sA t v (za7 T v)⟩):=by
  intro s hs
  rw[zfi,hs,g1]
  simp only[andThen]
  rw[zfi,g2]
  cases za7 T v with
  |none=>simp -implicitDefEqProofs [zdh,ze6]
  |some q=>simp -implicitDefEqProofs [zdh,TP.at,ze6,zbi,zcq]
 rw[zad code ext h']
 have hl':=hl ⟨5,zo3 0,ze6 sA t v none⟩ (by simp -implicitDefEqProofs [ze6])
 cases hq:za7 T v with
 |none=>
  rw[hq]at hl'
  simp only[ze6]at hl' ⊢
  simp -implicitDefEqProofs [zg3,hl']
 |some q=>
  rw[hq]at hl'
  simp only[ze6,zbi,zcq]at hl' ⊢
  simp -implicitDefEqProofs [zg3,hT.refs,hT.ren,TP.at,hl']
end
section
variable {code:Nat->Option zab} {ext:zac}
abbrev zju(i:Int):Env:=[(4,.optr 1 0),(6,.clo 655 [.optr 2 0,.optr 3 0,.optr 1 0]),(7,zaa i)]
def zfy(sA:AV)(t:TP)(v:Val)(out:List Nat):Mem:=[zh4 v,.rich [.osl 4 0 1 out.length none],.rich [sA],.rich [.omap 5],.rich (zbi t out),.map (zcq t out)]
theorem yfj{sA:AV}{t:TP}{T:List Obj}(hT:zbd code ext sA t T)(h':code 655=some zg3)(hb:T.length<=1048576)(v:Val)(out:List Nat)(hnd:out.Nodup)(hlt:∀q∈out,q<T.length)(i k:Nat)(hk:out[i]?=some k)(o:Obj)(ho:T[k]?=some o):
  ∃s',den code ext zke ⟨1,zju i,zfy sA t v out⟩=some (.normal,s')/\s'.tidy [4,6,7]=⟨1,zju ((i:Int)+1),zfy sA t v (zb4 T out o.l.xs)⟩:=by
 have hi:=(xab.1 hk).1
 have hlen:=z4b T.length out hnd hlt
 have e1:IntKind.wrap .i64 ((i:Int)+1)=(i:Int)+1:=zaw (by omega) (by omega)
 have hp:(zbi t out)[i]?=some (t.at k):=by simp[zbi,hk]
 have hL:t.row[t.off+k*5+2]?=some o.l.iv:=zai (hT.obj k o ho) 2 (by omega)
 obtain⟨o',tail',g1,g2,g3,g4⟩:=z54 (ext:=ext) hT h' hb o.l.iv o.l.xs o.l.ok 5 out (.osl 4 0 1 out.length none) [.rich (zbi t out)] (.inr ⟨rfl,.inl ⟨rfl,rfl⟩⟩) rfl hnd hlt
 simp only[zbb,xbo,xa7]at g4
 by_cases he:zb4 T out o.l.xs=out
 ·obtain⟨rfl,rfl⟩:=g2 he
  rw[he]at g4 ⊢
  refine⟨⟨1,zju ((i:Int)+1),zfy sA t v out⟩,?_,?_⟩
  ·simp -implicitDefEqProofs [zke,hT.refs,hT.ren,TP.at,zfy,hi,hp,hL,g4,e1]
  ·simp -implicitDefEqProofs [zfy,hT.refs,hT.ren]
 ·have ho':=g3 he
  subst ho'
  generalize zb4 T out o.l.xs=out' at *
  obtain rfl:tail'=[.dead,.rich (zbi t out')]:=by
   rcases g1 with⟨h5,_⟩|⟨_,⟨h6,_⟩|⟨_,h7⟩⟩
   ·cases h5
   ·cases h6
   ·exact h7
  refine⟨⟨1,zju ((i:Int)+1),[zh4 v,.rich [.osl 6 0 1 out'.length none],.rich [sA],.rich [.omap 5],.dead,.map (zcq t out'),.rich (zbi t out')]⟩,?_,?_⟩
  ·simp -implicitDefEqProofs [zke,hT.refs,hT.ren,TP.at,zfy,hi,hp,hL,g4,e1]
  ·simp -implicitDefEqProofs [zfy,hT.refs,hT.ren]
def zo9(t:TP)(v:Val)(out:List Nat):AV×Mem:=if out=[]then(zae,[zh4 v])else(.osl 1 0 1 out.length none,[zh4 v,.rich (zbi t out)])
theorem yfi{sA:AV}{t:TP}{T:List Obj}(hT:zbd code ext sA t T)(h':code 655=some zg3)(h2:code 654=some zqn)(hb:T.length<=1048576)(v:Val)(hw:tVal.wf v):
  ∃out,Grown T [v] out out.length/\callW code ext 654 [sA,.osl 0 0 2 1 (some 1)] [zh4 v]=some (zo9 t v out):=by
 have g4:=yef (ext:=ext) hT h' hb v hw
 have hG:=Grown.start T [v]
 rw[zad code ext h2]
 cases hq:za7 T v with
 |none=>
  have he:zb4 T [] [v]=[]:=by simp[zb4,hq]
  rw[hq]at g4
  rw[he]at hG
  simp only[ze6]at g4
  refine⟨[],hG,?_⟩
  have hl:den code ext (.loop [4,6,7] zke) ⟨1,[(4,.optr 2 0),(6,.clo 655 [.optr 1 0,.optr 4 0,.optr 2 0]),(7,zaa 0)],[zh4 v,.rich [sA],.rich [zae],.map [],.rich [.omap 3]]⟩=
     some (.exit 0,⟨1,[(4,.optr 1 0),(6,.clo 655 [.optr 2 0,.optr 3 0,.optr 1 0]),(7,zaa 0),(16,avb false)],[zh4 v,.rich [zae],.rich [sA],.rich [.omap 4],.map []]⟩):=by
   rw[zfi]
   simp -implicitDefEqProofs [zke,hT.refs,hT.ren]
  simp -implicitDefEqProofs [zqn,hT.refs,hT.ren,hT.box,-AV.cells,zkp,zjf,g4,hl,zo9]
 |some q=>
  have he:zb4 T [] [v]=[q]:=by simp[zb4,hq]
  rw[hq]at g4
  rw[he]at hG
  simp only[ze6]at g4
  have loop:∀s:St,s.tidy [4,6,7]=⟨1,zju 0,zfy sA t v [q]⟩->∃e s',den code ext (.loop [4,6,7] zke) s=some (e,s')/\e≠ .normal/\
    (e=.exit 0/\∃out,out≠[]/\Grown T [v] out out.length/\s'=⟨1,zju out.length++[(16,avb false)],zfy sA t v out⟩):=by
   intro s hst
   refine zbu (fun n s=>∃(i:Nat) (out:List Nat),i<=out.length/\out≠[]/\n+i=T.length/\Grown T [v] out i/\s.tidy [4,6,7]=⟨1,zju i,zfy sA t v out⟩) _ ?_ T.length s ⟨0,[q],by omega,by simp,by omega,hG,hst⟩
   clear hst hG he g4
   rintro n s ⟨i,out,hio,hne,hn,hG,hst⟩
   rw[hst]
   have hlt:∀q∈out,q<T.length:=fun q hq=>(hG.reach q hq).lt
   by_cases hi:i<out.length
   ·have hk:=xaa hi
    have hko:=hlt _ (xa8 hi)
    obtain⟨s',q1,q2⟩:=yfj (code:=code) (ext:=ext) hT h' hb v out hG.nodup hlt i _ hk _ (xaa hko)
    have hG':=hG.next hk (xaa hko)
    have hs:=hG.short
    obtain⟨r,hr⟩:=zn0 T T[out[i]].l.xs out
    refine⟨.normal,s',q1,.inl ⟨rfl,n-1,by omega,i+1,_,?_,?_,by omega,hG',by rw[q2];rfl⟩⟩
    ·rw[hr,xak];omega
    ·rw[hr];intro e;exact hne (List.append_eq_nil_iff.1 e).1
   ·have:i=out.length:=by omega
    subst this
    refine⟨.exit 0,⟨1,zju out.length++[(16,avb false)],zfy sA t v out⟩,?_,.inr ⟨by simp,rfl,out,hne,hG,rfl⟩⟩
    simp -implicitDefEqProofs [zke,zfy]
  obtain⟨e,s',l1,_,rfl,out,hne,hG',rfl⟩:=loop ⟨1,[(4,.optr 2 0),(6,.clo 655 [.optr 1 0,.optr 4 0,.optr 2 0]),(7,zaa 0)],[zh4 v,.rich [sA],.rich [.osl 5 0 1 1 none],.map (zcq t [q]),.rich [.omap 3],.rich (zbi t [q])]⟩ (by simp -implicitDefEqProofs [zfy,hT.refs,hT.ren,TP.at,zbi,zcq])
  refine⟨out,hG',?_⟩
  simp -implicitDefEqProofs [zqn,hT.refs,hT.ren,hT.box,-AV.cells,zkq,zjf,g4,l1,zfy,zo9,hne]
end
section
variable {code:Nat->Option zab} {ext:zac}
theorem yd4{sA:AV}{t:TP}{T:List Obj}(hT:zbd code ext sA t T)(h':code 656=some zbq)(h2:code 653=some zbs)(h3:code 759=some zbc)(h4:code 749=some zbf)(h5:code 650=some zb3)(h6:code 652=some zan)(h7:code 647=some zqm)(hb:T.length<=1048576)(k:Nat)(o:Obj)(ho:T[k]?=some o):
  ∃b:Bool,callW code ext 647 [t.at k,.optr 0 0] [.rich [sA]]=some (avb b,[.rich [sA]])/\(b=true↔ ¬zao T o):=by
 obtain⟨b,hm,hbo⟩:=yca (ext:=ext) hT h' h2 h3 h4 h5 h6 hb k o ho
 refine⟨!b,?_,by rw[<-hbo];simp⟩
 simp only[TP.at]at hm ⊢
 rw[zad code ext h7]
 simp -implicitDefEqProofs [zqm,hT.refs,hT.ren,hm]
def zem(sA:AV)(t:TP)(out:List Nat):Mem:=[.rich (zbi t out),.rich [sA]]
theorem z56{sA:AV}{t:TP}{T:List Obj}(hT:zbd code ext sA t T)(h':code 656=some zbq)(h2:code 653=some zbs)(h3:code 759=some zbc)(h4:code 749=some zbf)(h5:code 650=some zb3)(h6:code 652=some zan)(h7:code 647=some zqm)(h8:code 745=some znr)(h9:code 755=some zlr)(hb:T.length<=1048576)(out:List Nat)(hol:out.length<=T.length)(hlt:∀q∈out,q<T.length):
  ∃b:Bool,callW code ext 745 [.osl 0 0 1 out.length none,.clo 647 [.optr 1 0]] (zem sA t out)=some (avb b,zem sA t out)/\(b=true↔ ∃(k:Nat) (o:Obj),k∈out/\T[k]?=some o/\¬zao T o):=by
 have loop:∃e s',den code ext (.loop [0,1,7,8] zls) ⟨2,[(0,.osl 0 0 1 out.length none),(1,.clo 647 [.optr 1 0]),(7,zaa out.length),(8,zaa 0)],zem sA t out⟩=some (e,s')/\e≠ .normal/\
   ((e=.exit 0/\(∀(i k:Nat) (o:Obj),out[i]?=some k->T[k]?=some o->zao T o)/\s'=⟨2,[(0,.osl 0 0 1 out.length none),(1,.clo 647 [.optr 1 0]),(7,zaa out.length),(8,zaa out.length),(9,avb false)],zem sA t out⟩)\/(e=.ret/\(∃(k:Nat) (o:Obj),k∈out/\T[k]?=some o/\¬zao T o)/\∃i:Nat,s'=⟨2,[(4,zaa (i:Nat))],zem sA t out⟩)):=by
  refine zbu (fun n s=>∃(i:Nat),i+n=out.length/\(∀(j k:Nat) (o:Obj),j<i->out[j]?=some k->T[k]?=some o->zao T o)/\s=⟨2,[(0,.osl 0 0 1 out.length none),(1,.clo 647 [.optr 1 0]),(7,zaa out.length),(8,zaa (i:Nat))],zem sA t out⟩) _ ?_ out.length _ ⟨0,by simp,fun j k o hj=>by omega,rfl⟩
  rintro n _ ⟨i,hi,hall,rfl⟩
  by_cases hio:i<out.length
  ·have hk:=xaa hio
   have hkm:=xa8 hio
   have hkT:=hlt _ hkm
   have e1:IntKind.wrap .i64 ((i:Int)+1)=(i:Int)+1:=zaw (by omega) (by omega)
   generalize out[i]=k at hk hkm hkT
   have hTk:=xaa hkT
   generalize T[k]=o at hTk
   have hp:(zbi t out)[i]?=some (t.at k):=by simp[zbi,hk]
   obtain⟨b,hm,hbo⟩:=yd4 (ext:=ext) hT h' h2 h3 h4 h5 h6 h7 hb k o hTk
   simp only[TP.at]at hm hp
   cases b with
   |true=>
    refine⟨.ret,⟨2,[(4,zaa (i:Nat))],zem sA t out⟩,?_,.inr ⟨by simp,.inr ⟨rfl,⟨k,o,hkm,hTk,hbo.1 rfl⟩,i,rfl⟩⟩⟩
    simp -implicitDefEqProofs [zls,hT.refs,hT.ren,zem,hio,hp,hm]
   |false=>
    refine⟨.normal,⟨2,[(0,.osl 0 0 1 out.length none),(1,.clo 647 [.optr 1 0]),(7,zaa out.length),(8,zaa ((i:Int)+1))],zem sA t out⟩,?_,.inl ⟨rfl,n-1,by omega,i+1,by omega,?_,rfl⟩⟩
    ·simp -implicitDefEqProofs [zls,hT.refs,hT.ren,zem,hio,hp,hm,e1]
    ·intro j k' o' hj h1 h2
     by_cases hji:j<i
     ·exact hall j k' o' hji h1 h2
     ·have:j=i:=by omega
      subst this
      rw[hk]at h1;cases h1
      rw[hTk]at h2;cases h2
      exact Classical.byContradiction fun hc=>by have:=hbo.2 hc;cases this
  ·have:i=out.length:=by omega
   subst this
   refine⟨.exit 0,_,?_,.inr ⟨by simp,.inl ⟨rfl,fun i k o h1 h2=>hall i k o (xab.1 h1).1 h1 h2,rfl⟩⟩⟩
   simp -implicitDefEqProofs [zls,zem]
 have hidx:∃r:Int,callW code ext 755 [.osl 0 0 1 out.length none,.clo 647 [.optr 1 0]] (zem sA t out)=some (zaa r,zem sA t out)/\((0<=r)↔ ∃(k:Nat) (o:Obj),k∈out/\T[k]?=some o/\¬zao T o):=by
  obtain⟨e,s',g1,_,⟨rfl,ha,rfl⟩|⟨rfl,ha,i,rfl⟩⟩:=loop
  ·refine⟨-1,?_,⟨fun h=>by omega,?_⟩⟩
   ·rw[zad code ext h9]
    simp only[zem]at g1 ⊢
    simp -implicitDefEqProofs [zlr,g1]
   ·rintro⟨k,o,hk,ho,hn⟩
    obtain⟨i,hi⟩:=xa3 hk
    exact absurd (ha i k o hi ho) hn
  ·refine⟨i,?_,⟨fun _=>ha,fun _=>by omega⟩⟩
   rw[zad code ext h9]
   simp only[zem]at g1 ⊢
   simp -implicitDefEqProofs [zlr,g1]
 obtain⟨r,hr,hri⟩:=hidx
 rw[zad code ext h8]
 refine⟨decide (0<=r),?_,by rw[decide_eq_true_eq,hri]⟩
 simp only[zem]at hr ⊢
 simp -implicitDefEqProofs [znr,hT.refs,hT.ren,hr]
theorem yd2(h8:code 745=some znr)(h9:code 755=some zlr){sA:AV}{t:TP}{T:List Obj}(hT:zbd code ext sA t T):
  callW code ext 745 [zae,.clo 647 [.optr 0 0]] [.rich [sA]]=some (avb false,[.rich [sA]]):=by
 have hl:den code ext (.loop [0,1,7,8] zls) ⟨1,[(0,zae),(1,.clo 647 [.optr 0 0]),(7,zaa 0),(8,zaa 0)],[.rich [sA]]⟩=some (.exit 0,⟨1,[(0,zae),(1,.clo 647 [.optr 0 0]),(7,zaa 0),(8,zaa 0),(9,avb false)],[.rich [sA]]⟩):=by
  rw[zfi]
  simp -implicitDefEqProofs [zls]
 have h5:callW code ext 755 [zae,.clo 647 [.optr 0 0]] [.rich [sA]]=some (zaa (-1),[.rich [sA]]):=by
  rw[zad code ext h9]
  simp -implicitDefEqProofs [zlr,hl]
 rw[zad code ext h8]
 simp -implicitDefEqProofs [znr,hT.refs,hT.ren,h5]
theorem z7b{sA:AV}{t:TP}{T:List Obj}(hT:zbd code ext sA t T)(h':code 656=some zbq)(h2:code 653=some zbs)(h3:code 759=some zbc)(h4:code 749=some zbf)(h5:code 650=some zb3)(h6:code 652=some zan)(h7:code 647=some zqm)(h8:code 745=some znr)(h9:code 755=some zlr)(h10:code 654=some zqn)(h11:code 655=some zg3)(h12:code 646=some zql)
  (hb:T.length<=1048576) (v:Val) (hw:tVal.wf v):
  ∃b:Bool,callW code ext 646 [sA,.agg [.imm (.val (.int .u8 v.k)),zaa v.n]] []=some (avb b,[])/\(b=true↔zft T v):=by
 have hv:=z4x (ext:=ext) hT h' hb v hw.2
 rw[zad code ext h12]
 cases hvv:zcd T v with
 |false=>
  rw[hvv]at hv
  exact⟨false,by simp -implicitDefEqProofs [zql,hT.refs,hT.ren,hT.box,-AV.cells,ziq,hv],by simp[zft,hvv]⟩
 |true=>
  rw[hvv]at hv
  obtain⟨out,hG,hre⟩:=yfi (ext:=ext) hT h11 h10 hb v hw
  have hmem:∀k,k∈out↔Reach T [v] k:=hG.done (xap _)
  by_cases hne:out=[]
  ·subst hne
   simp only[zo9,if_true]at hre
   have hna:=yd2 (ext:=ext) h8 h9 hT
   refine⟨true,by simp -implicitDefEqProofs [zql,hT.refs,hT.ren,hT.box,-AV.cells,ziq,hv,hre,hna],?_⟩
   simp only[zft,hvv,true_and,true_iff]
   intro k o hk
   have:=(hmem k).2 hk
   cases this
  ·simp only[zo9,if_neg hne]at hre
   obtain⟨b,hany,hbo⟩:=z56 (ext:=ext) hT h' h2 h3 h4 h5 h6 h7 h8 h9 hb out hG.short (fun q hq=>((hmem q).1 hq).lt)
   refine⟨!b,?_,?_⟩
   ·simp only[zem]at hany
    simp -implicitDefEqProofs [zql,hT.refs,hT.ren,hT.box,-AV.cells,ziq,hv,hre,hany]
   ·simp only[zft,hvv,true_and]
    cases b with
    |true=>
     obtain⟨k,o,hk,ho,hn⟩:=hbo.1 rfl
     simp only[Bool.not_true,xan,false_iff]
     exact fun hc=>hn (hc k o ((hmem k).1 hk) ho)
    |false=>
     simp only[Bool.not_false,true_iff]
     intro k o hk ho
     exact Classical.byContradiction fun hc=>by
      have:=hbo.2 ⟨k,o,(hmem k).2 hk,ho,hc⟩
      cases this
end
end Go.EX

