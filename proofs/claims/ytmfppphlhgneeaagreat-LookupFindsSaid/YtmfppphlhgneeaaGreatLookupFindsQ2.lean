/- What the proof needs, gathered by wip/gen/shake.py. -/
import Derived.Calls
import Derived.Deep.Quiet
import Derived.Below
import Derived.Laws.AppendOwn
import Derived.WalkKit
import Derived.Laws.OwnMore
import Derived.Deep.Slices
import Derived.ChangeOld
import Derived.ArgAppend
import Derived.RangeFuncIn
import Derived.RangeFuncRecord
import Derived.RangeFuncLeaves
import Derived.Laws.MakeOwn
import Derived.IntWalk
import Derived.Laws.IdiomStrings
import Derived.Laws.Cover3
import Derived.Laws.CopyOwn
import Derived.MapKept
import Derived.RangeFuncNested
import Derived.Test.YtmfppphlhgneeaaGreatRows
import Derived.ProofKit
import Derived.OpenShut
import Derived.ShutString
import Derived.Test.YtmfppphlhgneeaaGreatLookupFindsQ1
set_option linter.unusedVariables false
set_option linter.unusedSimpArgs false
section
namespace Go.Proofs.YtmfppphlhgneeaaGreat
set_option linter.unusedVariables false
set_option synthInstance.maxSize 2000
set_option synthInstance.maxHeartbeats 400000
abbrev Aa:=List Int
abbrev Ac:=List Aa
abbrev Ad:=Aa×Int
abbrev Ag:=List ByteArray
abbrev Ak:=Option Ad
abbrev Al:=Option Int
abbrev Am:=Option (Ac×Ad)
abbrev Ap:=Option Bool
abbrev Ar:=Option Addr
abbrev Au:=List Value
abbrev Az:=Int×Int
abbrev Af:=List Az
abbrev Ba:=ByteArray×Int
abbrev Ab:=List Ba
abbrev Bc:=Option (Ac×Aa)
abbrev Bh:=ByteArray×Bool
abbrev Bj:=List Bool
abbrev Bm:=Option (Ac×Int)
abbrev Bs:=Option (Ab×Int)
abbrev Bu:=List Ab
abbrev Bv:=Option (Ad×Ad)
abbrev Bx:=Option Aa
abbrev Bz:=Int→Am
abbrev Cd:=Option (Aa×Bool)
abbrev Cf:=Int×Af
abbrev Ch:=Int×Int×Int×Ac
abbrev An:=Option (Ch×Int)
abbrev Cj:=Int→Ak
abbrev Bb:=Aa→Cj
abbrev Cn:=Int→Ap
abbrev Bn:=Int→Int→Int→Int→Int→Int→Int→Int→Int→Int→Cn
abbrev Co:=List Ac
abbrev Cr:=Aa→Ak
abbrev Cs:=List Ag
abbrev Bl:=Option Cs
abbrev Ct:=Ac→Int→Bj→Bz
abbrev Cu:=Aa→Bx
abbrev Cz:=Bool×Ac×Bj
abbrev Dd:=Aa→Int→Int→Bv
abbrev De:=Int×Az
abbrev Bo:=Int×De
abbrev Dg:=Ad×Int
abbrev Bq:=Option (Co×Dg)
abbrev Ce:=Option (Af×Dg)
abbrev Dh:=Cf×Int×Bu
abbrev Ae:=Option (Dh×Int)
abbrev Be:=Int→Int→Int→Ae
abbrev Bf:=Option (Dh×Ab×Ad)
abbrev Da:=ByteArray→Int→Be
abbrev Di:=Co→Int→Aa→Int→Int→Int→Int→Int→Int→Bq
abbrev Dj:=Int→Int→Int→Int→An
abbrev Bp:=Int→Int→Dj
abbrev Dl:=(Aa×Aa)×Int
abbrev Aw:=Option Dl
abbrev Cw:=Aa→Int→Aw
abbrev Dm:=List Hp
abbrev Dn:=Aa→Aa→Cd
abbrev Do:=Co→Int→Aa→Int→Bq
abbrev Dp:=Int→Bc
abbrev Dq:=Int→Bs
abbrev Dr:=List Bh
abbrev Ds:=Ab→Be
abbrev Dt:=Int→Int→Cu
abbrev Du:=Aa→Bb
abbrev Dv:=Aa→Int→Bf
abbrev Dw:=Aa→Int→Bv
abbrev Dy:=Aa→Nat→Cr
abbrev Ea:=Cs→Ag→Bl
abbrev Ec:=Int×Bool
abbrev Ay:=List Ec
abbrev Ci:=Option Ec
abbrev Ed:=Option Bh
abbrev Ee:=Int×Aa×Aa
abbrev As:=List Ee
abbrev Br:=Option (As×Int)
abbrev Cm:=Int×Int×Ee
abbrev Aj:=Option (Cm×Int)
abbrev Bg:=Aa→Int→Int→Int→Int→Aj
abbrev Cc:=Int→Int→Int→Aa→Bg
abbrev Ck:=Int→Int→Int→Int→Int→Bg
abbrev Df:=Int→Br
abbrev Dz:=Int→Aa→Aj
abbrev Ef:=Int→Al
abbrev Bw:=Int→Ef
abbrev Eg:=Nat→Bb
abbrev Ej:=Bool×Aa
abbrev Ah:=List Ej
abbrev Db:=List Ah
abbrev Ek:=Option Ba
abbrev Cl:=Aa→Ek
abbrev Em:=Int→Int→Dp
abbrev Ao:=Ac→Em
abbrev Cy:=Aa→Int→Ao
abbrev Eo:=Int×Bool×Int
abbrev Aq:=Option Eo
abbrev En:=Bu→Aq
abbrev Es:=Int→Int→Int→Int→Df
abbrev Et:=Int→Int→Int→Ac→Dj
abbrev Ev:=Aa→Int→Int→Int→Aw
abbrev Ew:=Int→Ci
abbrev Ey:=Ac×Dg
abbrev Ax:=Option Ey
abbrev Ai:=Int→Int→Int→Ax
abbrev Bt:=Ac→Int→Aa→Int→Int→Ai
abbrev Cb:=Ac→Int→Aa→Int→Ai
abbrev Eb:=Ac→Int→Aa→Ai
abbrev Eh:=Int→Cb
abbrev Ei:=Int→Bt
abbrev Ez:=Dr→Bw
abbrev Fa:=Ac→Al
abbrev Fb:=Ac→Bp
abbrev Fc:=Option Cz
abbrev At:=Bj→Fc
abbrev Ca:=Ac→Ac→Aa→Int→Int→At
abbrev Fe:=Int×Ag
abbrev Ff:=Option Az
abbrev Fg:=Ac→Ax
abbrev Fh:=Aa→Aw
abbrev Fi:=Option Af
abbrev Fj:=Ac→Bc
abbrev Fk:=Aa→Am
abbrev Fl:=As→Df
abbrev Fm:=Int→Int→Bu→Be
abbrev Fo:=Ab→Int→Int→Dv
abbrev Fq:=Aa→Int→Int→Dw
abbrev Ft:=Aa×Ad
abbrev Bi:=Option (Ah×Ft)
abbrev Cq:=Option Ft
abbrev By:=Aa→Aa→Int→Cq
abbrev Ex:=Int→By
abbrev Fu:=Nat→Bw
abbrev Fv:=Int→Ce
abbrev Eu:=Af→Int→Int→Fv
abbrev Fw:=Int→Bw
abbrev Fx:=Int→Bm
abbrev Av:=Int→Int→Int→Fx
abbrev Dx:=Int→Aa→Av
abbrev Ep:=Ac→Int→Av
abbrev Fy:=Int→Bi
abbrev Cv:=Ah→Aa→Aa→Int→Int→Int→Int→Int→Int→Int→Fy
abbrev Dc:=Aa→Int→Ah→Aa→Fy
abbrev Fz:=Int→Bz
abbrev Cp:=Int→Int→Fz
abbrev Er:=Ac→Int→Cp
abbrev Ha:=Option Nat
def X7f(x0:Int):Al:=
 some (w64 (x0*37))
def Xa4(rec44:Al)(x54:Az):Al:=
 if((((x54.1<0)∨(2147483647≤x54.1))∨(x54.2<0))∨(2147483647≤x54.2)) then(some 2) else
 rec44
def X1z:Af→Al
 | []=>some 0
 |x54::xs=>Xa4 (X1z xs) x54
def X33(x0:Cf):Al:=
 if((((x0.1<1)∨(64<x0.1))∨((x0.2.length:Int)<1))∨(4<(x0.2.length:Int))) then(some 2) else
 X1z x0.2
def X60(x0:Int):Ap:=
 some (decide ((1≤x0)∧(x0≤8)))
def X51(x0:ByteArray):Ap:=
 some (decide ((1≤(x0.size:Int))∧((x0.size:Int)≤32)))
def Xa5(x0:Ba):Ap:=
 (X51 x0.1).bind fun u2=>some (decide (((u2=true)∧(0≤x0.2))∧(x0.2<2147483647)))
def X9a(x0:Ba):Option ByteArray:=
 some x0.1
def X9b(x0:ByteArray):Ap:=
 some (decide (x0≠x0))
def Xa6(x0 x1:ByteArray):Al:=
 (X9b x0).bind fun u1=>(X9b x1).bind fun u5=>if(u1=true) then(if(u5=true) then(some 0) else
 some (-1)) else
 if(u5=true) then(some 1) else
 if(sLt x0 x1) then(some (-1)) else
 if(sLt x1 x0) then(some 1) else
 some 0
def X44(x0 x1:Ba):Al:=
 (X9a x0).bind fun u3=>(X9a x1).bind fun u7=>(Xa6 u3 u7).bind fun u11=>some u11
def X52:Option Unit:=
 some ()
def Xdw(x0 x1:Ba):Al:=
 (X52).bind fun u3=>(X44 x0 x1).bind fun u13=>some u13
def X7c(z88:Ab)(rec82:Ap)(x91:Ba)(i82:Nat):Ap:=
 (Xa5 x91).bind fun u97=>(if((!u97)=true) then(some true) else(if(0<(i82:Int)) then((lidx z88 (w64 ((i82:Int)-1))).bind fun u10=>(Xdw u10 x91).bind fun u11=>some (decide (0≤u11))) else some false).bind fun u12=>some u12).bind fun u13=>if(u13=true) then(none) else
 rec82
def X3h(z88:Ab):Ab→Nat→Ap
 | [],i82=>some true
 |x91::xs,i82=>X7c z88 (X3h z88 xs (i82+1)) x91 i82
def X4h(x0:Ab):Ap:=
 X3h x0 x0 0
def X45(z21:Int)(rec14:Al)(x24:Int)(i14:Nat):Al:=
 if(z21=x24) then(some (i14:Int)) else
 rec14
def X16(z21:Int):Aa→Nat→Al
 | [],i14=>some (-1)
 |x24::xs,i14=>X45 z21 (X16 z21 xs (i14+1)) x24 i14
def X5u(x0:Aa)(x1:Int):Al:=
 X16 x1 x0 0
def X2a(x0:Aa)(x1:Int):Ap:=
 (X5u x0 x1).bind fun u1=>some (decide (0≤u1))
def Xcj(x0:Int):Ap:=
 some (decide ((0≤x0)∧(x0<2147483647)))
def Xa7(z67 z70:Int)(rec55:Cu)(x72:Az)(v59:Aa):Bx:=
 (nz z70).bind fun _=>(lapp v59 ([(Int.tmod (Int.tmod (w64 ((w64 (x72.1*z67))+x72.2)) 2147483647) z70)]:List Int)).bind fun u87=>rec55 u87
def X34(z67 z70:Int):Af→Cu
 | [],v59=>some v59
 |x72::xs,v59=>Xa7 z67 z70 (X34 z67 z70 xs) x72 v59
def Xbh(x0:Cf)(x1:Int):Bx:=
 X34 x1 x0.1 x0.2 ([]:List Int)
def Xbi(x0:Cf)(x1:Int):Ak:=
 (X33 x0).bind fun u2=>if(u2≠0) then(some (([]:List Int),u2)) else
(Xcj x1).bind fun u10=>if((!u10)=true) then(some (([]:List Int),1)) else
(Xbh x0 x1).bind fun u18=>some (u18,0)
def X3u(z15:ByteArray)(z16:Int)(rec10:Bw)(v11 v12:Int):Al:=
 if(v12<z16) then((sidx z15 v12).bind fun u21=>rec10 (Int.tmod (w64 ((w64 ((w64 (v11*1000003))+(w64 u21)))+1)) 2147483647) (w64 (v12+1))) else
 some v11
def X1e(z15:ByteArray)(z16:Int):Fu
 |0,_,_=>none
 |n+1,v11,v12=>X3u z15 z16 (X1e z15 z16 n) v11 v12
def X8a(x0:ByteArray)(x1:Int):Al:=
 X1e x0 (x0.size:Int) big x1 0
def Xdk(x0:ByteArray):Al:=
 (X8a x0 1).bind fun u1=>some u1
def X8b(x0:Cf)(x1:ByteArray):Bx:=
 (Xdk x1).bind fun u2=>(Xbi x0 u2).bind fun u6=>some u6.1
def X6m(rec10:Ez)(z11 z12:Int)(z13:Af)(z14:Int)(rec15:Dr→Al)(x16:Ba)(v17:Dr):Al:=
 (if(((mget v17 x16.1).getD false)=true) then(some true) else(X8b (z12,z13) x16.1).bind fun u18=>(X2a u18 z11).bind fun u19=>some (!u19)).bind fun u20=>if(u20=true) then(none) else
 rec15 (mput v17 x16.1 true)
def X6n(rec10:Ez)(z11 z12:Int)(z13:Af)(z14:Int):Ab→Dr→Al
 | [],v15=>rec10 v15 z12 z14
 |x16::xs,v15=>X6m rec10 z11 z12 z13 z14 (X6n rec10 z11 z12 z13 z14 xs) x16 v15
def X6o(z10:Af)(rec11:Ez)(x12:Ab)(i11:Nat)(v13:Dr)(v14 v15:Int):Al:=
 (if(v15<(x12.length:Int)) then(some true) else(X4h x12).bind fun u16=>some (!u16)).bind fun u17=>if(u17=true) then(none) else
 X6n rec11 (i11:Int) v14 z10 v15 x12 v13
def X1n(z10:Af):Bu→Nat→Ez
 | [],i11,v12,v13,v14=>some 0
 |x15::xs,i11,v12,v13,v14=>X6o z10 (X1n z10 xs (i11+1)) x15 i11 v12 v13 v14
def Xa8(x0:Dh):Al:=
 (X33 x0.1).bind fun u2=>(if(u2≠0) then(some true) else(X60 x0.2.1).bind fun u10=>some (!u10)).bind fun u12=>if((u12=true)∨((x0.2.2.length:Int)≠x0.1.1)) then(none) else
 X1n x0.1.2 x0.2.2 0 ([]:List (ByteArray×Bool)) x0.1.1 x0.2.1
def X8c(v36:Int):Ci:=
 some (v36,true)
def Xdx(kx37:Ew)(z56:Int)(rec52:Ew)(v53:Int):Ci:=
 if((w64 (v53*v53))≤z56) then((nz v53).bind fun _=>if((Int.tmod z56 v53)=0) then(none) else
 rec52 (w64 (v53+1))) else
 kx37 z56
def Xc5(kx37:Ew)(z56:Int):Nat→Ew
 |0,_=>none
 |n+1,v53=>Xdx kx37 z56 (Xc5 kx37 z56 n) v53
def Xdl(x0:Int):Ci:=
 if((x0<2)∨(65521<x0)) then(none) else
 Xc5 X8c x0 big 2
def Xdy(x0:Int):Al:=
 (Xdl x0).bind fun u2=>if((!u2.2)=true) then(none) else
 some 0
def X1p(v10:Aa):Ek:=
 some ((ofB v10),0)
def Xau(rec10:Cl)(z11 z12 z13:Int)(rec14:Int→Cl)(v15:Int)(v16:Aa):Ek:=
 if(v15<4) then((nneg (w64 (8*v15))).bind fun _=>(pidx z11 z12 (w64 (33+v15))).bind fun u17=>(lidx v16 u17).bind fun u18=>(lupd v16 u17 (wu8 (shrI .i64 z13 (w64 (8*v15))))).bind fun u19=>rec14 (w64 (v15+1)) u19) else
 rec10 v16
def X8d(rec10:Cl)(z11 z12 z13:Int):Nat→Int→Cl
 |0,_,_=>none
 |n+1,v14,v15=>Xau rec10 z11 z12 z13 (X8d rec10 z11 z12 z13 n) v14 v15
def Xav(kx10 rec11:Cl)(x12:Ba)(i11:Nat)(v13:Aa):Ek:=
 (psub 0 (v13.length:Int) (w64 ((i11:Int)*37)) (w64 ((w64 ((i11:Int)+1))*37))).bind fun u14=>(pidx u14.1 u14.2 0).bind fun u15=>(lidx v13 u15).bind fun u16=>(lupd v13 u15 (wu8 (x12.1.size:Int))).bind fun u17=>(psub u14.1 u14.2 1 (u14.2-u14.1)).bind fun u18=>(lsub u17 u18.1 u18.2).bind fun u19=>(tobs x12.1).bind fun u20=>X8d rec11 u14.1 u14.2 x12.2 big 0 (lcpy u17 u18.1 u19.length u20)
def X22(kx10:Cl):Ab→Nat→Cl
 | [],i11,v12=>kx10 v12
 |x13::xs,i11,v12=>Xav kx10 (X22 kx10 xs (i11+1)) x13 i11 v12
def X2z(x0:Int)(x1:Ab):Ek:=
 (X60 x0).bind fun u1=>if((!u1)=true) then(none) else
 if(x0<(x1.length:Int)) then(none) else
(X4h x1).bind fun u11=>if((!u11)=true) then(none) else
(lmk (w64 (x0*37)) 0).bind fun u18=>X22 X1p x1 0 u18
def X5v(x0:Aa):Bx:=
 (lapp ([]:List Int) x0).bind fun u11=>some u11
def X2b(z25:Cn)(rec18:Al)(x28:Int)(i18:Nat):Al:=
 (z25 x28).bind fun u33=>if(u33=true) then(some (i18:Int)) else
 rec18
def Xl(z25:Cn):Aa→Nat→Al
 | [],i18=>some (-1)
 |x28::xs,i18=>X2b z25 (Xl z25 xs (i18+1)) x28 i18
def X23(x0:Aa)(x1:Cn):Al:=
 Xl x1 x0 0
def X12(x0:Aa)(x1:Cn):Ap:=
 (X23 x0 x1).bind fun u1=>some (decide (0≤u1))
def X8e(x0 x1:Int):Ap:=
 some (decide ((0≤x1)∧(x1<x0)))
def X5w(x0 x1:Int):Ap:=
 (X8e x1 x0).bind fun u1=>some (!u1)
def X61(x0:Int)(x1:Aa):Ap:=
 (X12 x1 (fun y0=>X5w y0 x0)).bind fun u7=>some (!u7)
def X8o(z58 z63:Int)(rec52:Al)(x65:Aa):Al:=
 if((x65.length:Int)≠z63) then(none) else
(X61 z58 x65).bind fun u76=>if((!u76)=true) then(none) else
 rec52
def X53(z58 z63:Int):Fa
 | []=>some 0
 |x65::xs=>X8o z58 z63 (X53 z58 z63 xs) x65
def Xdz(x0:Ch):Al:=
 (Xdl x0.2.1).bind fun u2=>if((x0.1<1)∨(2147483647≤x0.1)) then(none) else
 if((!u2.2)=true) then(none) else
 if((x0.2.2.1<1)∨(64<x0.2.2.1)) then(none) else
 if(1024<(x0.2.2.2.length:Int)) then(none) else
 X53 u2.1 x0.2.2.1 x0.2.2.2
def X9p(v10 v11 v12:Int)(v13:Ac)(v14 v15 v16 v17:Int):An:=
 some ((v10,v11,v12,v13),0)
def Xbj(kx10:Et)(z11 z12 z13:Int)(rec14:Ac→An)(x15:Aa)(v16:Ac):An:=
 (X5v x15).bind fun u17=>(lapp v16 ([u17]:List (List Int))).bind fun u18=>rec14 u18
def X69(kx10:Et)(z11 z12 z13:Int):Ac→Ac→An
 | [],v14=>kx10 z11 z12 z13 v14 0 0 0 z12
 |x15::xs,v14=>Xbj kx10 z11 z12 z13 (X69 kx10 z11 z12 z13 xs) x15 v14
def Xfy(x0 x1 x2:Int)(x3:Ac):An:=
 (Xdz (x0,x1,x2,x3)).bind fun u4=>if(u4≠0) then(none) else
 X69 X9p x0 x1 x2 x3 ([]:List (List Int))
def X1j(z10:Int)(v11:Ac)(v12 v13 v14 v15 v16 v17:Int):An:=
 (X7f v16).bind fun u18=>(Xfy z10 v17 u18 v11).bind fun u19=>some (u19.1,u19.2)
def X4i(rec10:Fb)(z11:Ac)(v12:Aa)(v13 v14 v15 v16 v17 v18:Int):An:=
 (lapp z11 ([v12]:List (List Int))).bind fun u19=>rec10 u19 v13 v14 v15 v16 v17 v18
def X7g(kx10:Aa→Bp)(z11 z12 z13 z14 z15 z16:Int)(rec17:Aa→An)(x18:Int)(v19:Aa):An:=
 (lapp v19 ([(w64 x18)]:List Int)).bind fun u20=>rec17 u20
def X35(kx10:Aa→Bp)(z11 z12 z13 z14 z15 z16:Int):Aa→Aa→An
 | [],v17=>kx10 v17 z11 z12 z13 z14 z15 z16
 |x18::xs,v17=>X7g kx10 z11 z12 z13 z14 z15 z16 (X35 kx10 z11 z12 z13 z14 z15 z16 xs) x18 v17
def X7h(kx10 rec11:Fb)(x12:Ab)(v13:Ac)(v14 v15 v16 v17 v18 v19:Int):An:=
 (X2z v18 x12).bind fun u20=>if(u20.2≠0) then(none) else
(tobs u20.1).bind fun u21=>X35 (X4i rec11 v13) v14 v15 v16 v17 v18 v19 u21 ([]:List Int)
def X18(kx10:Fb):Bu→Fb
 | [],v11,v12,v13,v14,v15,v16,v17=>kx10 v11 v12 v13 v14 v15 v16 v17
 |x18::xs,v11,v12,v13,v14,v15,v16,v17=>X7h kx10 (X18 kx10 xs) x18 v11 v12 v13 v14 v15 v16 v17
def X9q(x0 x1:Int)(x2:Dh):An:=
 (Xa8 x2).bind fun u4=>if(u4≠0) then(none) else
(Xdy x1).bind fun u11=>if((u11≠0)∨(x1≤256)) then(none) else
(X7f x2.2.1).bind fun u22=>if(64<u22) then(none) else
 X18 (X1j x0) x2.2.2 ([]:List (List Int)) 0 0 0 x2.1.1 x2.2.1 x1
def Xc6(x0:Cf)(x1:ByteArray):Ak:=
 (X33 x0).bind fun u2=>if(u2≠0) then(none) else
(X51 x1).bind fun u9=>if((!u9)=true) then(none) else
(X8b x0 x1).bind fun u16=>some (u16,0)
def Xaw(x0:Cf)(x1:ByteArray):Ak:=
 (Xc6 x0 x1).bind fun u2=>some (u2.1,u2.2)
def Xdc(rec44:Al)(x54:Az):Al:=
 if((((x54.1<0)∨(2147483647≤x54.1))∨(x54.2<0))∨(2147483647≤x54.2)) then(some 2) else
 rec44
def X54:Af→Al
 | []=>some 0
 |x54::xs=>Xdc (X54 xs) x54
def X9j(x0:Cf):Al:=
 if((((x0.1<1)∨(64<x0.1))∨((x0.2.length:Int)<1))∨(4<(x0.2.length:Int))) then(some 2) else
 X54 x0.2
def Xck(x0:ByteArray):Ap:=
 some (decide ((1≤(x0.size:Int))∧((x0.size:Int)≤32)))
def Xax(x0:Ba):Ap:=
 (Xck x0.1).bind fun u2=>some (decide (((u2=true)∧(0≤x0.2))∧(x0.2<2147483647)))
def Xb8(z83 z86:Int)(rec71:Cr)(x88:Az)(v75:Aa):Ak:=
 (nz z86).bind fun _=>(lapp v75 ([(Int.tmod (Int.tmod (w64 ((w64 (x88.1*z83))+x88.2)) 2147483647) z86)]:List Int)).bind fun u10=>rec71 u10
def X47(z83 z86:Int):Af→Cr
 | [],v75=>some (v75,0)
 |x88::xs,v75=>Xb8 z83 z86 (X47 z83 z86 xs) x88 v75
def Xcl(x0:Cf)(x1:Int):Ak:=
 (X9j x0).bind fun u2=>if(u2≠0) then(some (([]:List Int),u2)) else
 if((x1<0)∨(2147483647≤x1)) then(some (([]:List Int),1)) else
 X47 x1 x0.1 x0.2 ([]:List Int)
def Xbk(z15:ByteArray)(rec10:Bw)(v11 v12:Int):Al:=
 if(v12<(z15.size:Int)) then((sidx z15 v12).bind fun u20=>rec10 (Int.tmod (w64 ((w64 ((w64 (v11*1000003))+(w64 u20)))+1)) 2147483647) (w64 (v12+1))) else
 some v11
def X7i(z15:ByteArray):Fu
 |0,_,_=>none
 |n+1,v11,v12=>Xbk z15 (X7i z15 n) v11 v12
def Xdm(x0:ByteArray):Al:=
 X7i x0 big 1 0
def Xcm(x0:Cf)(x1:ByteArray):Ak:=
 (X9j x0).bind fun u2=>if(u2≠0) then(none) else
(Xck x1).bind fun u9=>if((!u9)=true) then(none) else
(Xdm x1).bind fun u16=>(Xcl x0 u16).bind fun u20=>some (u20.1,u20.2)
def Xb9(rec10:At)(rec11:Ca)(z12:Ac)(z13:Aa)(z14 z15 z16:Int)(z17:Ac)(rec18:At)(x20:Int)(i18:Nat)(v21:Bj):Fc:=
 (rec11 z12 z17 z13 z14 x20 v21).bind fun u22=>if(u22.1=true) then((lidx u22.2.1 z16).bind fun u23=>(lidx u23 (i18:Int)).bind fun u24=>(lupd u23 (i18:Int) z15).bind fun u25=>(lupd u22.2.1 z16 u25).bind fun u26=>some (true,u26,u22.2.2)) else
 rec18 u22.2.2
def X48(rec10:At)(rec11:Ca)(z12:Ac)(z13:Aa)(z14 z15 z16:Int)(z17:Ac):Aa→Nat→At
 | [],i18,v20=>rec10 v20
 |x21::xs,i18,v20=>Xb9 rec10 rec11 z12 z13 z14 z15 z16 z17 (X48 rec10 rec11 z12 z13 z14 z15 z16 z17 xs (i18+1)) x21 i18 v20
def Xba(rec10:Ca)(z11:Ac)(z12:Aa)(z13 z14:Int)(z15:Ac)(rec16:At)(x17:Int)(v18:Bj):Fc:=
 (lidx v18 x17).bind fun u20=>if(u20=true) then(rec16 v18) else
(lidx v18 x17).bind fun u21=>(lupd v18 x17 true).bind fun u22=>(lidx z12 x17).bind fun u23=>(lidx z15 x17).bind fun u24=>if((w64 ((u24.length:Int)+u23))<z13) then((lidx z15 x17).bind fun u25=>(lapp u25 ([z14]:List Int)).bind fun u26=>(lidx z15 x17).bind fun u27=>(lupd z15 x17 u26).bind fun u28=>some (true,u28,u22)) else
(lidx z15 x17).bind fun u29=>X48 rec16 rec10 z11 z12 z13 z14 x17 z15 u29 0 u22
def X29(rec10:Ca)(z11:Ac)(z12:Aa)(z13 z14:Int)(z15:Ac):Aa→At
 | [],v16=>some (false,z15,v16)
 |x17::xs,v16=>Xba rec10 z11 z12 z13 z14 z15 (X29 rec10 z11 z12 z13 z14 z15 xs) x17 v16
def Xdd(rec10:Ca)(x0 x1:Ac)(x2:Aa)(x3 x4:Int)(x5:Bj):Fc:=
 (lidx x0 x4).bind fun u4=>X29 rec10 x0 x2 x3 x4 x1 u4 x5
def Xm:Nat→Ca
 |0,_,_,_,_,_,_=>none
 |n+1,x0,x1,x2,x3,x4,x5=>Xdd (Xm n) x0 x1 x2 x3 x4 x5
def Xe0(x0:(List (List Int)))(x1:(List (List Int)))(x2:(List Int))(x3:Int)(x4:Int)(x5:(List Bool)):Option (Bool×(List (List Int))×(List Bool)):=Xm big x0 x1 x2 x3 x4 x5
def X8f(z57:Ac)(z58 z59:Int)(z60:Aa)(rec44:Ac→Ap)(x63:Aa)(i44:Nat)(v48:Ac):Ap:=
 (lmk z58 false).bind fun u65=>(Xe0 z57 v48 z60 z59 (i44:Int) u65).bind fun u75=>if(u75.1=true) then(rec44 u75.2.1) else
 some false
def X2w(z57:Ac)(z58 z59:Int)(z60:Aa):Ac→Nat→Ac→Ap
 | [],i44,v48=>some true
 |x63::xs,i44,v48=>X8f z57 z58 z59 z60 (X2w z57 z58 z59 z60 xs (i44+1)) x63 i44 v48
def X78(x0:Ac)(x1 x2:Int)(x3:Aa):Ap:=
 (lmk x1 ([]:List Int)).bind fun u1=>X2w x0 x1 x2 x3 x0 0 u1
def X8p(rec10:Dn)(z11:Int)(z12:Ac)(z13 z14:Int)(z15:Aa)(rec16:Aa→Cd)(x17:Int)(v18:Aa):Cd:=
 (lidx v18 x17).bind fun u20=>if(u20=z14) then(rec16 v18) else
(lidx v18 x17).bind fun u21=>(lidx v18 x17).bind fun u22=>(lupd v18 x17 (w64 (u21+1))).bind fun u23=>(lsub z12 (w64 (z11+1)) (z12.length:Int)).bind fun u24=>(X78 u24 z13 z14 u23).bind fun u25=>if(u25=true) then((lapp z15 ([x17]:List Int)).bind fun u26=>rec10 u26 u23) else
(lidx u23 x17).bind fun u27=>(lidx u23 x17).bind fun u28=>(lupd u23 x17 (w64 (u27-1))).bind fun u29=>rec16 u29
def X1c(rec10:Dn)(z11:Int)(z12:Ac)(z13 z14:Int)(z15:Aa):Dn
 | [],v16=>rec10 z15 v16
 |x17::xs,v16=>X8p rec10 z11 z12 z13 z14 z15 (X1c rec10 z11 z12 z13 z14 z15 xs) x17 v16
def Xbb(z10:Ac)(z11 z12:Int)(rec13:Dn)(x14:Aa)(i13:Nat)(v15 v16:Aa):Cd:=
 X1c rec13 (i13:Int) z10 z11 z12 v15 x14 v16
def X1o(z10:Ac)(z11 z12:Int):Ac→Nat→Dn
 | [],i13,v14,v15=>some (v14,true)
 |x16::xs,i13,v14,v15=>Xbb z10 z11 z12 (X1o z10 z11 z12 xs (i13+1)) x16 i13 v14 v15
def Xay(x0:Ac)(x1 x2:Int):Cd:=
 (lmk x1 0).bind fun u1=>(X78 x0 x1 x2 u1).bind fun u7=>if((!u7)=true) then(some (([]:List Int),false)) else
 X1o x0 x1 x2 x0 0 ([]:List Int) u1
def X55(z10:Af)(v11 v12:Int)(v13:Bu)(v14 v15 v16:Int):Ae:=
 some (((v11,z10),v12,v13),0)
def X8q(kx10:Fm)(z11:Ab)(z12 z13 z14 z15 z16:Int)(rec17:Bu→Ae)(x18:Int)(i17:Nat)(v19:Bu):Ae:=
 (lidx z11 (i17:Int)).bind fun u21=>(lidx v19 x18).bind fun u22=>(lapp u22 ([u21]:List (ByteArray×Int))).bind fun u23=>(lidx v19 x18).bind fun u24=>(lupd v19 x18 u23).bind fun u25=>rec17 u25
def X56(kx10:Fm)(z11:Ab)(z12 z13 z14 z15 z16:Int):Aa→Nat→Bu→Ae
 | [],i17,v18=>kx10 z12 z13 v18 z14 z15 z16
 |x19::xs,i17,v18=>X8q kx10 z11 z12 z13 z14 z15 z16 (X56 kx10 z11 z12 z13 z14 z15 z16 xs (i17+1)) x19 i17 v18
def Xbc(z10 z11 z12:Int)(z13:Aa)(z14:Ab)(v15:Int)(v16:Af)(v17:Int)(v18:Bu):Ae:=
 X56 (X55 v16) z14 v15 v17 z10 z11 z12 z13 0 v18
def X57(z10:Int)(z11:Af)(z12:Ab)(v13:Ac)(v14 v15 v16:Int):Ae:=
 (Xay v13 v16 z10).bind fun u17=>if((!u17.2)=true) then(some (((0,([]:List (Int×Int))),0,([]:List (List (ByteArray×Int)))),15)) else
(lapp ([]:List (Int×Int)) z11).bind fun u18=>(lmk v16 ([]:List (ByteArray×Int))).bind fun u21=>(Xbc v14 v15 v16 u17.1 z12) v16 u18 z10 u21
def X8r(kx10:Ac→Be)(z11 z12 z13:Int)(z14:Af)(rec15:Ac→Ae)(x16:Ba)(v17:Ac):Ae:=
 (Xcm (z13,z14) x16.1).bind fun u18=>(lapp v17 ([u18.1]:List (List Int))).bind fun u19=>rec15 u19
def X49(kx10:Ac→Be)(z11 z12 z13:Int)(z14:Af):Ab→Ac→Ae
 | [],v15=>kx10 v15 z11 z12 z13
 |x16::xs,v15=>X8r kx10 z11 z12 z13 z14 (X49 kx10 z11 z12 z13 z14 xs) x16 v15
def Xg(z10:Int)(z11:Af)(v12:Ab)(v13 v14 v15:Int):Ae:=
 X49 (X57 z10 z11 v12) v13 v14 v15 z11 v12 ([]:List (List Int))
def Xbd(rec10:Ds)(z11:Int)(z12:ByteArray)(z13 z14 z15 z16:Int)(v17:Ab):Ae:=
 (lidx v17 z11).bind fun u18=>(lupd v17 z11 (z12,z13)).bind fun u19=>rec10 u19 z14 z15 z16
def X58(rec10:Ds)(z11:Ab)(v12:Int)(v13:ByteArray)(v14 v15 v16 v17:Int):Ae:=
 (lapp z11 ([(ByteArray.empty,0)]:List (ByteArray×Int))).bind fun u18=>(psub 0 (u18.length:Int) (w64 (v12+1)) ((u18.length:Int)-0)).bind fun u19=>(psub 0 (u18.length:Int) v12 ((u18.length:Int)-0)).bind fun u21=>(lsub u18 u19.1 u19.2).bind fun u22=>(lsub u18 u21.1 u21.2).bind fun u23=>(Xbd rec10 v12 v13 v14 v15 v16 v17) (lcpy u18 u19.1 u22.length u23)
def Xbe(kx10:Int→Da)(z11:Int)(z12:ByteArray)(z13 z14 z15 z16:Int)(z17:Ab)(rec18:Ae):Ae:=
 (if(0<z11) then((lidx z17 (w64 (z11-1))).bind fun u19=>some (decide (sLt z12 u19.1))) else some false).bind fun u21=>if(u21=true) then(none) else
 kx10 z11 z12 z13 z14 z15 z16
def X8s(kx10:Int→Da)(z11:Int)(z12:ByteArray)(z13 z14 z15 z16:Int)(z17:Ab):Nat→Ae
 |0=>none
 |n+1=>Xbe kx10 z11 z12 z13 z14 z15 z16 z17 (X8s kx10 z11 z12 z13 z14 z15 z16 z17 n)
def X36(rec11:Ds)(z12:Ab)(v13:ByteArray)(v14 v15 v16 v17:Int):Ae:=
 X8s (X58 rec11 z12) (z12.length:Int) v13 v14 v15 v16 v17 z12 big
def X7j(kx10:Da)(z12:ByteArray)(z13 z14 z15 z16:Int)(rec17:Ae)(x18:Ba):Ae:=
 if(x18.1=z12) then(none) else
 rec17
def X4j(kx10:Da)(z12:ByteArray)(z13 z14 z15 z16:Int):Ab→Ae
 | []=>kx10 z12 z13 z14 z15 z16
 |x17::xs=>X7j kx10 z12 z13 z14 z15 z16 (X4j kx10 z12 z13 z14 z15 z16 xs) x17
def X7k(kx13:Ds)(z14:Ab)(rec15:Ds)(x16:Ba)(i15:Nat)(v17:Ab)(v18 v19 v21:Int):Ae:=
 (Xax x16).bind fun u22=>if((!u22)=true) then(none) else
(lsub z14 0 (i15:Int)).bind fun u23=>X4j (X36 rec15 v17) x16.1 x16.2 v18 v19 v21 u23
def Xf(kx10:Ds)(z11:Ab):Ab→Nat→Ds
 | [],i13,v14,v15,v16,v17=>kx10 v14 v15 v16 v17
 |x18::xs,i13,v14,v15,v16,v17=>X7k kx10 z11 (Xf kx10 z11 xs (i13+1)) x18 i13 v14 v15 v16 v17
def X7l(x0:Cf)(x1:Int)(x2:Ab):Ae:=
 (X9j x0).bind fun u3=>if(u3≠0) then(none) else
 if((x1<1)∨(8<x1)) then(none) else
 if(256<(x2.length:Int)) then(none) else
 Xf (Xg x1 x0.2) x2 x2 0 ([]:List (ByteArray×Int)) 0 0 x0.1
def Xfm(x0:Int):Ap:=
 some (decide ((2≤x0)∧(x0≤8)))
def Xbl(x0:ByteArray):Ap:=
 some (decide ((1≤(x0.size:Int))∧((x0.size:Int)≤32)))
def X7m(z71:Ag)(rec65:Ap)(x74:ByteArray)(i65:Nat):Ap:=
 (Xbl x74).bind fun u79=>(if((!u79)=true) then(some true) else(if(0<(i65:Int)) then((lidx z71 (w64 ((i65:Int)-1))).bind fun u10=>some (decide (¬sLt u10 x74))) else some false).bind fun u11=>some u11).bind fun u12=>if(u12=true) then(some false) else
 rec65
def X4k(z71:Ag):Ag→Nat→Ap
 | [],i65=>some true
 |x74::xs,i65=>X7m z71 (X4k z71 xs (i65+1)) x74 i65
def X9r(x0:Ag):Ap:=
 X4k x0 x0 0
def Xfn(x0:Fe):Al:=
 (Xfm x0.1).bind fun u2=>(if((((!u2)=true)∨((x0.2.length:Int)<1))∨(256<(x0.2.length:Int))) then(some true) else(X9r x0.2).bind fun u30=>some (!u30)).bind fun u20=>if(u20=true) then(some 2) else
 some 0
def X4s(x0:Ag):Option Ag:=
 (lapp ([]:List ByteArray) x0).bind fun u11=>some u11
def X2v(z33:Ag)(z34:Int)(rec25:Int→Bl)(v30:Int):Bl:=
 if(v30<(z33.length:Int)) then((lsub z33 v30 (z33.length:Int)).bind fun u39=>(lsub3 z33 v30 (w64 (v30+(min z34 (u39.length:Int)))) (w64 (v30+(min z34 (u39.length:Int))))).bind fun u45=>yc u45<|rec25 (w64 (v30+z34))) else
 some []
def X1h(z33:Ag)(z34:Int):Nat→Int→Bl
 |0,_=>none
 |n+1,v30=>X2v z33 z34 (X1h z33 z34 n) v30
def X3i(x1:Ag)(x2:Int):Bl:=
 X1h x1 x2 big 0
def X3j(z9:Int)(z10:Ag):Bl:=
 (X3i z10 z9).bind fun u21=>some u21
def X4t(x0:Ag)(x1:Int):Bl:=
 if(x1<1) then(none) else
(X3j x1 x0)
def X62(rec10:Ea)(z11:Cs)(v12:Ag):Bl:=
 (lapp z11 ([v12]:List (List ByteArray))).bind fun u13=>rec10 u13 v12
def Xcn(kx10 rec11:Ag→Bl)(x12 v13:Ag):Bl:=
 (lidx x12 0).bind fun u14=>(lapp v13 ([u14]:List ByteArray)).bind fun u15=>rec11 u15
def X7n(kx10:Ag→Bl):Ea
 | [],v11=>kx10 v11
 |x12::xs,v11=>Xcn kx10 (X7n kx10 xs) x12 v11
def Xco(z10:Int)(rec11:Ea)(v12:Cs)(v13:Ag):Bl:=
 if(z10<(v13.length:Int)) then((X4t v13 z10).bind fun u14=>X7n (X62 rec11 v12) u14 ([]:List ByteArray)) else
 some v12
def X37(z10:Int):Nat→Ea
 |0,_,_=>none
 |n+1,v11,v12=>Xco z10 (X37 z10 n) v11 v12
def Xes(x0:Fe):Bl:=
 (X4s x0.2).bind fun u2=>X37 x0.1 big ([u2]:List (List ByteArray)) x0.2
def Xet(x0:Fe):Option (Cs×Int):=
 (Xfn x0).bind fun u2=>if(u2≠0) then(some (([]:List (List ByteArray)),u2)) else
(Xes x0).bind fun u10=>some (u10,0)
def Xc2(z45:Cs)(z46:Int)(rec34:Dt)(v35 v36:Int)(v37:Aa):Bx:=
 if(0≤v36) then((lidx v37 v36).bind fun u51=>(lupd v37 v36 v35).bind fun u56=>(lidx z45 v36).bind fun u61=>(nz z46).bind fun _=>rec34 (w64 (v35+(w64 (Int.tdiv (w64 ((w64 ((u61.length:Int)+z46))-1)) z46)))) (w64 (v36-1)) u56) else
 some v37
def X9c(z45:Cs)(z46:Int):Nat→Dt
 |0,_,_,_=>none
 |n+1,v35,v36,v37=>Xc2 z45 z46 (X9c z45 z46 n) v35 v36 v37
def Xe1(x0:Cs)(x1:Int):Bx:=
 (lmk (x0.length:Int) 0).bind fun u1=>X9c x0 x1 big 0 (w64 ((x0.length:Int)-1)) u1
def X59(rec10:Dt)(v11 v12:Int)(v13:Aa):Bx:=
 if(v11<v12) then((lidx v13 v12).bind fun u14=>(lidx v13 v11).bind fun u15=>(lidx v13 v11).bind fun u16=>(lupd v13 v11 u14).bind fun u17=>(lidx u17 v12).bind fun u18=>(lupd u17 v12 u15).bind fun u19=>rec10 (w64 (v11+1)) (w64 (v12-1)) u19) else
 some v13
def X30:Nat→Dt
 |0,_,_,_=>none
 |n+1,v10,v11,v12=>X59 (X30 n) v10 v11 v12
def X7b(x0:Aa):Bx:=
 X30 big 0 (w64 ((x0.length:Int)-1)) x0
def Xfo(x0:Fe):Ak:=
 (Xet x0).bind fun u2=>if(u2.2≠0) then(some (([]:List Int),u2.2)) else
(Xe1 u2.1 x0.1).bind fun u24=>(X7b u24).bind fun u37=>some (u37,0)
def Xf2:Ap:=
 (X7l (4,([(1,0),(3,0)]:List (Int×Int))) 1 ([(⟨#[97,110,116]⟩,7)]:List (ByteArray×Int))).bind fun u18=>(X9q 2 257 u18.1).bind fun u33=>(Xaw (4,([(1,0),(3,0)]:List (Int×Int))) ⟨#[97,110,116]⟩).bind fun u45=>(Xfo (3,([⟨#[97]⟩,⟨#[98]⟩,⟨#[99]⟩,⟨#[100]⟩]:List ByteArray))).bind fun u62=>(X7f 1).bind fun u71=>(if((((((((u71=37)∧(u33.2=0))∧((u33.1.2.2.2.length:Int)=4))∧(u33.1.2.2.1=37))∧(u45.2=0))∧((u45.1.length:Int)=2))∧(u62.2=0))∧((u62.1.length:Int)=2)) then((lidx u62.1 1).bind fun u10=>some (decide (u10=1))) else some false).bind fun u11=>some u11
def Xcp(v11:Aa):Ak:=
 some (v11,0)
def Xfz(x0:Aa):Ak:=
 if(300<(x0.length:Int)) then((lsub x0 0 300).bind fun u21=>Xcp u21) else
 Xcp x0
def Xb(x0:Ad)(x1:Int):Option (Int×Ad):=
 if((x0.1.length:Int)≤x0.2) then(some (0,x0)) else
(lidx x0.1 (w64 ((w64 (x0.2+1))-1))).bind fun u4=>(nz x1).bind fun _=>some ((Int.tmod (w64 u4) x1),(x0.1,(w64 (x0.2+1))))
def X7d(z10:Aa)(z11:Int)(v12:Ab)(v13:Int)(v14:Af)(v15:Int)(v16:Bu):Bf:=
 some (((v13,v14),v15,v16),v12,(z10,z11))
def Xw(v10:Ab)(v11 v12:Int)(v13:Aa)(v14:Int):Bf:=
 (Xb (v13,v14) 4).bind fun u15=>(Xb u15.2 9).bind fun u16=>(Xb u16.2 9).bind fun u17=>(Xb u17.2 9).bind fun u18=>(Xb u18.2 9).bind fun u19=>(Xb u19.2 9).bind fun u21=>(X7l ((w64 (5+u15.1)),([((w64 (1+u16.1)),u17.1),((w64 (11+u18.1)),u19.1),(31,u21.1)]:List (Int×Int))) 1 v10).bind fun u22=>if(u22.2≠0) then((X7l ((w64 (5+u15.1)),([((w64 (1+u16.1)),u17.1),((w64 (11+u18.1)),u19.1),(31,u21.1)]:List (Int×Int))) 1 ([]:List (ByteArray×Int))).bind fun u23=>(X7d u21.2.1 u21.2.2) ([]:List (ByteArray×Int)) u23.1.1.1 u23.1.1.2 u23.1.2.1 u23.1.2.2) else
(X7d u21.2.1 u21.2.2) v10 u22.1.1.1 u22.1.1.2 u22.1.2.1 u22.1.2.2
def X4y(kx10:Fo)(rec11:Ab→Dv)(x12:ByteArray)(i11:Nat)(v13:Ab)(v14:Aa)(v15:Int):Bf:=
 (Xb (v14,v15) 2).bind fun u16=>if((u16.1=0)∧((v13.length:Int)<3)) then((Xb u16.2 90).bind fun u17=>(lapp v13 ([(x12,(w64 ((w64 ((i11:Int)*100))+u17.1)))]:List (ByteArray×Int))).bind fun u18=>rec11 u18 u17.2.1 u17.2.2) else
 rec11 v13 u16.2.1 u16.2.2
def X2c(kx10:Fo):Ag→Nat→Ab→Dv
 | [],i11,v12,v13,v14=>kx10 v12 0 0 v13 v14
 |x15::xs,i11,v12,v13,v14=>X4y kx10 (X2c kx10 xs (i11+1)) x15 i11 v12 v13 v14
def Xa9(x0:Ad):Bf:=
 X2c Xw ([⟨#[97,110,116]⟩,⟨#[98,101,101]⟩,⟨#[99,97,116]⟩,⟨#[100,111,103]⟩,⟨#[101,101,108]⟩,⟨#[102,111,120]⟩]:List ByteArray) 0 ([]:List (ByteArray×Int)) x0.1 x0.2
def X6p(x0:Ad):Option (Bo×Ad):=
 (Xb x0 4).bind fun u2=>(Xb u2.2 3).bind fun u9=>if(u9.1=0) then(some ((1,(w64 (3+u2.1)),0,0),u9.2)) else
 if(u9.1=1) then((Xb u9.2 2).bind fun u21=>some ((2,(w64 (3+u2.1)),(w64 (1+u21.1)),0),u21.2)) else
(if((w64 (3+u2.1))<4) then(some (true,u9.2.1,u9.2.2)) else(Xb u9.2 2).bind fun u59=>some ((decide (u59.1=0)),u59.2.1,u59.2.2)).bind fun u39=>if(u39.1=true) then((Xb u39.2 2).bind fun u49=>some ((3,(w64 (3+u2.1)),(w64 (1+u49.1)),1),u49.2)) else
 some ((3,(w64 (3+u2.1)),1,2),u39.2)
def X5a(x0:Bo):Ap:=
 if((x0.2.1<2)∨(10<x0.2.1)) then(none) else
 if(x0.1=1) then(some (decide ((x0.2.2.1=0)∧(x0.2.2.2=0)))) else
 if(x0.1=2) then(some (decide (((1≤x0.2.2.1)∧(x0.2.2.1≤(w64 (x0.2.1-1))))∧(x0.2.2.2=0)))) else
 if(x0.1=3) then(some (decide (((((1≤x0.2.2.1)∧(1≤x0.2.2.2))∧(x0.2.2.1≤10))∧(x0.2.2.2≤10))∧((w64 ((w64 ((w64 (2*x0.2.2.2))+x0.2.2.1))-1))≤x0.2.1)))) else
 none
def Xde(z25:Int)(rec21:Ef)(v22:Int):Al:=
 if((w64 (v22*v22))≤z25) then((nz v22).bind fun _=>if((Int.tmod z25 v22)=0) then(none) else
 rec21 (w64 (v22+1))) else
 some 0
def Xbf(z25:Int):Nat→Ef
 |0,_=>none
 |n+1,v22=>Xde z25 (Xbf z25 n) v22
def X2d(x0:Int):Al:=
 if((x0<2)∨(65521<x0)) then(none) else
 Xbf x0 big 2
def X4l(x0:Bo)(x1:Int):Ap:=
 (X5a x0).bind fun u3=>(if(u3=true) then((X2d x1).bind fun u31=>some (decide (u31=0))) else some false).bind fun u13=>some (decide ((u13=true)∧((x0.1=1)∨(x0.2.1<x1))))
def Xcq(z73 z74:Int)(rec63:Bb)(v64:Aa)(v70:Int):Ak:=
 if(v70<z73) then((lapp v64 ([z74]:List Int)).bind fun u86=>rec63 u86 (w64 (v70+1))) else
 some (v64,0)
def X7o(z73 z74:Int):Eg
 |0,_,_=>none
 |n+1,v64,v70=>Xcq z73 z74 (X7o z73 z74 n) v64 v70
def X9s(x0 x1 x2:Int):Ak:=
 (X2d x0).bind fun u2=>if(u2≠0) then(none) else
 if((((x2<2)∨(10<x2))∨(x1<1))∨(1024<x1)) then(none) else
 X7o (w64 (x1*(w64 (x2-1)))) x0 big ([]:List Int) 0
def Xaz(x0:Int)(x1:Az):Al:=
 (X2d x0).bind fun u3=>if(u3≠0) then(none) else
 if(((((x1.1<2)∨(10<x1.1))∨(x0≤x1.1))∨(x1.2<1))∨((w64 (x1.1-1))<x1.2)) then(none) else
 some 0
def Xcr(z70 z73:Int)(rec60:Bb)(v61:Aa)(v67:Int):Ak:=
 if(v67<z70) then((lapp v61 ([z73]:List Int)).bind fun u85=>rec60 u85 (w64 (v67+1))) else
 some (v61,0)
def X7p(z70 z73:Int):Eg
 |0,_,_=>none
 |n+1,v61,v67=>Xcr z70 z73 (X7p z70 z73 n) v61 v67
def X9t(x0:Int)(x1:Az)(x2:Int):Ak:=
 (Xaz x0 x1).bind fun u3=>if(u3≠0) then(none) else
 if((x2<1)∨(1024<x2)) then(none) else
 X7p (w64 (x2*x1.2)) x0 big ([]:List Int) 0
def X9u(x0:Bo):Ff:=
 some (x0.2.1,x0.2.2.1)
def X9k(x0:Int)(x1:De):Al:=
 (X2d x0).bind fun u3=>if(u3≠0) then(none) else
 if((((((((x1.1<2)∨(10<x1.1))∨(x0≤x1.1))∨(x1.2.1<1))∨(x1.1<x1.2.1))∨(x1.2.2<1))∨(x1.1<x1.2.2))∨(x1.1<(w64 ((w64 ((w64 (2*x1.2.2))+x1.2.1))-1)))) then(none) else
 some 0
def Xcs(z72 z76:Int)(rec62:Bb)(v63:Aa)(v69:Int):Ak:=
 if(v69<z72) then((lapp v63 ([z76]:List Int)).bind fun u88=>rec62 u88 (w64 (v69+1))) else
 some (v63,0)
def X7q(z72 z76:Int):Eg
 |0,_,_=>none
 |n+1,v63,v69=>Xcs z72 z76 (X7q z72 z76 n) v63 v69
def X9v(x0:Int)(x1:De)(x2:Int):Ak:=
 (X9k x0 x1).bind fun u3=>if(u3≠0) then(none) else
 if((x2<1)∨(1024<x2)) then(none) else
 X7q (w64 (x2*x1.2.1)) x0 big ([]:List Int) 0
def X31(x0:Bo):Option De:=
 some x0.2
def Xb0(x0:Bo)(x1:Int):Al:=
 (X5a x0).bind fun u2=>if((((!u2)=true)∨(x1<1))∨(1024<x1)) then(none) else
 if(x0.1=3) then((nz x0.2.2.2).bind fun _=>some (w64 (Int.tdiv (w64 ((w64 (x1+x0.2.2.2))-1)) x0.2.2.2))) else
 none
def Xbm(x0:Bo)(x1 x2:Int):Ak:=
 (X4l x0 x1).bind fun u3=>if((!u3)=true) then(none) else
 if((x2<1)∨(1024<x2)) then(none) else
 if(x0.1=1) then((X9s x1 x2 x0.2.1).bind fun u19=>some (u19.1,u19.2)) else
 if(x0.1=2) then((X9u x0).bind fun u31=>(X9t x1 u31 x2).bind fun u35=>some (u35.1,u35.2)) else
(X31 x0).bind fun u45=>(Xb0 x0 x2).bind fun u49=>(X9v x1 u45 u49).bind fun u53=>some (u53.1,u53.2)
def X7r(z10 z11 z12 z13 z14 z15 z16:Int)(rec90:Bb)(v91:Aa)(v97:Int):Ak:=
 if(v97<z11) then((Xbm (z13,z14,z15,z16) z12 z10).bind fun u17=>if(u17.2≠0) then(none) else
(lapp v91 u17.1).bind fun u18=>rec90 u18 (w64 (v97+1))) else
 some (v91,0)
def X4m(z10 z11 z12 z13 z14 z15 z16:Int):Eg
 |0,_,_=>none
 |n+1,v91,v97=>X7r z10 z11 z12 z13 z14 z15 z16 (X4m z10 z11 z12 z13 z14 z15 z16 n) v91 v97
def Xbn(x0:Bo)(x1 x2 x3:Int):Ak:=
 (X4l x0 x1).bind fun u3=>if((!u3)=true) then(none) else
 if((((x3<1)∨(16<x3))∨(x2<1))∨(1024<x2)) then(none) else
 X4m x2 x3 x1 x0.1 x0.2.1 x0.2.2.1 x0.2.2.2 big ([]:List Int) 0
def X8t(z53:Aa)(z54:Int)(rec49:Cn)(v50:Int):Ap:=
 if(v50<(z53.length:Int)) then((lidx z53 v50).bind fun u59=>(if(u59<(-1)) then(some true) else(lidx z53 v50).bind fun u81=>some (decide (z54≤u81))).bind fun u71=>if(u71=true) then(none) else
 rec49 (w64 (v50+1))) else
 some true
def X5b(z53:Aa)(z54:Int):Nat→Cn
 |0,_=>none
 |n+1,v50=>X8t z53 z54 (X5b z53 z54 n) v50
def Xct(x0:Aa)(x1:Int):Ap:=
 if(((((x0.length:Int)<1)∨(16<(x0.length:Int)))∨(x1<1))∨(1024<x1)) then(none) else
 X5b x0 x1 big 0
def Xe2(x0:Ad):Ap:=
 some (decide ((((x0.1.length:Int)≤16384)∧(0≤x0.2))∧(x0.2≤(x0.1.length:Int))))
def Xf3(x0:Ad):Ak:=
 (lapp ([]:List Int) x0.1).bind fun u8=>some (u8,x0.2)
def X5c(z10 v11:Aa)(v12 v13:Int):Bv:=
 some ((z10,v13),v11,0)
def X8u(kx10:Dd)(z11 z12:Int)(z13:Aa)(rec14:Dd)(v15:Aa)(v16 v17:Int):Bv:=
 if(v16<z12) then(if(v17=(z13.length:Int)) then(none) else
(lidx z13 v17).bind fun u18=>if((u18<0)∨(z11≤u18)) then(none) else
(lapp v15 ([u18]:List Int)).bind fun u19=>rec14 u19 (w64 (v16+1)) (w64 (v17+1))) else
 kx10 v15 0 v17
def X5d(kx10:Dd)(z11 z12:Int)(z13:Aa):Nat→Dd
 |0,_,_,_=>none
 |n+1,v14,v15,v16=>X8u kx10 z11 z12 z13 (X5d kx10 z11 z12 z13 n) v14 v15 v16
def X9l(x0:Ad)(x1 x2:Int):Bv:=
 (Xe2 x0).bind fun u3=>if((!u3)=true) then(none) else
 if(((x1<1)∨(2147483647<x1))∨(x2<0)) then(none) else
(Xf3 x0).bind fun u21=>X5d (X5c u21.1) x1 x2 u21.1 big ([]:List Int) 0 u21.2
def X10(z10 v11:Aa)(v12:Ac)(v13 v14 v15:Int):Ax:=
 (lapp v12 ([v11]:List (List Int))).bind fun u17=>some (u17,(z10,v14),0)
def X2o(rec10:Eb)(z11:Int)(z12:Aa)(z13:Ac)(v14:Aa)(v15 v17 v18:Int):Ax:=
 (lapp z13 ([z12]:List (List Int))).bind fun u19=>rec10 u19 (w64 (z11+1)) v14 v15 v17 v18
def X6q(kx10:Aa→Ai)(z11 z12 z13:Int)(rec14:Aa→Ax)(x15:Int)(i14:Nat)(v17:Aa):Ax:=
 (lidx v17 (i14:Int)).bind fun u18=>(nz z13).bind fun _=>(lidx v17 (i14:Int)).bind fun u19=>(lupd v17 (i14:Int) (Int.tmod (w64 ((w64 (u18+z13))-x15)) z13)).bind fun u20=>rec14 u20
def X2p(kx10:Aa→Ai)(z11 z12 z13:Int):Aa→Nat→Aa→Ax
 | [],i14,v15=>kx10 v15 z11 z12 z13
 |x17::xs,i14,v15=>X6q kx10 z11 z12 z13 (X2p kx10 z11 z12 z13 xs (i14+1)) x17 i14 v15
def X6r(kx10:Aa→Ac→Ai)(z11 z12:Int)(z13:Aa)(rec14:Eb)(v15:Ac)(v17:Int)(v18:Aa)(v19 v20 v21:Int):Ax:=
 if(v17<(w64 (z12-1))) then((lsub z13 (w64 (v17*z11)) (w64 ((w64 (v17+1))*z11))).bind fun u22=>(lapp ([]:List Int) u22).bind fun u23=>X2p (X2o rec14 v17 u23 v15) v19 v20 v21 u23 0 v18) else
 kx10 v18 v15 v19 v20 v21
def X11(kx10:Aa→Ac→Ai)(z11 z12:Int)(z13:Aa):Nat→Eb
 |0,_,_,_,_,_,_=>none
 |n+1,v14,v15,v17,v18,v19,v20=>X6r kx10 z11 z12 z13 (X11 kx10 z11 z12 z13 n) v14 v15 v17 v18 v19 v20
def Xaa(x0 x1 x2 x3:Int)(x4:Ad):Ax:=
 (X9s x0 x1 x2).bind fun u4=>if(u4.2≠0) then(none) else
 if((x3<0)∨(x1≤x3)) then(none) else
(X9l x4 x0 (w64 (x1*(w64 (x2-1))))).bind fun u23=>if(u23.2.2≠0) then(none) else
(lmk x1 0).bind fun u42=>(lidx u42 x3).bind fun u48=>(lupd u42 x3 1).bind fun u53=>X11 (X10 u23.1.1) x1 x2 u23.2.1 big ([]:List (List Int)) 0 u53 0 u23.1.2 x0
def Xcu(z35:Int)(rec27:Ap)(x37:Int):Ap:=
 if((x37<0)∨(z35≤x37)) then(some false) else
 rec27
def X7s(z35:Int):Aa→Ap
 | []=>some true
 |x37::xs=>Xcu z35 (X7s z35 xs) x37
def X4r(x0:Int)(x1:Aa):Ap:=
 (X2d x0).bind fun u2=>if(u2≠0) then(some false) else
 X7s x0 x1
def X8v(rec76:Al)(x86:Aa):Al:=
 if(512<(x86.length:Int)) then(none) else
 rec76
def X5e:Fa
 | []=>some 0
 |x86::xs=>X8v (X5e xs) x86
def X5f(z58:Ac)(v55:Int):Al:=
 X5e z58
def X8w(kx56:Ef)(z10:Int)(rec11:Al)(x12:Aa):Al:=
 (X4r z10 x12).bind fun u13=>if((!u13)=true) then(none) else
 rec11
def X5g(kx56:Ef)(z10:Int):Fa
 | []=>kx56 z10
 |x11::xs=>X8w kx56 z10 (X5g kx56 z10 xs) x11
def X9m(x0:Int)(x1:Ac):Al:=
 (X2d x0).bind fun u2=>if(u2≠0) then(none) else
 X5g (X5f x1) x0 x1
def X8x(z22:Aa)(z23 z24:Int)(rec17:Bw)(v18 v19:Int):Al:=
 if(0≤v19) then((lidx z22 v19).bind fun u29=>(nz z24).bind fun _=>rec17 (Int.tmod (w64 ((w64 (v18*z23))+u29)) z24) (w64 (v19-1))) else
 some v18
def X5h(z22:Aa)(z23 z24:Int):Fu
 |0,_,_=>none
 |n+1,v18,v19=>X8x z22 z23 z24 (X5h z22 z23 z24 n) v18 v19
def X9n(x0:Int)(x1:Aa)(x2:Int):Al:=
 X5h x1 x2 x0 big 0 (w64 ((x1.length:Int)-1))
def X7t(x0:Int)(x1:Aa)(x2:Int):Ff:=
 (X4r x0 ([x2]:List Int)).bind fun u10=>if((!u10)=true) then(none) else
(X9m x0 ([x1]:List (List Int))).bind fun u25=>if(u25≠0) then(none) else
(X9n x0 x1 x2).bind fun u32=>some (u32,0)
def X5i(z10:Aa)(v11:Af)(v12 v13 v14:Int):Ce:=
 some (v11,(z10,v13),0)
def X8y(kx10:Eu)(z11:Int)(z12:Aa)(z13 z14:Int)(rec15:Af→Fv)(v16:Af)(v17:Int):Ce:=
 if(v17≤z11) then((X7t z14 z12 v17).bind fun u18=>(lapp v16 ([(v17,u18.1)]:List (Int×Int))).bind fun u19=>rec15 u19 (w64 (v17+1))) else
 kx10 v16 0 z13 z14
def X5j(kx10:Eu)(z11:Int)(z12:Aa)(z13 z14:Int):Nat→Af→Fv
 |0,_,_=>none
 |n+1,v15,v16=>X8y kx10 z11 z12 z13 z14 (X5j kx10 z11 z12 z13 z14 n) v15 v16
def Xcv(x0 x1 x2 x3:Int)(x4:Ad):Ce:=
 (X4r x0 ([x1]:List Int)).bind fun u12=>if((!u12)=true) then(none) else
 if(((((x2<0)∨(9<x2))∨(x3<1))∨((w64 (x0-1))<x3))∨(512<x3)) then(none) else
(X9l x4 x0 x2).bind fun u38=>if(u38.2.2≠0) then(none) else
(lapp ([x1]:List Int) u38.2.1).bind fun u64=>X5j (X5i u38.1.1) x3 u64 u38.1.2 x0 big ([]:List (Int×Int)) 1
def Xs(v10:Ac)(v11:Int)(v12:Aa)(v13 v14 v15 v16:Int):Ax:=
 some (v10,(v12,v13),0)
def X6s(rec10:Eh)(z11:Int)(z12:Aa)(z13 z14 z15 z16 z18:Int)(rec19:Fg)(x20:Az)(i19:Nat)(v21:Ac):Ax:=
 (lidx v21 (i19:Int)).bind fun u22=>(lapp u22 ([x20.2]:List Int)).bind fun u23=>(lidx v21 (i19:Int)).bind fun u24=>(lupd v21 (i19:Int) u23).bind fun u25=>rec19 u25
def X3k(rec10:Eh)(z11:Int)(z12:Aa)(z13 z14 z15 z16 z18:Int):Af→Nat→Fg
 | [],i19,v20=>rec10 (w64 (z11+1)) v20 z14 z12 z13 z15 z16 z18
 |x21::xs,i19,v20=>X6s rec10 z11 z12 z13 z14 z15 z16 z18 (X3k rec10 z11 z12 z13 z14 z15 z16 z18 xs (i19+1)) x21 i19 v20
def X4u(rec10:Eh)(z11 z12:Int)(z13:Aa)(z14 z15 z16 z18:Int)(z19:Ac)(v20:Int):Ax:=
 (Xcv z18 v20 z16 z15 (z13,z14)).bind fun u21=>if(u21.2.2≠0) then(none) else
 X3k rec10 z11 u21.2.1.1 u21.2.1.2 z12 z15 z16 z18 u21.1 0 z19
def X6t(kx10:Cb)(z11 z12:Int)(rec13:Eh)(v14:Int)(v15:Ac)(v16:Int)(v18:Aa)(v19 v20 v21 v22:Int):Ax:=
 if(v14<z11) then(if(v14=z12) then((X4u rec13 v14 v16 v18 v19 v20 v21 v22 v15) 1) else
(X4u rec13 v14 v16 v18 v19 v20 v21 v22 v15) 0) else
 kx10 v15 v16 v18 v19 v20 v21 v22
def Xt(kx10:Cb)(z11 z12:Int):Nat→Eh
 |0,_,_,_,_,_,_,_,_=>none
 |n+1,v13,v14,v15,v16,v18,v19,v20,v21=>X6t kx10 z11 z12 (Xt kx10 z11 z12 n) v13 v14 v15 v16 v18 v19 v20 v21
def Xab(x0:Int)(x1:Az)(x2 x3:Int)(x4:Ad):Ax:=
 (X9t x0 x1 x2).bind fun u5=>if(u5.2≠0) then(none) else
 if((x3<0)∨(x2≤x3)) then(none) else
(lmk x1.1 ([]:List Int)).bind fun u24=>Xt Xs x2 x3 big 0 u24 0 x4.1 x4.2 x1.1 x1.2 x0
def Xu(v10:Ac)(v11:Int)(v12:Aa)(v13 v14 v15 v16 v17:Int):Ax:=
 some (v10,(v12,v13),0)
def X6u(rec10:Ei)(z11:Aa)(z12:Int)(z13:Aa)(z14 z15 z16 z17 z19 z20:Int)(rec21:Int→Fg)(v22:Int)(v23:Ac):Ax:=
 if(v22≤z16) then((X7t z20 z11 v22).bind fun u24=>(lidx v23 (w64 (v22-1))).bind fun u25=>(lapp u25 ([u24.1]:List Int)).bind fun u26=>(lidx v23 (w64 (v22-1))).bind fun u27=>(lupd v23 (w64 (v22-1)) u26).bind fun u28=>rec21 (w64 (v22+1)) u28) else
 rec10 (w64 (z12+1)) v23 z15 z13 z14 z16 z17 z19 z20
def X3l(rec10:Ei)(z11:Aa)(z12:Int)(z13:Aa)(z14 z15 z16 z17 z19 z20:Int):Nat→Int→Fg
 |0,_,_=>none
 |n+1,v21,v22=>X6u rec10 z11 z12 z13 z14 z15 z16 z17 z19 z20 (X3l rec10 z11 z12 z13 z14 z15 z16 z17 z19 z20 n) v21 v22
def X4v(rec10:Ei)(z11:Int)(z12:Aa)(z13 z14 z15 z16 z17 z19:Int)(z20:Ac)(v21:Aa):Ax:=
 X3l rec10 v21 z11 z12 z13 z14 z15 z16 z17 z19 big 1 z20
def X6v(kx10:Bt)(z11 z12:Int)(rec13:Ei)(v14:Int)(v15:Ac)(v16:Int)(v17:Aa)(v19 v20 v21 v22 v23:Int):Ax:=
 if(v14<z11) then((X9l (v17,v19) v23 v21).bind fun u24=>if(u24.2.2≠0) then(none) else
(lmk v22 0).bind fun u25=>(lapp u25 u24.2.1).bind fun u26=>if(v14=z12) then((lidx u26 0).bind fun u27=>(lupd u26 0 1).bind fun u28=>(X4v rec13 v14 u24.1.1 u24.1.2 v16 v20 v21 v22 v23 v15) u28) else
(X4v rec13 v14 u24.1.1 u24.1.2 v16 v20 v21 v22 v23 v15) u26) else
 kx10 v15 v16 v17 v19 v20 v21 v22 v23
def Xv(kx10:Bt)(z11 z12:Int):Nat→Ei
 |0,_,_,_,_,_,_,_,_,_=>none
 |n+1,v13,v14,v15,v16,v17,v19,v20,v21,v22=>X6v kx10 z11 z12 (Xv kx10 z11 z12 n) v13 v14 v15 v16 v17 v19 v20 v21 v22
def Xac(x0:Int)(x1:De)(x2 x3:Int)(x4:Ad):Ax:=
 (X9v x0 x1 x2).bind fun u5=>if(u5.2≠0) then(none) else
 if((x3<0)∨(x2≤x3)) then(none) else
(lmk x1.1 ([]:List Int)).bind fun u24=>Xv Xu x2 x3 big 0 u24 0 x4.1 x4.2 x1.1 x1.2.1 x1.2.2 x0
def Xad(x0:Bo)(x1 x2 x3:Int)(x4:Ad):Ax:=
 (X4l x0 x1).bind fun u5=>if((!u5)=true) then(none) else
 if((x2<1)∨(1024<x2)) then(none) else
 if((x3<0)∨(x2≤x3)) then(none) else
 if(x0.1=1) then((Xaa x1 x2 x0.2.1 x3 x4).bind fun u28=>some (u28.1,u28.2.1,u28.2.2)) else
 if(x0.1=2) then((X9u x0).bind fun u52=>(Xab x1 u52 x2 x3 x4).bind fun u56=>some (u56.1,u56.2.1,u56.2.2)) else
(nz x0.2.2.2).bind fun _=>(X31 x0).bind fun u73=>(Xb0 x0 x2).bind fun u77=>(Xac x1 u73 u77 (w64 (Int.tdiv x3 x0.2.2.2)) x4).bind fun u81=>some (u81.1,u81.2.1,u81.2.2)
def X2q(v10:Co)(v11:Int)(v12:Aa)(v13 v14 v15 v16 v17 v18:Int):Bq:=
 some (v10,(v12,v13),0)
def X9d(rec10:Do)(z11:Int)(z12:Co)(v13:Aa)(v14:Int)(v15:Ac)(v16:Int):Bq:=
 if(v16≠0) then(none) else
(lapp z12 ([v15]:List (List (List Int)))).bind fun u17=>rec10 u17 (w64 (z11+1)) v13 v14
def X6w(kx10:Di)(z11:Int)(z12:Aa)(z13 z14 z15 z16 z17:Int)(rec18:Do)(v19:Co)(v20:Int)(v21:Aa)(v22:Int):Bq:=
 if(v20<(z12.length:Int)) then((lidx z12 v20).bind fun u25=>(Xad (z14,z15,z16,z17) z13 z11 (max u25 0) (v21,v22)).bind fun u26=>(X9d rec18 v20 v19) u26.2.1.1 u26.2.1.2 u26.1 u26.2.2) else
 kx10 v19 0 v21 v22 z13 z14 z15 z16 z17
def X2r(kx10:Di)(z11:Int)(z12:Aa)(z13 z14 z15 z16 z17:Int):Nat→Do
 |0,_,_,_,_=>none
 |n+1,v18,v19,v20,v21=>X6w kx10 z11 z12 z13 z14 z15 z16 z17 (X2r kx10 z11 z12 z13 z14 z15 z16 z17 n) v18 v19 v20 v21
def Xae(x0:Bo)(x1 x2:Int)(x3:Aa)(x4:Ad):Bq:=
 (X4l x0 x1).bind fun u5=>if((!u5)=true) then(none) else
(Xct x3 x2).bind fun u12=>if((!u12)=true) then(none) else
 X2r X2q x2 x3 x1 x0.1 x0.2.1 x0.2.2.1 x0.2.2.2 big ([]:List (List (List Int))) 0 x4.1 x4.2
def X2x(v10:Aa)(v11 v12:Int)(v13:Aa)(v14:Int):Bv:=
 some ((v10,v11),(v13,v14))
def X63(kx10:Fq)(z11:Aa)(rec12:Int→Aa→Dw)(v13:Int)(v14 v15:Aa)(v16:Int):Bv:=
 if(v13<(z11.length:Int)) then((lidx z11 v13).bind fun u17=>(Xb (v15,v16) 256).bind fun u18=>(Xb u18.2 5).bind fun u19=>(nz u17).bind fun _=>(lapp v14 ([(Int.tmod (w64 (u18.1+(w64 ((w64 (7*v13))*u19.1)))) u17)]:List Int)).bind fun u20=>rec12 (w64 (v13+1)) u20 u19.2.1 u19.2.2) else
 kx10 v14 0 0 v15 v16
def X2y(kx10:Fq)(z11:Aa):Nat→Int→Aa→Dw
 |0,_,_,_,_=>none
 |n+1,v12,v13,v14,v15=>X63 kx10 z11 (X2y kx10 z11 n) v12 v13 v14 v15
def X8z(x0:Ad)(x1:Aa):Bv:=
 X2y X2x x1 big 0 ([]:List Int) x0.1 x0.2
def Xdn(x0:Bo):Al:=
 (X5a x0).bind fun u2=>if((!u2)=true) then(none) else
 if(x0.1=1) then(some x0.2.1) else
 if(x0.1=2) then(some (w64 (x0.2.2.1+1))) else
 some (w64 ((w64 ((w64 (2*x0.2.2.2))+x0.2.2.1))-1))
def Xcw(x0:Bo)(x1 x2:Int):Ap:=
 (X5a x0).bind fun u2=>(if(((((u2=true)∧(0≤x1))∧(0≤x2))∧(x1≤x0.2.1))∧(x2≤x0.2.1)) then((Xdn x0).bind fun u34=>some (decide ((w64 ((w64 (u34+x1))+(w64 (2*x2))))≤x0.2.1))) else some false).bind fun u28=>some u28
def X90(z61 z62:Int)(rec52:Al)(x64:Aa):Al:=
 if((x64.length:Int)≠z62) then(none) else
(X4r z61 x64).bind fun u75=>if((!u75)=true) then(none) else
 rec52
def X5k(z61 z62:Int):Fa
 | []=>some 0
 |x64::xs=>X90 z61 z62 (X5k z61 z62 xs) x64
def Xcx(x0:Ch):Al:=
 if((x0.1<1)∨(2147483647≤x0.1)) then(none) else
(X2d x0.2.1).bind fun u9=>if(u9≠0) then(none) else
 if((x0.2.2.1<1)∨(64<x0.2.2.1)) then(none) else
 if(1024<(x0.2.2.2.length:Int)) then(none) else
 X5k x0.2.1 x0.2.2.1 x0.2.2.2
def Xbo(x0:De)(x1:Int):Ff:=
 if(((x0.2.2<1)∨(x1<0))∨(1024<x1)) then(none) else
(nz x0.2.2).bind fun _=>(nz x0.2.2).bind fun _=>if(0<(Int.tmod x1 x0.2.2)) then(some ((w64 ((w64 (Int.tdiv x1 x0.2.2))+1)),0)) else
 some ((w64 (Int.tdiv x1 x0.2.2)),0)
def X9w(rec33:Fw)(z53 z54 z55 v50:Int):Al:=
 (nz z55).bind fun _=>rec33 (Int.tmod (w64 (z53*z53)) z55) (z54/2) v50
def Xd5(z39:Int)(rec33:Fw)(v34 v35 v36:Int):Al:=
 if(0<v35) then(if((andI .i64 v35 1)=1) then((nz z39).bind fun _=>(X9w rec33 v34 v35 z39) (Int.tmod (w64 (v36*v34)) z39)) else
(X9w rec33 v34 v35 z39) v36) else
 some v36
def X6a(z39:Int):Nat→Fw
 |0,_,_,_=>none
 |n+1,v34,v35,v36=>Xd5 z39 (X6a z39 n) v34 v35 v36
def Xaf(x0 x1 x2:Int):Al:=
 (nz x0).bind fun _=>X6a x0 big x1 x2 (Int.tmod 1 x0)
def X2e(rec10:Ep)(z11:Int)(z12:Ac)(v13:Aa)(v14 v15 v16 v17:Int):Bm:=
 (lapp z12 ([v13]:List (List Int))).bind fun u19=>rec10 u19 (w64 (z11+1)) v14 v15 v16 v17
def Xag(rec10:Dx)(z11 z12 z13 z14 z15 z16:Int)(rec17:Aa→Bm)(x19:Int)(i17:Nat)(v20:Aa):Bm:=
 (lidx v20 (i17:Int)).bind fun u21=>(nz z16).bind fun _=>(lidx v20 (i17:Int)).bind fun u22=>(lupd v20 (i17:Int) (Int.tmod (w64 (u21+(w64 (z12*x19)))) z16)).bind fun u23=>rec17 u23
def X4z(rec10:Dx)(z11 z12 z13 z14 z15 z16:Int):Aa→Nat→Aa→Bm
 | [],i17,v19=>rec10 (w64 (z11+1)) v19 z13 z14 z15 z16
 |x20::xs,i17,v19=>Xag rec10 z11 z12 z13 z14 z15 z16 (X4z rec10 z11 z12 z13 z14 z15 z16 xs (i17+1)) x20 i17 v19
def Xah(kx10:Aa→Av)(z11:Int)(z12:Ac)(z13:Int)(rec14:Dx)(v15:Int)(v16:Aa)(v17 v19 v20 v21:Int):Bm:=
 if((v15<v20)∧((w64 ((w64 (z11*v20))+v15))<(z12.length:Int))) then((Xaf v21 z13 v15).bind fun u22=>(lidx z12 (w64 ((w64 (z11*v20))+v15))).bind fun u23=>X4z rec14 v15 u22 v17 v19 v20 v21 u23 0 v16) else
 kx10 v16 v17 v19 v20 v21
def X2f(kx10:Aa→Av)(z11:Int)(z12:Ac)(z13:Int):Nat→Dx
 |0,_,_,_,_,_,_=>none
 |n+1,v14,v15,v16,v17,v19,v20=>Xah kx10 z11 z12 z13 (X2f kx10 z11 z12 z13 n) v14 v15 v16 v17 v19 v20
def Xai(z10:Int)(z11:Ac)(z12 z13:Int)(rec14:Ep)(v15:Ac)(v16 v17 v19 v20 v21:Int):Bm:=
 if(v16<z13) then((lmk z10 0).bind fun u22=>X2f (X2e rec14 v16 v15) v16 z11 z12 big 0 u22 v17 v19 v20 v21) else
 some (v15,0)
def X17(z10:Int)(z11:Ac)(z12 z13:Int):Nat→Ep
 |0,_,_,_,_,_,_=>none
 |n+1,v14,v15,v16,v17,v19,v20=>Xai z10 z11 z12 z13 (X17 z10 z11 z12 z13 n) v14 v15 v16 v17 v19 v20
def X6f(z94:Int)(z95:Ac)(z96 v88 v89 v90 v91:Int):Bm:=
 (Xbo (v88,v89,v90) (z95.length:Int)).bind fun u97=>X17 z94 z95 z96 u97.1 big ([]:List (List Int)) 0 v88 v89 v90 v91
def Xaj(kx92:Av)(z10 z11 z12 z13 z14:Int)(rec15:Bm)(x16:Aa):Bm:=
 if((x16.length:Int)≠z10) then(none) else
(X4r z14 x16).bind fun u17=>if((!u17)=true) then(none) else
 rec15
def X6g(kx92:Av)(z10 z11 z12 z13 z14:Int):Ac→Bm
 | []=>kx92 z11 z12 z13 z14
 |x15::xs=>Xaj kx92 z10 z11 z12 z13 z14 (X6g kx92 z10 z11 z12 z13 z14 xs) x15
def Xdo(x0:Int)(x1:De)(x2:Int)(x3:Ac)(x4:Int):Bm:=
 (X9k x0 x1).bind fun u3=>if(u3≠0) then(none) else
 if((x4<1)∨(x1.1<x4)) then(none) else
 if(((x2<0)∨(64<x2))∨(1024<(x3.length:Int))) then(none) else
 X6g (X6f x2 x3 x4) x2 x1.1 x1.2.1 x1.2.2 x0 x3
def Xak(z10:Ac)(rec11:Ac→Fx)(v12:Ac)(v13:Int):Bm:=
 if(v13<(z10.length:Int)) then((lidx z10 v13).bind fun u14=>(lapp ([]:List Int) u14).bind fun u15=>(lapp v12 ([u15]:List (List Int))).bind fun u16=>rec11 u16 (w64 (v13+1))) else
 some (v12,0)
def X6h(z10:Ac):Nat→Ac→Fx
 |0,_,_=>none
 |n+1,v11,v12=>Xak z10 (X6h z10 n) v11 v12
def Xb1(x0:Bo)(x1:Ch)(x2:Int):Bm:=
 (Xcx x1).bind fun u3=>if(u3≠0) then(none) else
(X4l x0 x1.2.1).bind fun u10=>if((!u10)=true) then(none) else
 if((x2<1)∨(x0.2.1<x2)) then(none) else
 if(x0.1=3) then((X31 x0).bind fun u26=>(Xdo x1.2.1 u26 x1.2.2.1 x1.2.2.2 x2).bind fun u30=>some (u30.1,u30.2)) else
 X6h x1.2.2.2 big ([]:List (List Int)) 0
def X6x(rec10:Bb)(z11:Int)(z12:Aa)(z13:Int)(rec14:Cr)(x15:Int)(i14:Nat)(v16:Aa):Ak:=
 (lidx z12 z11).bind fun u17=>(lidx v16 (i14:Int)).bind fun u18=>(nz z13).bind fun _=>(lidx v16 (i14:Int)).bind fun u19=>(lupd v16 (i14:Int) (Int.tmod (w64 (u18+(w64 (u17*x15)))) z13)).bind fun u20=>rec14 u20
def X2s(rec10:Bb)(z11:Int)(z12:Aa)(z13:Int):Dy
 | [],i14,v15=>rec10 v15 z13
 |x16::xs,i14,v15=>X6x rec10 z11 z12 z13 (X2s rec10 z11 z12 z13 xs (i14+1)) x16 i14 v15
def X6y(z10:Aa)(rec11:Bb)(x12:Aa)(i11:Nat)(v13:Aa)(v14:Int):Ak:=
 X2s rec11 (i11:Int) z10 v14 x12 0 v13
def X19(z10:Aa):Ac→Eg
 | [],i11,v12,v13=>some (v12,0)
 |x14::xs,i11,v12,v13=>X6y z10 (X19 z10 xs (i11+1)) x14 i11 v12 v13
def X3m(z10:Aa)(z11:Ac)(z12 v13:Int):Ak:=
 (lmk z12 0).bind fun u14=>X19 z10 z11 0 u14 v13
def X6z(kx10:Cj)(z11:Int)(rec12:Ak)(x13:Aa):Ak:=
 (X4r z11 x13).bind fun u14=>if((!u14)=true) then(none) else
 rec12
def X3n(kx10:Cj)(z11:Int):Ac→Ak
 | []=>kx10 z11
 |x12::xs=>X6z kx10 z11 (X3n kx10 z11 xs) x12
def X3o(z62:Aa)(z63:Ac)(z64 v59:Int):Ak:=
 (X4r v59 z62).bind fun u65=>if((!u65)=true) then(none) else
 X3n (X3m z62 z63 z64) v59 z63
def X70(kx60:Cj)(z10 z11:Int)(rec12:Ak)(x13:Aa):Ak:=
 if((x13.length:Int)≠z10) then(none) else
 rec12
def X3p(kx60:Cj)(z10 z11:Int):Ac→Ak
 | []=>kx60 z11
 |x12::xs=>X70 kx60 z10 z11 (X3p kx60 z10 z11 xs) x12
def Xc7(x0:Int)(x1:Aa)(x2:Ac)(x3:Int):Ak:=
 (X2d x0).bind fun u2=>if(u2≠0) then(none) else
 if((x3<0)∨(64<x3)) then(none) else
 if((x1.length:Int)≠(x2.length:Int)) then(none) else
 X3p (X3o x1 x2 x3) x3 x0 x2
def Xd6(x0 x1:Int)(x2:Ac)(x3:Aa):Ak:=
 (Xc7 x0 x3 x2 x1).bind fun u2=>some (u2.1,u2.2)
def X9x(x0 x1:Int)(x2:Ac)(x3:Aa):Ak:=
 (Xd6 x0 x1 x2 x3).bind fun u2=>some (u2.1,u2.2)
def X5x(z10:Aa)(z11:Int)(z12:Ah)(z13:Aa)(rec14:Bi):Bi:=
 if(1<(z13.length:Int)) then(none) else
 some (z12,z13,(z10,z11))
def X3v(z10:Aa)(z11:Int)(z12:Ah)(z13:Aa):Nat→Bi
 |0=>none
 |n+1=>X5x z10 z11 z12 z13 (X3v z10 z11 z12 z13 n)
def Xi(v10:Ah)(v11 v12:Aa)(v13 v14 v15 v16 v17 v18 v19 v20:Int):Bi:=
 X3v v12 v13 v10 v11 big
def X1q(rec10:Dc)(z11 z12:Int)(z13:Ah)(v14 v15 v16:Aa)(v17:Int):Bi:=
 (lidx z13 (w64 (z12-1))).bind fun u18=>(lupd z13 (w64 (z12-1)) (true,v15)).bind fun u19=>rec10 v14 (w64 (z11+1)) u19 v16 v17
def X5y(kx10:Aa→Aa→Aa→Fy)(z11:Int)(z12 v13 v14:Aa)(v15:Int):Bi:=
 (lapp z12 ([z11]:List Int)).bind fun u16=>kx10 u16 v13 v14 v15
def X3w(kx10:Cv)(z11:Ac)(z12 z13 z14 z15 z16 z17:Int)(z18:Ac)(z19 z20 z21 z22:Int)(rec24:Dc)(v25:Aa)(v26:Int)(v27:Ah)(v28:Aa)(v29:Int):Bi:=
 if(v26<z20) then((nz z20).bind fun _=>if(v26<z12) then(none) else
(Xb1 (z19,z20,z21,z22) (z15,z16,z17,z18) (w64 ((Int.tmod (w64 (z14+v26)) z20)+1))).bind fun u30=>(lidx z11 (w64 ((w64 ((Int.tmod (w64 (z14+v26)) z20)+1))-1))).bind fun u31=>(X9x z16 z17 u30.1 u31).bind fun u32=>if(v26<(w64 (z12+z13))) then((Xb (v28,v29) z17).bind fun u33=>(lidx u32.1 u33.1).bind fun u34=>(Xb u33.2 (w64 (z16-1))).bind fun u35=>(nz z16).bind fun _=>(lidx u32.1 u33.1).bind fun u36=>(lupd u32.1 u33.1 (Int.tmod (w64 ((w64 (u34+1))+u35.1)) z16)).bind fun u37=>(X5y (X1q rec24 v26 (w64 ((Int.tmod (w64 (z14+v26)) z20)+1)) v27) (w64 ((Int.tmod (w64 (z14+v26)) z20)+1)) v25) u37 u35.2.1 u35.2.2) else
(X1q rec24 v26 (w64 ((Int.tmod (w64 (z14+v26)) z20)+1)) v27) v25 u32.1 v28 v29) else
 kx10 v27 v25 v28 v29 z15 z16 z17 z19 z20 z21 z22
def Xn(kx10:Cv)(z11:Ac)(z12 z13 z14 z15 z16 z17:Int)(z18:Ac)(z19 z20 z21 z22:Int):Nat→Dc
 |0,_,_,_,_,_=>none
 |n+1,v23,v24,v25,v26,v27=>X3w kx10 z11 z12 z13 z14 z15 z16 z17 z18 z19 z20 z21 z22 (Xn kx10 z11 z12 z13 z14 z15 z16 z17 z18 z19 z20 z21 z22 n) v23 v24 v25 v26 v27
def X4e(x0:Ad)(x1:Bo)(x2:Ch)(x3:Ac)(x4 x5:Int):Bi:=
 (lmk x1.2.1 (false,([]:List Int))).bind fun u3=>(Xb x0 x1.2.1).bind fun u9=>Xn Xi x3 x4 x5 u9.1 x2.1 x2.2.1 x2.2.2.1 x2.2.2.2 x1.1 x1.2.1 x1.2.2.1 x1.2.2.2 big ([]:List Int) 0 u3 u9.2.1 u9.2.2
def X2g(v10:Aa)(v11:Int):Aw:=
 some ((v10,([]:List Int)),0)
def X7u(rec10:Cw)(z11:Int)(rec12:Fh)(x13:Int)(i12:Nat)(v14:Aa):Aw:=
 (lidx v14 (i12:Int)).bind fun u15=>(nz z11).bind fun _=>(lidx v14 (i12:Int)).bind fun u17=>(lupd v14 (i12:Int) (Int.tmod (w64 (u15+x13)) z11)).bind fun u18=>rec12 u18
def X38(rec10:Cw)(z11:Int):Aa→Nat→Fh
 | [],i12,v13=>rec10 v13 z11
 |x14::xs,i12,v13=>X7u rec10 z11 (X38 rec10 z11 xs (i12+1)) x14 i12 v13
def X7v(kx10:Cw)(z11:Int)(rec12:Cw)(x13:Ej)(v14:Aa)(v15:Int):Aw:=
 if((!x13.1)=true) then(none) else
 if((x13.2.length:Int)≠z11) then(none) else
(X4r v15 x13.2).bind fun u17=>if((!u17)=true) then(none) else
 X38 rec12 v15 x13.2 0 v14
def X1k(kx10:Cw)(z11:Int):Ah→Cw
 | [],v12,v13=>kx10 v12 v13
 |x14::xs,v12,v13=>X7v kx10 z11 (X1k kx10 z11 xs) x14 v12 v13
def Xbp(x0 x1:Int)(x2:Ah):Aw:=
 (X2d x0).bind fun u3=>if(u3≠0) then(none) else
 if((((x1<0)∨(64<x1))∨((x2.length:Int)<2))∨(10<(x2.length:Int))) then(none) else
(lmk x1 0).bind fun u25=>X1k X2g x1 x2 u25 x0
def X91(rec54:Af→Fi)(x69:Ec)(i54:Nat)(v58:Af):Fi:=
 if(x69.2=true) then((lapp v58 ([((w64 ((i54:Int)+1)),x69.1)]:List (Int×Int))).bind fun u84=>rec54 u84) else
 rec54 v58
def X4a:Ay→Nat→Af→Fi
 | [],i54,v58=>some v58
 |x69::xs,i54,v58=>X91 (X4a xs (i54+1)) x69 i54 v58
def X7w(x0:Ay):Fi:=
 X4a x0 0 ([]:List (Int×Int))
def X92(z78:Int)(rec66:Al)(x80:Ec):Al:=
 (if(x80.2=true) then((X4r z78 ([x80.1]:List Int)).bind fun u10=>some (!u10)) else some false).bind fun u11=>if(u11=true) then(none) else
 rec66
def X5l(z78:Int):Ay→Al
 | []=>some 0
 |x80::xs=>X92 z78 (X5l z78 xs) x80
def Xe3(x0:Int)(x1:Ay):Al:=
 (X2d x0).bind fun u2=>if(u2≠0) then(none) else
 if((32<(x1.length:Int))∨(x0≤(x1.length:Int))) then(none) else
 X5l x0 x1
def Xb2(x0:Int)(x1:Ay)(x2:Int):Al:=
 (Xe3 x0 x1).bind fun u2=>if(u2≠0) then(none) else
 if((x2<1)∨((x1.length:Int)<x2)) then(none) else
 some 0
def X46(v71:Aa):Bx:=
 (lapp ([]:List Int) v71).bind fun u82=>some u82
def Xc8(kx75 rec10:Cu)(v11:Aa):Bx:=
 (if(0<(v11.length:Int)) then((lidx v11 (w64 ((v11.length:Int)-1))).bind fun u12=>some (decide (u12=0))) else some false).bind fun u13=>if(u13=true) then((lsub v11 0 (w64 ((v11.length:Int)-1))).bind fun u14=>rec10 u14) else
 kx75 v11
def X8g(kx75:Cu):Nat→Cu
 |0,_=>none
 |n+1,v10=>Xc8 kx75 (X8g kx75 n) v10
def X9y(x0:Aa):Bx:=
 X8g X46 big x0
def X93(x0 x1:Int):Al:=
 (Xaf x0 x1 (w64 (x0-2))).bind fun u2=>some u2
def X6(v10:Aa)(v11:Int):Ak:=
 (X9y v10).bind fun u12=>some (u12,0)
def X3x(rec10:Du)(z11 z12:Int)(z13:Aa)(rec14:Cr)(x15:Int)(i14:Nat)(v16:Aa):Ak:=
 (lidx v16 (w64 ((i14:Int)+1))).bind fun u17=>(nz z12).bind fun _=>(lidx v16 (w64 ((i14:Int)+1))).bind fun u18=>(lupd v16 (w64 ((i14:Int)+1)) (Int.tmod (w64 (u17+x15)) z12)).bind fun u19=>(lidx u19 (i14:Int)).bind fun u20=>(nz z12).bind fun _=>(lidx u19 (i14:Int)).bind fun u21=>(lupd u19 (i14:Int) (Int.tmod (w64 (u20+(w64 ((w64 (z12-z11))*x15)))) z12)).bind fun u22=>rec14 u22
def X1r(rec10:Du)(z11 z12:Int)(z13:Aa):Dy
 | [],i14,v15=>rec10 z13 v15 z12
 |x16::xs,i14,v15=>X3x rec10 z11 z12 z13 (X1r rec10 z11 z12 z13 xs (i14+1)) x16 i14 v15
def X1f(rec10:Du)(z11:Aa)(z12:Int)(v13:Aa)(v14:Int):Ak:=
 (lmk (w64 ((z11.length:Int)+1)) 0).bind fun u15=>X1r rec10 z12 v14 v13 z11 0 u15
def X3y(kx10:Bb)(z11 z12:Int)(rec13:Cr)(x14:Int)(i13:Nat)(v15:Aa):Ak:=
 (lidx v15 (i13:Int)).bind fun u16=>(nz z12).bind fun _=>(lidx v15 (i13:Int)).bind fun u17=>(lupd v15 (i13:Int) (Int.tmod (w64 (u16+(w64 (z11*x14)))) z12)).bind fun u18=>rec13 u18
def X1s(kx10:Bb)(z11 z12:Int):Dy
 | [],i13,v14=>kx10 v14 z12
 |x15::xs,i13,v14=>X3y kx10 z11 z12 (X1s kx10 z11 z12 xs (i13+1)) x15 i13 v14
def X3z(kx10:Bb)(z11:Aa)(rec12:Du)(x13:Int)(i12:Nat)(v14 v15:Aa)(v16:Int):Ak:=
 (X9n v16 v14 x13).bind fun u17=>(X9n v16 v15 x13).bind fun u18=>(lidx z11 (i12:Int)).bind fun u19=>(nz v16).bind fun _=>(X93 v16 u18).bind fun u20=>(nz v16).bind fun _=>(lmk (v15.length:Int) 0).bind fun u21=>(lsub u21 0 (u21.length:Int)).bind fun u22=>X1s (X1f rec12 v15 x13) (Int.tmod (w64 ((Int.tmod (w64 ((w64 (u19+v16))-u17)) v16)*u20)) v16) v16 v15 0 (lcpy u21 0 u22.length v14)
def X8(kx10:Bb)(z11:Aa):Aa→Nat→Du
 | [],i12,v13,v14,v15=>kx10 v13 v15
 |x16::xs,i12,v13,v14,v15=>X3z kx10 z11 (X8 kx10 z11 xs (i12+1)) x16 i12 v13 v14 v15
def Xo(z10 z11:Aa)(v12:Int):Ak:=
 X8 X6 z11 z10 0 ([]:List Int) ([1]:List Int) v12
def X40(rec10:Cj)(z11:Int)(z12:Aa)(z13:Int)(rec14:Ak)(x15:Int)(i14:Nat):Ak:=
 (lidx z12 z11).bind fun u16=>(lidx z12 (i14:Int)).bind fun u17=>if(u16=u17) then(none) else
 rec14
def X1t(rec10:Cj)(z11:Int)(z12:Aa)(z13:Int):Aa→Nat→Ak
 | [],i14=>rec10 z13
 |x15::xs,i14=>X40 rec10 z11 z12 z13 (X1t rec10 z11 z12 z13 xs (i14+1)) x15 i14
def X41(kx10:Cj)(z11:Aa)(rec12:Cj)(x13:Int)(i12:Nat)(v14:Int):Ak:=
 (lsub z11 0 (i12:Int)).bind fun u15=>X1t rec12 (i12:Int) z11 v14 u15 0
def Xp(kx10:Cj)(z11:Aa):Aa→Nat→Cj
 | [],i12,v13=>kx10 v13
 |x14::xs,i12,v13=>X41 kx10 z11 (Xp kx10 z11 xs (i12+1)) x14 i12 v13
def X1u(v10 v11:Aa)(v12:Int):Ak:=
 (X9m v12 ([v10,v11]:List (List Int))).bind fun u13=>if(u13≠0) then(none) else
 Xp (Xo v10 v11) v10 v10 0 v12
def X39(kx11:Du)(z12:Int)(rec13:Aa→Cr)(x14:Az)(v15 v16:Aa):Ak:=
 (lapp v15 ([x14.1]:List Int)).bind fun u17=>(lapp v16 ([x14.2]:List Int)).bind fun u18=>rec13 u17 u18
def X14(kx11:Du)(z12:Int):Af→Aa→Cr
 | [],v13,v14=>kx11 v13 v14 z12
 |x15::xs,v13,v14=>X39 kx11 z12 (X14 kx11 z12 xs) x15 v13 v14
def X64(x0:Int)(x1:Af):Ak:=
 X14 X1u x0 x1 ([]:List Int) ([]:List Int)
def Xdp(x0:Int)(x1:Ay)(x2:Int):Ak:=
 (Xb2 x0 x1 x2).bind fun u2=>if(u2≠0) then(none) else
(X7w x1).bind fun u9=>if((u9.length:Int)<x2) then(none) else
(lsub u9 0 x2).bind fun u26=>(X64 x0 u26).bind fun u32=>some (u32.1,u32.2)
def Xd7(x0 x1:Int):Ff:=
 if(((x1<1)∨(x0<0))∨(32<x0)) then(none) else
 if(x0<x1) then(none) else
 some ((w64 (Int.tdiv (w64 (x0-x1)) 2)),0)
def X1g(v10 v11 v12:Int)(v13 v14:Aa)(v15 v16 v17 v18:Int):Aj:=
 some ((v10,v11,v12,v13,v14),0)
def X6b(rec10:Cc)(z11:Int)(z12:Aa)(v13 v14 v15 v16 v17:Int)(v18:Aa)(v19 v20 v21 v22:Int):Aj:=
 (Xaf v22 v13 z11).bind fun u23=>(nz v22).bind fun _=>(lapp z12 ([(Int.tmod (w64 (v14*u23)) v22)]:List Int)).bind fun u24=>rec10 v15 v16 v17 v18 u24 v19 v20 v21 v22
def Xbq(kx10:Ck)(z11 z12 z13 z14 z15 z16 z17 z18 z19 z20:Int)(rec21:Dz)(v22:Int)(v23:Aa):Aj:=
 if(v22<z11) then((Xaf z20 z15 v22).bind fun u24=>(nz z20).bind fun _=>(lapp v23 ([(Int.tmod (w64 ((w64 (z20-z16))*u24)) z20)]:List Int)).bind fun u25=>rec21 (w64 (v22+1)) u25) else
 kx10 z15 z16 z12 z13 z14 v23 z17 z18 z19 z20
def X7x(kx10:Ck)(z11 z12 z13 z14 z15 z16 z17 z18 z19 z20:Int):Nat→Dz
 |0,_,_=>none
 |n+1,v21,v22=>Xbq kx10 z11 z12 z13 z14 z15 z16 z17 z18 z19 z20 (X7x kx10 z11 z12 z13 z14 z15 z16 z17 z18 z19 z20 n) v21 v22
def X6c(rec10:Cc)(z11:Int)(z12:Aa)(v13 v14 v15 v16 v17:Int)(v18:Aa)(v19 v20 v21 v22:Int):Aj:=
 X7x (X6b rec10 z11 z12) z11 v15 v16 v17 v13 v14 v19 v20 v21 v22 big 0 v18
def Xbr(kx10:Ck)(z11 z12 z13 z14 z15 z16 z17 z18 z19 z20 z21:Int)(rec22:Dz)(v23:Int)(v24:Aa):Aj:=
 if(v23<(w64 (z11+z12))) then((Xaf z21 z16 v23).bind fun u25=>(lapp v24 ([u25]:List Int)).bind fun u26=>rec22 (w64 (v23+1)) u26) else
 kx10 z16 z17 z13 z14 z15 v24 z18 z19 z20 z21
def X7y(kx10:Ck)(z11 z12 z13 z14 z15 z16 z17 z18 z19 z20 z21:Int):Nat→Dz
 |0,_,_=>none
 |n+1,v22,v23=>Xbr kx10 z11 z12 z13 z14 z15 z16 z17 z18 z19 z20 z21 (X7y kx10 z11 z12 z13 z14 z15 z16 z17 z18 z19 z20 z21 n) v22 v23
def Xbs(kx10:Cc)(z11 z12:Int)(rec13:Cc)(x14:Az)(v15 v16 v17:Int)(v18 v19:Aa)(v20 v21 v22 v23:Int):Aj:=
 X7y (X6c rec13 z12 v19) z11 z12 v15 (w64 (v16+1)) v17 x14.1 x14.2 v20 v21 v22 v23 big 0 v18
def Xx(kx10:Cc)(z11 z12:Int):Af→Cc
 | [],v13,v14,v15,v16,v17,v18,v19,v20,v21=>kx10 v13 v14 v15 v16 v17 v18 v19 v20 v21
 |x22::xs,v13,v14,v15,v16,v17,v18,v19,v20,v21=>Xbs kx10 z11 z12 (Xx kx10 z11 z12 xs) x22 v13 v14 v15 v16 v17 v18 v19 v20 v21
def Xeu(x0:Int)(x1:Ay)(x2 x3:Int):Aj:=
 (Xb2 x0 x1 x2).bind fun u3=>if(u3≠0) then(none) else
 if(((x3<0)∨(32<x3))∨(32<(w64 (x2+(w64 (2*x3)))))) then(none) else
(X7w x1).bind fun u22=>Xx X1g x2 x3 u22 x0 0 (w64 (x2+(w64 (2*x3)))) ([]:List Int) ([]:List Int) 0 0 0 x0
def Xe4(x0:Cm):Al:=
 (X2d x0.1).bind fun u2=>if(u2≠0) then(none) else
 if((((x0.2.1<0)∨(32<x0.2.1))∨(x0.2.2.1<0))∨(32<x0.2.2.1)) then(none) else
 if(((x0.2.2.2.1.length:Int)≠(w64 (x0.2.1*x0.2.2.1)))∨((x0.2.2.2.2.length:Int)≠x0.2.1)) then(none) else
(X4r x0.1 x0.2.2.2.1).bind fun u31=>(if((!u31)=true) then(some true) else(X4r x0.1 x0.2.2.2.2).bind fun u51=>some (!u51)).bind fun u41=>if(u41=true) then(none) else
 some 0
def X1l(rec10:Cy)(z11:Int)(z12:Aa)(v13:Ac)(v14 v15 v16:Int):Bc:=
 (lapp z12 ([z11]:List Int)).bind fun u17=>rec10 u17 (w64 (z11+1)) v13 v14 v15 v16
def X7z(rec10:Ao)(z11 z12 z13 z14 z15 z16 z17:Int)(rec18:Fj)(x19:Int)(i18:Nat)(v20:Ac):Bc:=
 (lidx v20 z11).bind fun u21=>(lidx v20 z11).bind fun u22=>(lidx u22 (i18:Int)).bind fun u23=>(lidx v20 z13).bind fun u24=>(lidx u24 (i18:Int)).bind fun u25=>(nz z12).bind fun _=>(lidx u21 (i18:Int)).bind fun u26=>(lupd u21 (i18:Int) (Int.tmod (w64 (u23+(w64 ((w64 (z12-z14))*u25)))) z12)).bind fun u27=>(lupd v20 z11 u27).bind fun u28=>rec18 u28
def X3a(rec10:Ao)(z11 z12 z13 z14 z15 z16 z17:Int):Aa→Nat→Fj
 | [],i18,v19=>rec10 v19 z15 z16 z17
 |x20::xs,i18,v19=>X7z rec10 z11 z12 z13 z14 z15 z16 z17 (X3a rec10 z11 z12 z13 z14 z15 z16 z17 xs (i18+1)) x20 i18 v19
def X80(kx10:Ao)(z11 z12 z13:Int)(rec14:Ao)(x15:Aa)(i14:Nat)(v16:Ac)(v17 v18 v19:Int):Bc:=
 (lidx v16 (i14:Int)).bind fun u20=>(lidx u20 z11).bind fun u21=>if(((i14:Int)≠z13)∧(u21≠0)) then((lidx v16 (i14:Int)).bind fun u22=>X3a rec14 (i14:Int) z12 z13 u21 v17 v18 v19 u22 0 v16) else
 rec14 v16 v17 v18 v19
def X1a(kx10:Ao)(z11 z12 z13:Int):Ac→Nat→Ao
 | [],i14,v15,v16,v17,v18=>kx10 v15 v16 v17 v18
 |x19::xs,i14,v15,v16,v17,v18=>X80 kx10 z11 z12 z13 (X1a kx10 z11 z12 z13 xs (i14+1)) x19 i14 v15 v16 v17 v18
def X3b(rec10:Cy)(z11 z12 z13:Int)(z14:Aa)(v15:Ac)(v16 v17 v18:Int):Bc:=
 X1a (X1l rec10 z11 z14) z11 z12 z13 v15 0 v15 v16 v17 v18
def X81(kx10:Ao)(z11 z12 z13 z14 z15 z16 z17:Int)(rec18:Int→Fj)(v19:Int)(v20:Ac):Bc:=
 if(v19<z14) then((lidx v20 z12).bind fun u21=>(lidx v20 z12).bind fun u22=>(lidx u22 v19).bind fun u23=>(nz z11).bind fun _=>(lidx u21 v19).bind fun u24=>(lupd u21 v19 (Int.tmod (w64 (u23*z13)) z11)).bind fun u25=>(lupd v20 z12 u25).bind fun u26=>rec18 (w64 (v19+1)) u26) else
 kx10 v20 z15 z16 z17
def X4n(kx10:Ao)(z11 z12 z13 z14 z15 z16 z17:Int):Nat→Int→Fj
 |0,_,_=>none
 |n+1,v18,v19=>X81 kx10 z11 z12 z13 z14 z15 z16 z17 (X4n kx10 z11 z12 z13 z14 z15 z16 z17 n) v18 v19
def Xal(rec10:Cy)(z11 z12 z13 z14 z15 z16:Int)(z17:Aa)(v18:Ac):Bc:=
 (lidx v18 z13).bind fun u19=>(lidx u19 z11).bind fun u20=>(X93 z14 u20).bind fun u21=>(lidx v18 z13).bind fun u22=>X4n (X3b rec10 z11 z12 z13 z17) z12 z13 u21 (u22.length:Int) z14 z15 z16 big 0 v18
def X3c(rec10:Cy)(z11 z12 z13:Int)(z14:Aa)(z15:Ac)(v16 v17 v18 v19:Int):Bc:=
 if(v16=(z15.length:Int)) then(rec10 z14 (w64 (z11+1)) z15 v17 v18 v19) else
(lidx z15 z13).bind fun u20=>(lidx z15 v16).bind fun u21=>(lidx z15 v16).bind fun u22=>(lidx z15 z13).bind fun u23=>(lupd z15 v16 u20).bind fun u24=>(lupd u24 z13 u21).bind fun u25=>(Xal rec10 z11 z12 z13 v17 v18 v19 z14) u25
def Xam(kx10:Int→Em)(z11 z12 z13 z14:Int)(z15:Ac)(rec16:Dp)(v17:Int):Bc:=
 (if(v17<(z15.length:Int)) then((lidx z15 v17).bind fun u18=>(lidx u18 z11).bind fun u19=>some (decide (u19=0))) else some false).bind fun u20=>if(u20=true) then(rec16 (w64 (v17+1))) else
 kx10 v17 z12 z13 z14
def X65(kx10:Int→Em)(z11 z12 z13 z14:Int)(z15:Ac):Nat→Dp
 |0,_=>none
 |n+1,v16=>Xam kx10 z11 z12 z13 z14 z15 (X65 kx10 z11 z12 z13 z14 z15 n) v16
def Xan(z10:Int)(rec11:Cy)(v12:Aa)(v13:Int)(v14:Ac)(v15 v16 v17:Int):Bc:=
 if((v13<v17)∧((v12.length:Int)<(v14.length:Int))) then(X65 (X3c rec11 v13 z10 (v12.length:Int) v12 v14) v13 v15 v16 v17 v14 big (v12.length:Int)) else
 some (v14,v12)
def X7(z10:Int):Nat→Cy
 |0,_,_,_,_,_,_=>none
 |n+1,v11,v12,v13,v14,v15,v16=>Xan z10 (X7 z10 n) v11 v12 v13 v14 v15 v16
def X2t(z11:Int)(v12:Ac)(v13 v14 v15:Int):Bc:=
 X7 z11 big ([]:List Int) 0 v12 v13 v14 v15
def X9e(kx10:Ao)(z12 z13 z14:Int)(z15 z16:Aa)(rec17:Ac→Dp)(v18:Ac)(v19:Int):Bc:=
 if(v19<z13) then((lsub z15 (w64 (v19*z14)) (w64 ((w64 (v19+1))*z14))).bind fun u20=>(lidx z16 v19).bind fun u21=>(lapp ([]:List Int) u20).bind fun u22=>(lapp u22 ([u21]:List Int)).bind fun u23=>(lapp v18 ([u23]:List (List Int))).bind fun u24=>rec17 u24 (w64 (v19+1))) else
 kx10 v18 z12 z13 z14
def X4w(kx10:Ao)(z12 z13 z14:Int)(z15 z16:Aa):Nat→Ac→Dp
 |0,_,_=>none
 |n+1,v17,v18=>X9e kx10 z12 z13 z14 z15 z16 (X4w kx10 z12 z13 z14 z15 z16 n) v17 v18
def Xd8(x0:Cm):Bc:=
 X4w (X2t x0.1) x0.1 x0.2.1 x0.2.2.1 x0.2.2.2.1 x0.2.2.2.2 big ([]:List (List Int)) 0
def X94(z10:Ac)(z11:Int)(rec12:Cr)(x13:Int)(i12:Nat)(v14:Aa):Ak:=
 (lidx z10 (i12:Int)).bind fun u15=>(lidx u15 z11).bind fun u16=>(lidx v14 x13).bind fun u17=>(lupd v14 x13 u16).bind fun u18=>rec12 u18
def X5m(z10:Ac)(z11:Int):Dy
 | [],i12,v13=>some (v13,0)
 |x14::xs,i12,v13=>X94 z10 z11 (X5m z10 z11 xs (i12+1)) x14 i12 v13
def X5n(z90:Ac)(z91:Aa)(v85 v86 v87:Int):Ak:=
 (lmk v87 0).bind fun u94=>X5m z90 v87 z91 0 u94
def X95(kx88:Int→Int→Cj)(z10 z11 z12:Int)(rec13:Ak)(x14:Aa):Ak:=
 (lidx x14 z12).bind fun u15=>if(u15≠0) then(none) else
 rec13
def X5o(kx88:Int→Int→Cj)(z10 z11 z12:Int):Ac→Ak
 | []=>kx88 z10 z11 z12
 |x13::xs=>X95 kx88 z10 z11 z12 (X5o kx88 z10 z11 z12 xs) x13
def Xcy(x0:Cm):Ak:=
 (Xe4 x0).bind fun u2=>if(u2≠0) then(none) else
(Xd8 x0).bind fun u9=>(lsub u9.1 (u9.2.length:Int) (u9.1.length:Int)).bind fun u23=>X5o (X5n u9.1 u9.2) x0.1 x0.2.1 x0.2.2.1 u23
def X1b(v10 v11:Aa)(v12:Int):Cq:=
 (X9y v11).bind fun u13=>(X9y v10).bind fun u14=>some (u13,u14,0)
def X82(rec10:Ex)(z11 z12 z13:Int)(z14:Aa)(rec15:Aa→Cq)(x16:Int)(i15:Nat)(v17:Aa):Cq:=
 (lidx v17 (w64 (z11+(i15:Int)))).bind fun u18=>(nz z13).bind fun _=>(lidx v17 (w64 (z11+(i15:Int)))).bind fun u19=>(lupd v17 (w64 (z11+(i15:Int))) (Int.tmod (w64 (u18+(w64 ((w64 (z13-z12))*x16)))) z13)).bind fun u20=>rec15 u20
def X4o(rec10:Ex)(z11 z12 z13:Int)(z14:Aa):Aa→Nat→Aa→Cq
 | [],i15,v16=>rec10 (w64 (z11-1)) v16 z14 z13
 |x17::xs,i15,v16=>X82 rec10 z11 z12 z13 z14 (X4o rec10 z11 z12 z13 z14 xs (i15+1)) x17 i15 v16
def X83(kx10:By)(z11:Aa)(z12:Int)(rec13:Ex)(v14:Int)(v15 v16:Aa)(v17:Int):Cq:=
 if(0≤v14) then((lidx v15 (w64 ((w64 (v14+(z11.length:Int)))-1))).bind fun u18=>(nz v17).bind fun _=>(lidx v16 v14).bind fun u19=>(lupd v16 v14 (Int.tmod (w64 (u18*z12)) v17)).bind fun u20=>X4o rec13 v14 (Int.tmod (w64 (u18*z12)) v17) v17 u20 z11 0 v15) else
 kx10 v15 v16 v17
def X1m(kx10:By)(z11:Aa)(z12:Int):Nat→Ex
 |0,_,_,_,_=>none
 |n+1,v13,v14,v15,v16=>X83 kx10 z11 z12 (X1m kx10 z11 z12 n) v13 v14 v15 v16
def Xbt(x0:Int)(x1 x2:Aa):Cq:=
 (X9m x0 ([x1,x2]:List (List Int))).bind fun u10=>if(u10≠0) then(none) else
(X9y x1).bind fun u17=>(X9y x2).bind fun u26=>if((u26.length:Int)=0) then(none) else
(lidx u26 (w64 ((u26.length:Int)-1))).bind fun u48=>(X93 x0 u48).bind fun u53=>(lmk (max 0 (w64 ((w64 ((u17.length:Int)-(u26.length:Int)))+1))) 0).bind fun u57=>X1m X1b u26 u53 big (w64 ((u57.length:Int)-1)) u17 u57 x0
def X96(z86:Aa)(z88:Int)(rec74:Cu)(x91:Az)(v78:Aa):Bx:=
 (X7t z88 z86 x91.1).bind fun u97=>if(u97.1≠x91.2) then((lapp v78 ([x91.1]:List Int)).bind fun u10=>rec74 u10) else
 rec74 v78
def X4b(z86:Aa)(z88:Int):Af→Cu
 | [],v78=>some v78
 |x91::xs,v78=>X96 z86 z88 (X4b z86 z88 xs) x91 v78
def Xe5(x0:Int)(x1:Ay)(x2:Aa):Bx:=
 (X7w x1).bind fun u2=>X4b x2 x0 u2 ([]:List Int)
def Xbu(x0:Int)(x1:Ay)(x2:Int):Aw:=
 (Xdp x0 x1 x2).bind fun u3=>if(u3.2≠0) then(none) else
(X7w x1).bind fun u15=>(Xd7 (u15.length:Int) x2).bind fun u24=>(Xeu x0 x1 x2 u24.1).bind fun u28=>(Xcy u28.1).bind fun u43=>if(u43.2≠0) then(none) else
(lsub u43.1 (w64 (x2+u24.1)) (u43.1.length:Int)).bind fun u60=>(lapp ([]:List Int) u60).bind fun u71=>(lapp u71 ([1]:List Int)).bind fun u81=>(lsub u43.1 0 (w64 (x2+u24.1))).bind fun u94=>(Xbt x0 u94 u81).bind fun u10=>if((0<(u10.2.1.length:Int))∨(x2<(u10.1.length:Int))) then(none) else
(Xe5 x0 x1 u10.1).bind fun u11=>if(u24.1<(u11.length:Int)) then(none) else
 some ((u10.1,u11),0)
def X71(z10:Ac)(rec11:Fk)(x12:Bool)(i11:Nat)(v13:Aa):Am:=
 if(x12=true) then((lapp v13 ([(i11:Int)]:List Int)).bind fun u14=>rec11 u14) else
 rec11 v13
def X3q(z10:Ac):Bj→Nat→Fk
 | [],i11,v12=>some (z10,v12,0)
 |x13::xs,i11,v12=>X71 z10 (X3q z10 xs (i11+1)) x13 i11 v12
def Xc(v10:Bj)(v11:Ac)(v12:Int):Am:=
 X3q v11 v10 0 ([]:List Int)
def X72(rec10:Ct)(z11 z12:Int)(z13:Ac)(rec14:Bj→Am)(x15:Int)(v16:Bj):Am:=
 (lidx v16 x15).bind fun u18=>(lupd v16 x15 true).bind fun u19=>rec14 u19
def X3r(rec10:Ct)(z11 z12:Int)(z13:Ac):Aa→Bj→Am
 | [],v14=>rec10 z13 (w64 (z11+1)) v14 z12
 |x15::xs,v14=>X72 rec10 z11 z12 z13 (X3r rec10 z11 z12 z13 xs) x15 v14
def X2u(rec10:Ct)(z11 z12:Int)(z13:Ac)(z14:Bj)(v15:Ay)(v16:Int):Am:=
 (Xbu v16 v15 z12).bind fun u18=>if(u18.2≠0) then(none) else
(lapp z13 ([u18.1.1]:List (List Int))).bind fun u19=>X3r rec10 z11 v16 u19 u18.1.2 z14
def X73(rec10:Ay→Am)(z11:Bool)(z12:Ay)(v13:Int):Am:=
 (lapp z12 ([(v13,z11)]:List (Int×Bool))).bind fun u14=>rec10 u14
def X74(kx10:Ay→Bz)(z11 z12:Int)(rec13:Ay→Am)(x14:Ej)(v15:Ay):Am:=
 if(x14.1=true) then((lidx x14.2 z11).bind fun u16=>(X73 rec13 x14.1 v15) u16) else
(X73 rec13 x14.1 v15) 0
def X21(kx10:Ay→Bz)(z11 z12:Int):Ah→Ay→Am
 | [],v13=>kx10 v13 z12
 |x14::xs,v13=>X74 kx10 z11 z12 (X21 kx10 z11 z12 xs) x14 v13
def X9f(kx10:Bj→Ac→Bz)(z11 z12:Int)(z13:Ah)(rec14:Ct)(v15:Ac)(v16:Int)(v18:Bj)(v19:Int):Am:=
 if(v16<z12) then(X21 (X2u rec14 v16 z11 v15 v18) v16 v19 z13 ([]:List (Int×Bool))) else
 kx10 v18 v15 v19
def Xh(kx10:Bj→Ac→Bz)(z11 z12:Int)(z13:Ah):Nat→Ct
 |0,_,_,_,_=>none
 |n+1,v14,v15,v16,v18=>X9f kx10 z11 z12 z13 (Xh kx10 z11 z12 z13 n) v14 v15 v16 v18
def X3s(z10 z11 z12 z13:Int)(z14:Ah)(v15:Int):Am:=
 if(z10<z12) then(none) else
(lmk (w64 (z11+1)) false).bind fun u16=>Xh Xc z12 z13 z14 big ([]:List (List Int)) 0 u16 v15
def X75(kx10:Bz)(z11:Int)(rec12:Am)(x13:Ej):Am:=
 (if(x13.1=true) then((X4r z11 x13.2).bind fun u14=>some (!u14)) else some false).bind fun u15=>if(u15=true) then(none) else
 rec12
def X3t(kx10:Bz)(z11:Int):Ah→Am
 | []=>kx10 z11
 |x12::xs=>X75 kx10 z11 (X3t kx10 z11 xs) x12
def X24(z67 z68 z69:Int)(z70:Ah)(v63 v64:Int):Am:=
 X3t (X3s v63 z67 z68 z69 z70) v64 z70
def X66(kx65:Fz)(z10 z12:Int)(rec13:Bz)(x14:Ej)(v15:Int):Am:=
 if((!x14.1)=true) then(rec13 v15) else
 if((x14.2.length:Int)≠z10) then(none) else
 rec13 (w64 (v15+1))
def X25(kx65:Fz)(z10 z12:Int):Ah→Bz
 | [],v13=>kx65 v13 z12
 |x14::xs,v13=>X66 kx65 z10 z12 (X25 kx65 z10 z12 xs) x14 v13
def X8h(x0 x1 x2 x3:Int)(x4:Ah):Am:=
 if((x3<0)∨(64<x3)) then(none) else
 if((x4.length:Int)≠x1) then(none) else
 X25 (X24 x1 x2 x3 x4) x3 x0 x4 0
def X3d(z10 v11:Aa)(v12 v13 v14:Int):Aw:=
 some ((v11,z10),0)
def X84(kx10:Ev)(z11 z12 z13:Int)(rec14:Fh)(x15 v16:Aa):Aw:=
 (X7t z13 x15 0).bind fun u18=>(lapp v16 ([u18.1]:List Int)).bind fun u19=>rec14 u19
def X3e(kx10:Ev)(z11 z12 z13:Int):Ac→Fh
 | [],v14=>kx10 v14 z11 z12 z13
 |x15::xs,v14=>X84 kx10 z11 z12 z13 (X3e kx10 z11 z12 z13 xs) x15 v14
def Xbv(x0:Int)(x1:Az)(x2:Int)(x3:Ah):Aw:=
 (Xaz x0 x1).bind fun u4=>if(u4≠0) then(none) else
(X8h x0 x1.1 (w64 (x1.2+1)) x2 x3).bind fun u11=>if(u11.2.2≠0) then(none) else
 X3e (X3d u11.2.1) x1.1 x1.2 x0 u11.1 ([]:List Int)
def X4p(rec10:Er)(z11:Int)(z12:Ac)(v13:Aa)(v14 v15 v16 v17:Int):Am:=
 (lapp z12 ([v13]:List (List Int))).bind fun u19=>rec10 u19 (w64 (z11+1)) v14 v15 v16 v17
def X85(kx10:Aa→Cp)(z11 z12 z13 z14 z15:Int)(rec16:Fk)(x17:Aa)(i16:Nat)(v19:Aa):Am:=
 if(z11<(x17.length:Int)) then((lidx x17 z11).bind fun u20=>(lidx v19 (i16:Int)).bind fun u21=>(lupd v19 (i16:Int) u20).bind fun u22=>rec16 u22) else
 rec16 v19
def X2h(kx10:Aa→Cp)(z11 z12 z13 z14 z15:Int):Ac→Nat→Fk
 | [],i16,v17=>kx10 v17 z12 z13 z14 z15
 |x19::xs,i16,v17=>X85 kx10 z11 z12 z13 z14 z15 (X2h kx10 z11 z12 z13 z14 z15 xs (i16+1)) x19 i16 v17
def Xao(z10:Int)(z11:Ac)(z12:Aa)(rec13:Er)(v14:Ac)(v15 v16 v17 v19 v20:Int):Am:=
 if(v15<v19) then((lmk z10 0).bind fun u21=>X2h (X4p rec13 v15 v14) v15 v16 v17 v19 v20 z11 0 u21) else
 some (v14,z12,0)
def X20(z10:Int)(z11:Ac)(z12:Aa):Nat→Er
 |0,_,_,_,_,_,_=>none
 |n+1,v13,v14,v15,v16,v17,v19=>Xao z10 z11 z12 (X20 z10 z11 z12 n) v13 v14 v15 v16 v17 v19
def Xbw(x0:Int)(x1:De)(x2:Int)(x3:Ah):Am:=
 (X9k x0 x1).bind fun u3=>if(u3≠0) then(none) else
(X8h x0 x1.1 (w64 ((w64 ((w64 (2*x1.2.2))+x1.2.1))-1)) x2 x3).bind fun u10=>if(u10.2.2≠0) then(none) else
 X20 x2 u10.1 u10.2.1 big ([]:List (List Int)) 0 x1.1 x1.2.1 x1.2.2 x0
def X50(x0:Bo)(x1 x2 x3:Int)(x4:Ah):Aw:=
 (X4l x0 x1).bind fun u4=>if((!u4)=true) then(none) else
 if(x3<0) then(none) else
 if((x4.length:Int)≠x0.2.1) then(none) else
 if(x0.1=1) then((Xbp x1 x2 x4).bind fun u19=>some (u19.1,u19.2)) else
 if(x0.1=2) then((X9u x0).bind fun u36=>(Xbv x1 u36 x2 x4).bind fun u40=>some (u40.1,u40.2)) else
(X31 x0).bind fun u55=>(Xbw x1 u55 x2 x4).bind fun u59=>if(u59.2.2≠0) then(none) else
(nz x0.2.2.2).bind fun _=>(lidx u59.1 (Int.tmod x3 x0.2.2.2)).bind fun u82=>some ((u82,u59.2.1),0)
def Xap(rec10:Fl)(z11 z12:Int)(z13 z14:Aa)(z15:As):Br:=
 (lapp z15 ([(z12,z13,z14)]:List (Int×(List Int)×(List Int)))).bind fun u16=>rec10 u16 (w64 (z11+1))
def Xaq(rec10:Fl)(z11:Int)(z12:Aa)(z13:As)(v14 v15:Aa)(v16:Int):Br:=
 (lidx z12 z11).bind fun u17=>if(u17<0) then(none) else
(Xap rec10 z11 v16 v14 v15 z13)
def X86(z10:Int)(z11:Aa)(z12:Db)(z13 z14 z15 z16 z17:Int)(rec18:Fl)(v19:As)(v20:Int):Br:=
 if(v20<(z11.length:Int)) then((lidx z11 v20).bind fun u21=>(lidx z12 v20).bind fun u22=>(X50 (z14,z15,z16,z17) z13 z10 (max u21 0) u22).bind fun u25=>(Xaq rec18 v20 z11 v19) u25.1.1 u25.1.2 u25.2) else
 some (v19,0)
def X2i(z10:Int)(z11:Aa)(z12:Db)(z13 z14 z15 z16 z17:Int):Nat→Fl
 |0,_,_=>none
 |n+1,v18,v19=>X86 z10 z11 z12 z13 z14 z15 z16 z17 (X2i z10 z11 z12 z13 z14 z15 z16 z17 n) v18 v19
def X3f(z68:Int)(z69:Aa)(z70:Db)(v61 v62 v63 v64 v65:Int):Br:=
 if((z70.length:Int)≠(z69.length:Int)) then(none) else
 X2i z68 z69 z70 v61 v62 v63 v64 v65 big ([]:List (Int×(List Int)×(List Int))) 0
def X87(kx66:Es)(z10:Aa)(z11 z12 z13 z14 z15:Int)(rec16:Df)(v17:Int):Br:=
 if(v17<(z10.length:Int)) then((lidx z10 v17).bind fun u18=>if(u18<(-1)) then(none) else
 rec16 (w64 (v17+1))) else
 kx66 z11 z12 z13 z14 z15
def X4q(kx66:Es)(z10:Aa)(z11 z12 z13 z14 z15:Int):Nat→Df
 |0,_=>none
 |n+1,v16=>X87 kx66 z10 z11 z12 z13 z14 z15 (X4q kx66 z10 z11 z12 z13 z14 z15 n) v16
def Xbx(x0:Bo)(x1 x2:Int)(x3:Aa)(x4:Db):Br:=
 (X4l x0 x1).bind fun u3=>if((!u3)=true) then(none) else
 if(((x3.length:Int)<1)∨(16<(x3.length:Int))) then(none) else
 X4q (X3f x2 x3 x4) x3 x1 x0.1 x0.2.1 x0.2.2.1 x0.2.2.2 big 0
def X8i(x0:Int):Ap:=
 some (decide ((x0<0)∨(256≤x0)))
def X26(v64:Aa):Ed:=
 some ((ofB v64),true)
def X8j(kx70 rec98:Aa→Ed)(x10:Int)(i98:Nat)(v11:Aa):Ed:=
 (lidx v11 (i98:Int)).bind fun u12=>(lupd v11 (i98:Int) (wu8 x10)).bind fun u13=>rec98 u13
def X27(kx70:Aa→Ed):Aa→Nat→Aa→Ed
 | [],i98,v10=>kx70 v10
 |x11::xs,i98,v10=>X8j kx70 (X27 kx70 xs (i98+1)) x11 i98 v10
def X79(x0:Aa):Ed:=
 (X12 x0 X8i).bind fun u1=>if(u1=true) then(none) else
(lmk (x0.length:Int) 0).bind fun u8=>X27 X26 x0 0 u8
def X1d(z10:Int)(z11:ByteArray)(v12:Ab):Bs:=
 (X2z z10 v12).bind fun u13=>if((u13.2≠0)∨(u13.1≠z11)) then(none) else
 some (v12,0)
def X4f(rec10:Ab→Dq)(z11:Int)(z12:Ab)(v13:ByteArray)(v14:Int):Bs:=
 (lapp z12 ([(v13,v14)]:List (ByteArray×Int))).bind fun u15=>rec10 u15 (w64 (z11+1))
def Xb3(kx10:ByteArray→Dq)(z11 z12:ByteArray)(rec13:Int→Dq)(v14 v15:Int):Bs:=
 if(0≤v14) then((sidx z11 (w64 (33+v14))).bind fun u16=>rec13 (w64 (v14-1)) (orI .i64 (shlI .i64 v15 8) (w64 u16))) else
 kx10 z12 v15
def X8k(kx10:ByteArray→Dq)(z11 z12:ByteArray):Nat→Int→Dq
 |0,_,_=>none
 |n+1,v13,v14=>Xb3 kx10 z11 z12 (X8k kx10 z11 z12 n) v13 v14
def Xb4(kx10:Ab→Bs)(z11:Int)(z12:ByteArray)(rec13:Ab→Dq)(v14:Ab)(v15:Int):Bs:=
 if(v15<z11) then((ssub z12 (w64 (v15*37)) (w64 ((w64 (v15+1))*37))).bind fun u16=>(sidx u16 0).bind fun u17=>if((w64 u17)=0) then(kx10 v14) else
 if(32<(w64 u17)) then(none) else
(ssub u16 1 (w64 (1+(w64 u17)))).bind fun u18=>X8k (X4f rec13 v15 v14) u16 u18 big 3 0) else
 kx10 v14
def X28(kx10:Ab→Bs)(z11:Int)(z12:ByteArray):Nat→Ab→Dq
 |0,_,_=>none
 |n+1,v13,v14=>Xb4 kx10 z11 z12 (X28 kx10 z11 z12 n) v13 v14
def X7a(x0:Int)(x1:ByteArray):Bs:=
 (X60 x0).bind fun u1=>if((!u1)=true) then(none) else
 if((x1.size:Int)≠(w64 (x0*37))) then(none) else
 X28 (X1d x0 x1) x0 x1 big ([]:List (ByteArray×Int)) 0
def X88(rec56:Aq)(z95:ByteArray)(rec88:Aq)(x10:Ba):Aq:=
 if(x10.1=z95) then(some (x10.2,true,0)) else
 rec88
def X2j(rec56:Aq)(z95:ByteArray):Ab→Aq
 | []=>rec56
 |x10::xs=>X88 rec56 z95 (X2j rec56 z95 xs) x10
def X89(z62:ByteArray)(rec56:Aq)(x66:Ab):Aq:=
 X2j rec56 z62 x66
def X13(z62:ByteArray):En
 | []=>some (0,false,0)
 |x66::xs=>X89 z62 (X13 z62 xs) x66
def Xd9(x0:ByteArray)(x1:Bu):Aq:=
 (X51 x0).bind fun u1=>if((!u1)=true) then(none) else
 X13 x0 x1
def X5p(z10:ByteArray)(v11:Bu):Aq:=
 (Xd9 z10 v11).bind fun u12=>some (u12.1,u12.2.1,u12.2.2)
def X97(kx10:En)(z11:Int)(rec12:En)(x13:ByteArray)(v14:Bu):Aq:=
 (X7a z11 x13).bind fun u15=>if(u15.2≠0) then(none) else
(lapp v14 ([u15.1]:List (List (ByteArray×Int)))).bind fun u16=>rec12 u16
def X4c(kx10:En)(z11:Int):Ag→En
 | [],v12=>kx10 v12
 |x13::xs,v12=>X97 kx10 z11 (X4c kx10 z11 xs) x13 v12
def X5q(z10:Int)(z11:ByteArray)(v12:Ag):Aq:=
 X4c (X5p z11) z10 v12 ([]:List (List (ByteArray×Int)))
def X98(kx10 rec11:Ag→Aq)(x12:Ee)(i11:Nat)(v13:Ag):Aq:=
 (X79 x12.2.1).bind fun u14=>if((!u14.2)=true) then(none) else
(lidx v13 (i11:Int)).bind fun u15=>(lupd v13 (i11:Int) u14.1).bind fun u16=>rec11 u16
def X4d(kx10:Ag→Aq):As→Nat→Ag→Aq
 | [],i11,v12=>kx10 v12
 |x13::xs,i11,v12=>X98 kx10 (X4d kx10 xs (i11+1)) x13 i11 v12
def X5r(z49:Int)(z50:ByteArray)(z51:As):Aq:=
 (lmk (z51.length:Int) ByteArray.empty).bind fun u52=>X4d (X5q z49 z50) z51 0 u52
def X99(kx47 rec10:Aq)(x11:Ee):Aq:=
 if(x11.1≠0) then(none) else
 rec10
def X5s(kx47:Aq):As→Aq
 | []=>kx47
 |x10::xs=>X99 kx47 (X5s kx47 xs) x10
def Xcz(x0:Int)(x1:ByteArray)(x2:As):Aq:=
 X5s (X5r x0 x1 x2) x2
def X1v(z10:Int)(z11:Bool)(v12 v13 v14 v15 v16 v17 v18 v19 v20 v21 v22:Int):Ap:=
 some (decide (((!z11)=true)∧(z10=0)))
def X42(kx10:Bn)(z11:ByteArray)(z12:Int)(z13:Bool)(z14 z15 z16 z17 z18 z19 z20 z21 z22 z23 z24:Int)(rec25:Ap)(x26:Ba):Ap:=
 if(x26.1=z11) then(some (decide ((z13=true)∧(z12=x26.2)))) else
 rec25
def Xy(kx10:Bn)(z11:ByteArray)(z12:Int)(z13:Bool)(z14 z15 z16 z17 z18 z19 z20 z21 z22 z23 z24:Int):Ab→Ap
 | []=>kx10 z14 z15 z16 z17 z18 z19 z20 z21 z22 z23 z24
 |x25::xs=>X42 kx10 z11 z12 z13 z14 z15 z16 z17 z18 z19 z20 z21 z22 z23 z24 (Xy kx10 z11 z12 z13 z14 z15 z16 z17 z18 z19 z20 z21 z22 z23 z24 xs) x25
def Xz(z10:Aa)(z11:Ab)(z12:ByteArray)(v13:Db)(v14:Aa)(v15 v16 v17 v18 v19 v20 v21 v22 v23 v25 v26:Int):Ap:=
 (Xbx (v16,v17,v18,v19) v23 v22 z10 v13).bind fun u27=>(Xcz v26 z12 u27.1).bind fun u28=>if((u27.2≠0)∨(u28.2.2≠0)) then(none) else
 Xy (X1v u28.1 u28.2.1) z12 u28.1 u28.2.1 v15 v16 v17 v18 v19 v20 v21 v22 v23 v25 v26 z11
def X43(kx10:Db→Aa→Bn)(z11 z12 z13 z14 z15 z16 z17 z18:Int)(z19:Ac)(z20 z21:Int)(rec22:Db→Aa→Cn)(x23:Ac)(v24:Db)(v25:Aa)(v26:Int):Ap:=
 (X4e (v25,v26) (z12,z13,z14,z15) (z16,z17,z18,z19) x23 0 z11).bind fun u27=>(lapp v24 ([u27.1]:List (List (Bool×(List Int))))).bind fun u28=>rec22 u28 u27.2.2.1 u27.2.2.2
def X1w(kx10:Db→Aa→Bn)(z11 z12 z13 z14 z15 z16 z17 z18:Int)(z19:Ac)(z20 z21:Int):Co→Db→Aa→Cn
 | [],v22,v23,v24=>kx10 v22 v23 v24 z12 z13 z14 z15 z16 z17 z18 257 z20 z21
 |x25::xs,v22,v23,v24=>X43 kx10 z11 z12 z13 z14 z15 z16 z17 z18 z19 z20 z21 (X1w kx10 z11 z12 z13 z14 z15 z16 z17 z18 z19 z20 z21 xs) x25 v22 v23 v24
def X2l(z10:Aa)(z11:Co)(z12:Ab)(z13:ByteArray)(z14:Aa)(z15 z16 z17 z18 z19 z20 z21 z22:Int)(z23:Ac)(z24 z25 v26:Int):Ap:=
 X1w (Xz z10 z12 z13) v26 z16 z17 z18 z19 z20 z21 z22 z23 z24 z25 z11 ([]:List (List (Bool×(List Int)))) z14 z15
def X5z(z10:Ab)(z11:ByteArray)(z12 z13 z14 z15 z16 z17 z18 z19 z20:Int)(z21:Ac)(z22 z24:Int)(v25:Aa)(v26:Co)(v27:Int)(v28:Aa)(v29:Int):Ap:=
 if(((z12≠0)∨(z13≠0))∨(v27≠0)) then(none) else
(Xcw (z14,z15,z16,z17) 0 1).bind fun u30=>if(u30=true) then((X2l v25 v26 z10 z11 v28 v29 z14 z15 z16 z17 z18 z19 z20 z21 z22 z24) 1) else
(X2l v25 v26 z10 z11 v28 v29 z14 z15 z16 z17 z18 z19 z20 z21 z22 z24) 0
def X8l(x0:Aa):Ap:=
 (Xf2).bind fun u1=>if((!u1)=true) then(none) else
(Xfz x0).bind fun u8=>(Xa9 u8).bind fun u16=>(X9q 1 257 u16.1).bind fun u38=>if(u38.2≠0) then(none) else
(X6p u16.2.2).bind fun u53=>(Xb u53.2 7).bind fun u64=>(lidx ([⟨#[97,110,116]⟩,⟨#[98,101,101]⟩,⟨#[99,97,116]⟩,⟨#[100,111,103]⟩,⟨#[101,101,108]⟩,⟨#[102,111,120]⟩,⟨#[103,110,117]⟩]:List ByteArray) u64.1).bind fun u71=>(Xaw u16.1.1 u71).bind fun u76=>(Xbn u53.1 257 (u38.1.2.2.2.length:Int) (u76.1.length:Int)).bind fun u85=>(X8z u64.2 u85.1).bind fun u10=>(Xae u53.1 257 (u38.1.2.2.2.length:Int) u76.1 u10.1).bind fun u11=>(X5z u16.2.1 u71 u76.2 u85.2 u53.1.1 u53.1.2.1 u53.1.2.2.1 u53.1.2.2.2 u38.1.1 u38.1.2.1 u38.1.2.2.1 u38.1.2.2.2 u16.1.1.1 u16.1.2.1) u76.1 u11.1 u11.2.2 u10.2.1 u10.2.2
end Go.Proofs.YtmfppphlhgneeaaGreat
end

section
namespace Go.Proofs.YtmfppphlhgneeaaGreat
open Go.RowKit Go.MapKept
set_option linter.unusedSectionVars false
set_option linter.unusedSimpArgs false
section
variable{α β:Type}[DecidableEq α]
def mEs(f:α→Value)(g:β→Value):Nat→List (α×β)→List MapEntry
 |_,[]=>[]
 |n,x::l=>⟨f x.1,g x.2,n⟩::mEs f g (n+1) l
abbrev mObj(f:α→Value)(g:β→Value)(l:List (α×β)):Obj:= .map (mEs f g 0 l).toArray l.length
theorem Xni(f:α→Value)(g:β→Value)(x:α×β):∀(n:Nat)(l:List (α×β)),mEs f g n (l++[x])=mEs f g n l++[⟨f x.1,g x.2,n+l.length⟩]
 |n,[]=>rfl
 |n,y::l=>by
  simp only [List.cons_append,mEs,List.length_cons,Xni f g x (n+1) l]
  rw[show n+1+l.length=n+(l.length+1) by omega]
theorem Xnj(f:α→Value)(g:β→Value)(k:α)(v:β):∀(j n:Nat)(l:List (α×β)),j<l.length→(mEs f g n l).modify j (fun e=>{e with key:=f k,val:=g v})=mEs f g n (l.set j (k,v))
 |_,_,[],h=>by simp at h
 |0,n,y::l,_=>by simp [mEs,List.modify]
 |j+1,n,y::l,h=>by
  have:=Xnj f g k v j (n+1) l (by simpa using h)
  simp only [mEs,List.modify_succ_cons,List.set_cons_succ,this]
theorem Xj1{d:TypeDesc}{f:α→Value}{g:β→Value}(hK:∀a,IsKey d (f a))(hi:∀a b,f a=f b→a=b)(k:α)(v:β):∀(l:List (α×β))(n i:Nat),
  (mget l k=none∧Instr.findNow d (f k) (mEs f g n l) i=some none∧mput l k v=l++[(k,v)])∨
  ∃b j,mget l k=some b∧Instr.findNow d (f k) (mEs f g n l) i=some (some (i+j,g b))∧j<l.length∧mput l k v=l.set j (k,v)∧∃e,(mEs f g n l)[j]?=some e∧e.key=f k
 | [],n,i=> .inl ⟨rfl,rfl,rfl⟩
 | (a,b)::l,n,i=>by
  obtain⟨r,hr,hiff⟩:=sameNow_of_keys (hK k) (hK a)
  by_cases h:a=k
  ·subst h
   have:r=true:=hiff.2 rfl
   subst this
   exact .inr ⟨b,0,by simp [mget],by simp [mEs,Instr.findNow,hr],by simp,by simp [mput],_,rfl,rfl⟩
  ·have hr2:r=false:=by
    cases r with
    |false=>rfl
    |true=>exact absurd (hi _ _ (hiff.1 rfl)).symm h
   subst hr2
   rcases Xj1 (g:=g) hK hi k v l (n+1) (i+1) with ⟨h1,h2,h3⟩ | ⟨b',j,h1,h2,h3,h4,e,h5,h6⟩
   ·exact .inl ⟨by simp [mget,h,h1],by simp [mEs,Instr.findNow,hr,h2],by simp [mput,h,h3]⟩
   ·exact .inr ⟨b',j+1,by simp [mget,h,h1],by simp [mEs,Instr.findNow,hr,h2];omega,by simpa using h3,by simp [mput,h,h4],e,by simpa [mEs] using h5,h6⟩
theorem Xpb{P:Program}{w:World}{t kt et:TypeId}{d:TypeDesc}{f:α→Value}{g:β→Value}(hm:P.underlying t=some (.map kt et))(hd:P.underlying kt=some d)(hK:∀a,IsKey d (f a))(hi:∀a b,f a=f b→a=b){r:Nat}{l:List (α×β)}(hb:w.heap[r]?=some (mObj f g l))(k:α)(v:β):
  (Instr.mapUpdate t (.map (some r)) (f k) (g v)).run P w= .ok () {w with heap:=w.heap.setIfInBounds r (mObj f g (mput l k v))}:=by
 rcases Xj1 hK hi (g:=g) k v l 0 0 with ⟨_,h2,h3⟩ | ⟨b,j,_,h2,h3,h4,e,h5,h6⟩
 ·rw[h3]
  simp [Instr.mapUpdate,run_underlying hm,MapKept.run_getObj_map hb,MapKept.run_checkKey hd (hK k),MapKept.run_findKey hd h2,MapKept.run_setObj_map _ hb]
  rw[mObj,Xni,List.length_append,Nat.zero_add];rfl
 ·rw[h4]
  have hk:(((mEs f g 0 l).toArray[j]?).map (·.key)).getD (f k)=f k:=by simp [h5,h6]
  simp only [Nat.zero_add] at h2
  have e2:(mEs f g 0 l).toArray.modify j (fun e=>{e with key:=f k,val:=g v})=(mEs f g 0 (l.set j (k,v))).toArray:=by
   rw[← Xnj f g k v j 0 l h3]
   apply Array.ext'
   simp
  simp only [Instr.mapUpdate,Sem.run_bind,run_underlying hm,Result.andThen_ok,MapKept.run_getObj_map hb,MapKept.run_checkKey hd (hK k),MapKept.run_findKey hd h2,hk,MapKept.run_keyThatStays (hK k),e2]
  rw[mObj,List.length_set]
  exact MapKept.run_setObj_map _ hb
theorem Xpc{P:Program}{w:World}{t kt et:TypeId}{d:TypeDesc}{f:α→Value}{g:β→Value}{z:β}(hm:P.underlying t=some (.map kt et))(hd:P.underlying kt=some d)(hK:∀a,IsKey d (f a))(hi:∀a b,f a=f b→a=b)(hz:(P.info? et).bind (·.zero)=some (g z)){r:Nat}{l:List (α×β)}(hb:w.heap[r]?=some (mObj f g l))(k:α):
  (Instr.lookup t (.map (some r)) (f k) false).run P w= .ok (g ((mget l k).getD z)) w:=by
 have hzr:(zeroValue et).run P w= .ok (g z) w:=by
  cases h1:P.info? et with
  |none=>rw[h1] at hz;cases hz
  |some i=>
   rw[h1] at hz
   cases h2:i.zero with
   |none=>rw[Option.bind_some,h2] at hz;cases hz
   |some u=>
    rw[Option.bind_some,h2] at hz
    obtain rfl:=Option.some.inj hz
    simp [zeroValue,typeInfo,h1,h2]
 rcases Xj1 hK hi (g:=g) k z l 0 0 with ⟨h1,h2,_⟩ | ⟨b,j,h1,h2,_⟩
 ·simp [Instr.lookup,run_underlying hm,MapKept.run_getObj_map hb,MapKept.run_checkKey hd (hK k),MapKept.run_findKey hd h2,h1,hzr]
 ·simp [Instr.lookup,run_underlying hm,MapKept.run_getObj_map hb,MapKept.run_checkKey hd (hK k),MapKept.run_findKey hd h2,h1]
end
section
variable{P:Program}{c:Cx}{R:Value→World→Prop}{nt:Nat}{w0:World}{S0:List Nat}{df:List Deferred}{ρ ρ':Env}{Fs Fs':List Hp}{bl bl':Blks}{sl sl':List OwnS}
 {K K':Act→World→Prop} {k:List Item} {ty:TypeId} {α β:Type} [DecidableEq α]
theorem Cov.mkMap{d:Nat}{t:TypeId}(f:α→Value)(g:β→Value)(hs:Stp P K' ⟨some d, .makeMap t none,ty,none⟩ K)(hd:Nat.blt d nt=true)
  (hk:∀b,w0.heap.size≤b→Cov nt w0 S0 df ((d, .map (some b))::ρ) Fs ((b,mObj f g [])::bl) sl K):Cov nt w0 S0 df ρ Fs bl sl K':=
 .new_ (fv:=fun b=> .map (some b)) hs (fun _ _ _ _=>X8m (s:=Instr.makeMap t none) rfl) hd hk
theorem Cov.mapPut(i:Nat){f:α→Value}{g:β→Value}{l:List (α×β)}{x:α}{y:β}{t kt et:TypeId}{dsc:TypeDesc}{m p q:Operand}{b:Nat}{op:Op}(hop:op= .mapUpdate t m p q∨op= .insert t m p q)(hs:Stp P K' ⟨none,op,ty,none⟩ K)
  (hm:ev ρ m=some (.map (some b))) (hp:ev ρ p=some (f x)) (hq:ev ρ q=some (g y)) (hb:bl[i]?=some (b,mObj f g l)) (ht:P.underlying t=some (.map kt et)) (hd:P.underlying kt=some dsc) (hK:∀a,IsKey dsc (f a)) (hi:∀a b,f a=f b→a=b)
  (bl':Blks) (hbl:bl.set i (b,mObj f g (mput l x y))=bl') (hk:Cov nt w0 S0 df ρ Fs bl' sl K):Cov nt w0 S0 df ρ Fs bl sl K':=fun a w hf hinv=>by
 refine hs a w ?_
 have hbw:w.heap[b]?=some (mObj f g l):=hinv.mem.own _ (List.mem_of_getElem? hb)
 have hr:=Xpb (P:=P) (w:=w) ht hd hK hi hbw x y
 have hrun:(execOp a.eval (⟨none,op,ty,none⟩:OpX).oper).run P w= .ok .skip {w with heap:=w.heap.setIfInBounds b (mObj f g (mput l x y))}:=by
  rcases hop with rfl |rfl
  ·refine Xn5 (s:=Instr.mapUpdate t (a.eval m) (a.eval p) (a.eval q)) ?_
   rw[X15 hf hm,X15 hf hp,X15 hf hq];exact hr
  ·refine Xn5 (s:=Instr.mapUpdate t (a.eval m) (a.eval p) (a.eval q)) ?_
   rw[X15 hf hm,X15 hf hp,X15 hf hq];exact hr
 unfold Oper.wp
 rw[hrun]
 subst hbl
 have hlt:b<w.heap.size:=(Array.getElem?_eq_some_iff.1 hbw).1
 exact hk _ _ (hf.put_none _) (hinv.set i hb ⟨rfl,rfl,rfl,by simp,fun z _ hz=>by simp only [List.mem_singleton] at hz;simp [Ne.symm hz]⟩ (by simp [hlt]))
theorem QOp.mapGet(i:Nat){f:α→Value}{g:β→Value}{l:List (α×β)}{x:α}{z:β}{t kt et:TypeId}{dsc:TypeDesc}{m p:Operand}{b:Nat}(hm:ev ρ m=some (.map (some b)))(hp:ev ρ p=some (f x))(hb:bl[i]?=some (b,mObj f g l))(ht:P.underlying t=some (.map kt et))(hd:P.underlying kt=some dsc)
  (hK:∀a,IsKey dsc (f a)) (hi:∀a b,f a=f b→a=b) (hz:(P.info? et).bind (·.zero)=some (g z)):QOp P ρ Fs bl sl (.lookup t m p false) ty (g ((mget l x).getD z)):= .of fun e he w hmem=>by
 have hbw:w.heap[b]?=some (mObj f g l):=hmem.own _ (List.mem_of_getElem? hb)
 refine X8m (s:=Instr.lookup t (e m) (e p) false) ?_
 rw[he m _ hm,he p _ hp]
 exact Xpc ht hd hK hi hz hbw x
end
theorem Xpu:∀a:ByteArray,IsKey .string (.string a):=fun _=>trivial
theorem Xpv:∀a b:ByteArray,Value.string a=Value.string b→a=b:=fun _ _ h=>by cases h;rfl
end Go.Proofs.YtmfppphlhgneeaaGreat
end

section
namespace Go.Proofs.YtmfppphlhgneeaaGreat
open Go.RowKit
section
variable{P:Program}{c:Cx}{R:Value→World→Prop}{nt:Nat}{w0:World}{S0:List Nat}{df:List Deferred}{ρ ρ':Env}{Fs Fs' Fin B:List Hp}{bl bl':Blks}{sl sl':List OwnS}
 {K K':Act→World→Prop} {k:List Item} {ty:TypeId} {G:Hp} {α:Type}
theorem QOp.cap{t el:TypeId}{x:Operand}{a:Option Addr}{n m:Nat}(hx:ev ρ x=some (.slice a n m))(ht:slOf P t=some el):QOp P ρ Fs bl sl (.call ⟨.builtin .cap,#[x],#[t]⟩) ty (.int .i64 m):= .of fun e he w _=>by
 refine X9i (X8m ?_)
 have hu:=X8n ht
 simp [Builtin.cap_,he x _ hx,run_underlying hu,goInt]
end
end Go.Proofs.YtmfppphlhgneeaaGreat
end

section
namespace Go.Proofs.YtmfppphlhgneeaaGreat
open Go.RowKit
def YieldsX(P:Program)(y:Value)(V:Nat→List Value→Prop)(Fs:List Hp)(𝒢 :Nat→Guest→Prop)(ℰ :Guest→Prop):Prop:=
 ∃l,y= .func (.yield l) #[] #[]∧∀(i:Nat)(v:List Value),V i v→∀R, 𝒢 i R→∀w,(∀G∈Fs,HpIn G w)→R.holds w→
  ∃f tmps as1 body,(Instr.yield l v.toArray).run P w= .ok (.round l f tmps as1 body) w∧
   RoundV P l f tmps as1 body w fun r w'=>∃R',((r= .bool true∧ 𝒢 (i+1) R')∨(r= .bool false∧ ℰ R'))∧R'.holds w'∧Keep w R.blks w'∧∀b∈R'.blks,b∈R.blks∨w.heap.size≤b
def IterX(P:Program)(f:FuncId)(cap:List Value)(Fs:List Hp)(N:Nat)(V:Nat→List Value→Prop):Prop:=
 ∀(y:Value)(𝒢 :Nat→Guest→Prop)(ℰ :Guest→Prop)(R0:Guest),YieldsX P y V Fs 𝒢 ℰ → 𝒢 0 R0→RetG P f (y::cap).toArray Fs [] [.g R0] fun _ _ bl sl=>bl=[]∧∃R,(𝒢 N R∨ ℰ R)∧sl=[.g R]
def IterRX(P:Program){α:Type}(Y:Yr α)(f:FuncId)(cap:List Value)(G:Hp)(l:List α):Prop:=
 ∀Fs G1,HpLe G G1→G1∈Fs→IterX P f cap Fs l.length (fun i v=>∃x,l[i]?=some x∧Y.r G1 v x)
theorem IterRX.mono{P:Program}{α:Type}{Y:Yr α}{f:FuncId}{cap:List Value}{G G':Hp}{l:List α}(hg:HpLe G G')(h:IterRX P Y f cap G l):IterRX P Y f cap G' l:=fun Fs G1 h1 h2=>h Fs G1 (hg.trans h1) h2
def doneObj(f:FuncId)(tmps:Array Value)(ps:Array Tmp)(as1 body:Code)(defers:Nat)(J:Code):Obj:= .loop {state:= .done,pending:=some J,fn:=f,tmps:=tmps,params:=ps,assign:=as1,body:=body,defers:=defers}
def RoundX{α β:Type}(FsD:α→List Hp)(blD:α→Blks)(slD:α→List OwnS)(FsE:β→List Hp)(blE:β→Blks)(slE:β→List OwnS)(FsS FinR:List Hp)(I1:α→Prop)(IE:β→Prop)(l:Nat)(lo:Obj)(le:β→Obj)(w1:World)(S1:List Nat)(r:Value)(w':World):Prop:=
 (r= .bool true∧∃x',I1 x'∧(∀G∈FsD x',Bd w1 S1 FinR G)∧Inv w1 S1 (FsD x'++FsS) (blD x'++[(l,lo)]) (slD x') w')∨
 (r= .bool false∧∃y,IE y∧(∀G∈FsE y,Bd w1 S1 FinR G)∧Inv w1 S1 (FsE y++FsS) (blE y++[(l,le y)]) (slE y) w')
section
variable{P:Program}{c:Cx}{R0:Value→World→Prop}{nt:Nat}{w0:World}{S0:List Nat}{df:List Deferred}{ρ ρ':Env}{Fs Fs' Fin:List Hp}{bl bl' bls:Blks}{sl sl' sls:List OwnS}
 {K K':Act→World→Prop} {k:List Item} {ty:TypeId}
theorem Cov.yieldX{y:Value}{V:Nat→List Value→Prop}{F0:List Hp}{𝒢 :Nat→Guest→Prop}{ℰ :Guest→Prop}{i:Nat}{R:Guest}{v:List Value}{d:Nat}{fop:Operand}{args:Array Operand}{ts:Array TypeId}{os:List OpX}
  (hy:YieldsX P y V F0 𝒢 ℰ) (hi:V i v) (hR: 𝒢 i R) (hF:∀G∈F0,G∈Fs) (hf:ev ρ fop=some y) (ha:args.toList.map (ev ρ)=v.map some) (hd:Nat.blt d nt=true)
  (hk:∀R', 𝒢 (i+1) R'→Cov nt w0 S0 df ((d, .bool true)::ρ) Fs bl (.g R'::sl) (RO P c R0 os k))
  (he:∀R', ℰ R'→Cov nt w0 S0 df ((d, .bool false)::ρ) Fs bl (.g R'::sl) (RO P c R0 os k)):
  Cov nt w0 S0 df ρ Fs bl (.g R::sl) (RO P c R0 (⟨some d, .call ⟨.value fop,args,ts⟩,ty,none⟩::os) k):=fun a w hfi hinv=>by
 simp only [RO,wantedT,if_true]
 refine .inr ?_
 obtain⟨l,rfl,hy⟩:=hy
 obtain⟨f,tmps,as1,body,hr,hround⟩:=hy i v hi R hR w (fun G hG=>hinv.mem.fs G (hF G hG)) (hinv.mem.slh _ List.mem_cons_self)
 have key:∀(l:List Operand)(vl:List Value),l.map (ev ρ)=vl.map some→l.map a.eval=vl:=by
  intro l
  induction l with
  |nil=>intro vl h;cases vl<;>simp at h ⊢
  |cons x l ih=>
   intro vl h
   cases vl with
   |nil=>simp at h
   |cons v vl=>
    simp only [List.map_cons,List.cons.injEq] at h
    simp only [List.map_cons,X15 hfi h.1,ih vl h.2]
 have h1:args.map a.eval=v.toArray:=by rw[← Array.toList_inj];simpa using key _ _ ha
 refine⟨l,f,tmps,as1,body,w,?_,?_⟩
 ·simp only [OpX.oper,execOp,resolve,h1,X15 hfi hf,Deferred.ofValue]
  simp only [Sem.run_bind,Sem.run_pure,Result.andThen_ok,invoke]
  simpa using hr
 ·intro cl cs
  obtain⟨r,w',⟨R',h2,h3,h4,h5⟩,hs⟩:=hround cl cs
  have hinv':=hinv.set_s 0 (s:= .g R) (s':= .g R') rfl h4 h3 R'.nodup h5
  rcases h2 with ⟨rfl,h2⟩ | ⟨rfl,h2⟩
  ·exact⟨.bool true,w',hk R' h2 _ w' (hfi.put hd _) hinv',hs⟩
  ·exact⟨.bool false,w',he R' h2 _ w' (hfi.put hd _) hinv',hs⟩
section
variable{α β:Type}{FsD:α→List Hp}{blD:α→Blks}{slD:α→List OwnS}{FsE:β→List Hp}{blE:β→Blks}{slE:β→List OwnS}{FsS FinR:List Hp}{I1:α→Prop}{IE:β→Prop}{l:Nat}{le:β→Obj}{f:FuncId}{tmps:Array Value}{ps:Array Tmp}{as1 body:Code}{D:Nat}
theorem Cov.round_endX(x':α)(j:Nat)(hro:c.ro=some l)(hb:bl[j]?=some (l,loopObj .busy f tmps ps as1 body D))(hI:I1 x')
  (hbl:bl.set j (l,loopObj .ready f tmps ps as1 body D)=blD x'++[(l,loopObj .ready f tmps ps as1 body D)]) (hsl:sl=slD x') (hFs:∀G∈FsD x'++FsS,G∈Fs) (hbd:∀G∈FsD x',Bd w0 S0 FinR G):
  Cov nt w0 S0 [] ρ Fs bl sl (Run P c (RoundX FsD blD slD FsE blE slE FsS FinR I1 IE l (loopObj .ready f tmps ps as1 body D) le w0 S0) []):=fun a w hf hi=>by
 subst hsl
 have hl:=hi.mem.own _ (List.mem_of_getElem? hb)
 have hr:=run_endRound (P:=P) (w:=w) (l:=l) none hl
 have hi2:=hi.set j hb (Keep.putObj w l (loopObj .ready f tmps ps as1 body D)) (World.putObj_heap_same (Xc4 hl))
 rw[hbl] at hi2
 have hi3:=hi2.change (Fs':=FsD x'++FsS) (bl':=blD x'++[(l,loopObj .ready f tmps ps as1 body D)]) (sl':=slD x') [] (by simp) (Keep.refl _ []) (fun G hG=> .inl (hFs G hG)) hi2.mem.own hi2.mem.slh hi2.nodup (fun _ hb=> .inl hb)
 intro cs hcs
 refine⟨.bool true,_, .inl ⟨rfl,x',hI,hbd,hi3⟩,?_⟩
 unfold Done
 simp only [hro]
 cases cs with
 |nil=>exact absurd rfl (hcs (by simp [hro]))
 |cons cl cs=>
  refine⟨cl,cs,rfl, .one ?_⟩
  exact stepR_round_end (P:=P) (b:=c.fr a []) (a:=a) (c:=cl) (cs:=cs) (w:=w) hro rfl hr
end
def GstE{β:Type}(FsE:β→List Hp)(blE:β→Blks)(slE:β→List OwnS)(FsS:List Hp)(l:Nat)(le:β→Obj)(w0:World)(S0:List Nat)(IE:β→Prop)(R:Guest):Prop:=∃x,IE x∧PureOK FsE blE slE FsS l (le x) w0 S0 x∧∃B hB hnd,R=mkGuest FsE blE slE FsS l (le x) x B hB hnd
theorem Xnk{γ:Type}{FsX:γ→List Hp}{blX:γ→Blks}{slX:γ→List OwnS}{FsD1 FsS:List Hp}{l:Nat}{lo:Obj}{x':γ}{w w':World}{bin:List Nat}{B:List Nat}(hSB:∀b∈bin,b∈B)(hsz:w0.heap.size≤w.heap.size)
  (hbin:∀b∈bin,b∈S0∨w0.heap.size≤b) (hF1:∀G∈FsD1,Bd w0 S0 FsS G) (hFB:∀G∈FsD1,∀b o,G b=some o→(∃F∈FsS,(F b).isSome=true)∨b∈B)
  (hbd:∀G∈FsX x',Bd w bin (FsD1++FsS) G) (hinv':Inv w bin (FsX x'++FsS) (blX x'++[(l,lo)]) (slX x') w'):
  PureOK FsX blX slX FsS l lo w0 S0 x'∧∃B' hB' hnd',(mkGuest FsX blX slX FsS l lo x' B' hB' hnd').holds w'∧Keep w B w'∧∀b∈B',b∈B∨w.heap.size≤b:=by
 obtain⟨B',hB',hnd',hh',hg'⟩:=Xgp hinv'
 refine⟨⟨hinv'.nodup,hinv'.apart,fun b hb=>?_,fun G hG b o ho=>?_⟩,B',hB',hnd',hh',⟨hinv'.keep.os,hinv'.keep.tape,hinv'.keep.output,hinv'.keep.size,fun b hb hn=>hinv'.keep.block b hb (fun h=>hn (hSB b h))⟩,fun b hb=>?_⟩
 ·rcases hinv'.mine b hb with h |h
  ·exact hbin b h
  ·exact .inr (Nat.le_trans hsz h)
 ·rcases hbd G hG b o ho with h |h | ⟨F,hF,hf⟩
  ·exact .inl (Nat.le_trans hsz h)
  ·rcases hbin b h with h |h
   ·exact .inr (.inl h)
   ·exact .inl h
  ·rcases List.mem_append.1 hF with hF |hF
   ·exact hF1 F hF b o hf
   ·exact .inr (.inr ⟨F,hF,hf⟩)
 ·rcases hg' b hb with h | ⟨⟨G,hG,hs⟩,hn⟩
  ·rcases hinv'.mine b h with h |h
   ·exact .inl (hSB b h)
   ·exact .inr h
  ·obtain⟨o,ho⟩:=Option.isSome_iff_exists.1 hs
   rcases hbd G hG b o ho with h |h | ⟨F,hF,hf⟩
   ·exact .inr h
   ·exact .inl (hSB b h)
   ·rcases List.mem_append.1 hF with hF |hF
    ·rcases hFB F hF b o hf with h |h
     ·exact absurd h hn
     ·exact .inl h
    ·exact absurd ⟨F,hF,by rw[hf];rfl⟩ hn
section
variable{α β:Type}{FsD:α→List Hp}{blD:α→Blks}{slD:α→List OwnS}{FsE:β→List Hp}{blE:β→Blks}{slE:β→List OwnS}{FsS:List Hp}{l:Nat}{lo:Obj}{le:β→Obj}
theorem Xmu{c:Cx}{V:Nat→List Value→Prop}{ps:Array Tmp}{as1 body:Code}{tmps:Array Value}{D:Nat}(I:Nat→α→Prop)(IE:β→Prop)(hlo:lo=loopObj .ready c.fn tmps ps as1 body D)(hlb:w0.heap.size≤l)
  (hps:∀i v,V i v→v.length=ps.size) (hpt:ps.all (Nat.blt · nt)=true) (hfit:Fits nt [] ρ {tmps:=tmps,defers:=[]})
  (round:∀(i:Nat)(x:α)(v:List Value),V i v→I i x→∀w1 S1,w0.heap.size≤w1.heap.size→Cov nt w1 S1 [] ((ps.toList.zip v).reverse++ρ) (FsD x++FsS) (blD x++[(l,lo)]) (slD x)
   (Run P ⟨c.fn,some l⟩ (RoundX FsD blD slD FsE blE slE FsS (FsD x++FsS) (I (i+1)) IE l lo le w1 S1) [.code as1, .beginRound, .code body])):
  YieldsX P (.func (.yield l) #[] #[]) V FsS (Gst FsD blD slD FsS l lo w0 S0 I) (GstE FsE blE slE FsS l le w0 S0 IE):=by
 refine⟨l,rfl,fun i v hv R hR w hFs hh=>?_⟩
 obtain⟨x,hI,hp,B,hB,hnd,rfl⟩:=hR
 obtain⟨hh1,hh2,hh3,hh4⟩:=hh
 have hl:w.heap[l]?=some lo:=hh2 (l,lo) (List.mem_append_right _ List.mem_cons_self)
 have hl':=hl
 rw[hlo] at hl'
 have hvl:=hps i v hv
 refine⟨_,_,_,_,run_yield (P:=P) (args:=v.toArray) hl' (by simpa using hvl),fun cl cs=>?_⟩
 have hfold:((ps.zip v.toArray).foldl (fun tmps (t,a)=>tmps.setIfInBounds t a) tmps)=(ps.toList.zip v).foldl (fun t p=>t.setIfInBounds p.1 p.2) tmps:=by
  rw[← Array.foldl_toList]
  simp
 have hfit2:=Xfl (ps.toList.zip v) (ds:=[]) hfit (fun p hp=>by
  have h1:=(List.of_mem_zip hp).1
  have h2:=Array.all_eq_true'.1 hpt p.1 (by simpa using h1)
  exact h2) rfl
 have hSB:∀b∈blks (blD x++[(l,lo)]) (slD x),b∈B:=fun b hb=>hB b (.inl hb)
 have hinv:Inv w (blks (blD x++[(l,lo)]) (slD x)) (FsD x++FsS) (blD x++[(l,lo)]) (slD x) w:=
  ⟨⟨fun G hG=>by
   rcases List.mem_append.1 hG with hG |hG
   ·intro b o hb
    rcases hh1 G hG b o hb with ⟨F,hF,hf⟩ | ⟨_,h⟩
    ·exact hFs F hF b o hf
    ·exact h
   ·exact hFs G hG,hh2,hh3⟩,Keep.refl _ _,hp.1,fun b hb=> .inl hb,hp.2.1⟩
 have hsz:w0.heap.size≤w.heap.size:=by have:=Xc4 hl;omega
 have hFB:∀G∈FsD x,∀b o,G b=some o→(∃F∈FsS,(F b).isSome=true)∨b∈B:=fun G hG b o ho=>by
  rcases hh1 G hG b o ho with ⟨F,hF,hf⟩ | ⟨h,_⟩
  ·exact .inl ⟨F,hF,by rw[hf];rfl⟩
  ·exact .inr h
 obtain⟨r,w',hX,hd⟩:=round i x v hv hI w _ hsz _ w hfit2 hinv (cl::cs) (by simp)
 have hd2:Steps P (lone (Frame.round l c.fn ((ps.zip v.toArray).foldl (fun tmps (t,a)=>tmps.setIfInBounds t a) tmps) as1 body .normal) (cl::cs) w) (lone (cl.finish r) cs w'):=by
  unfold Done at hd
  simp only at hd
  obtain⟨caller,cs',he,hs⟩:=hd
  obtain⟨rfl,rfl⟩:=List.cons.inj he
  have:Frame.round l c.fn ((ps.zip v.toArray).foldl (fun tmps (t,a)=>tmps.setIfInBounds t a) tmps) as1 body .normal=(⟨c.fn,some l⟩:Cx).fr {tmps:=(ps.toList.zip v).foldl (fun t p=>t.setIfInBounds p.1 p.2) tmps,defers:=[]} [.code as1, .beginRound, .code body]:=by
   rw[hfold];rfl
  rw[this]
  exact hs
 rcases hX with ⟨rfl,x',hI',hbd,hinv'⟩ | ⟨rfl,y',hI',hbd,hinv'⟩
 ·obtain⟨hp',B',hB',hnd',h1,h2,h3⟩:=Xnk hSB hsz hp.2.2.1 hp.2.2.2 hFB hbd hinv'
  exact⟨.bool true,w',⟨mkGuest FsD blD slD FsS l lo x' B' hB' hnd', .inl ⟨rfl,x',hI',hp',B',hB',hnd',rfl⟩,h1,h2,h3⟩,hd2⟩
 ·obtain⟨hp',B',hB',hnd',h1,h2,h3⟩:=Xnk hSB hsz hp.2.2.1 hp.2.2.2 hFB hbd hinv'
  exact⟨.bool false,w',⟨mkGuest FsE blE slE FsS l (le y') y' B' hB' hnd', .inr ⟨rfl,y',hI',hp',B',hB',hnd',rfl⟩,h1,h2,h3⟩,hd2⟩
end
theorem Xkg{γ:Type}{FsX:γ→List Hp}{blX:γ→Blks}{slX:γ→List OwnS}{FsS:List Hp}{x:γ}{lo:Obj}{l:Nat}{Fr:Hp}{w3:World}{B:List Nat}{hB:∀b,gset FsX blX slX FsS l lo x b→b∈B}{hnd:B.Nodup}
  (hi6:Inv w0 S0 (Fr::FsS) ([]++bls) ([.g (mkGuest FsX blX slX FsS l lo x B hB hnd)]++sls) w3) (hpx:PureOK FsX blX slX FsS l lo w0 S0 x) (o':Obj):w3.heap[l]?=some lo∧Inv w0 S0 (FsX x++FsS) (blX x++bls) (slX x++sls) (w3.putObj l o'):=by
 obtain⟨hh1,hh2,hh3,hh4⟩:=hi6.mem.slh _ (List.mem_cons_self)
 have hpb6:∀b,b∈B∨b∈blks bls sls→b∈blks ([]++bls) ([OwnS.g (mkGuest FsX blX slX FsS l lo x B hB hnd)]++sls):=fun b hb=>by
  refine(X1i _ _ _ _ _).2 (hb.imp (fun h=>?_) id)
  simpa [blks,OwnS.blocks,mkGuest] using h
 have hnd6:=(X7e [] bls [OwnS.g (mkGuest FsX blX slX FsS l lo x B hB hnd)] sls).nodup_iff.1 hi6.nodup
 have hgb:blks [] [OwnS.g (mkGuest FsX blX slX FsS l lo x B hB hnd)]=B:=by simp [blks,OwnS.blocks,mkGuest]
 rw[hgb,List.nodup_append] at hnd6
 have hxB:∀b∈blks (blX x++[(l,lo)]) (slX x),b∈B:=fun b hb=>hB b (.inl hb)
 have hi7:Inv w0 S0 (FsX x++FsS) ((blX x++[(l,lo)])++bls) (slX x++sls) w3:=by
  refine hi6.change [] (by simp) (Keep.refl w3 []) (fun G hG=>?_) (fun p hp=>?_) (fun s hs=>?_) ?_ (fun b hb=> .inl ?_)
  ·rcases List.mem_append.1 hG with hG |hG
   ·refine .inr ⟨fun b o hb=>?_,fun b hb=>?_⟩
    ·rcases hh1 G hG b o hb with ⟨F,hF,hf'⟩ | ⟨_,h⟩
     ·exact hi6.mem.fs F (List.mem_cons_of_mem _ hF) b o hf'
     ·exact h
    ·rcases(X1i _ _ _ _ _).1 hb with h |h
     ·exact hpx.2.1 b h G (List.mem_append_left _ hG)
     ·cases hg':G b with
      |none=>rfl
      |some o=>
       rcases hh1 G hG b o hg' with ⟨F,hF,hf'⟩ | ⟨h1,_⟩
       ·rw[hi6.apart b (hpb6 b (.inr h)) F (List.mem_cons_of_mem _ hF)] at hf';cases hf'
       ·exact absurd rfl (hnd6.2.2 b h1 b h)
   ·exact .inl (List.mem_cons_of_mem _ hG)
  ·rcases List.mem_append.1 hp with hp |hp
   ·exact hh2 p hp
   ·exact hi6.mem.own p (List.mem_append_right _ hp)
  ·rcases List.mem_append.1 hs with hs |hs
   ·exact hh3 s hs
   ·exact hi6.mem.slh s (List.mem_append_right _ hs)
  ·rw[(X7e _ _ (slX x) sls).nodup_iff,List.nodup_append]
   exact⟨hpx.1,hnd6.2.1,fun a' ha b hb e=>hnd6.2.2 a' (hxB a' ha) b hb e⟩
  ·rcases(X1i _ _ _ _ _).1 hb with h |h
   ·exact hpb6 b (.inl (hxB b h))
   ·exact hpb6 b (.inr h)
 have hl3:w3.heap[l]?=some lo:=hi7.mem.own (l,lo) (List.mem_append_left _ (List.mem_append_right _ List.mem_cons_self))
 refine⟨hl3,?_⟩
 have hp8:(blks ((blX x++[(l,lo)])++bls) (slX x++sls)).Perm (l::blks (blX x++bls) (slX x++sls)):=by
  simp only [blks,List.append_assoc,List.map_append,List.map_cons,List.map_nil,List.cons_append,List.nil_append]
  exact List.perm_middle
 have hnd8:=List.nodup_cons.1 (hp8.nodup_iff.1 hi7.nodup)
 have hk:∀b∈blks (blX x++bls) (slX x++sls),(w3.putObj l o').heap[b]?=w3.heap[b]?:=fun b hb=>
  World.putObj_heap_other (fun e=>hnd8.1 (e▸hb))
 refine hi7.change [l] (fun b hb=>?_) (Keep.putObj w3 _ _) (fun G hG=> .inl hG) (fun p hp=>?_) (fun s hs=>?_) hnd8.2 (fun b hb=> .inl (hp8.mem_iff.2 (List.mem_cons_of_mem _ hb)))
 ·simp only [List.mem_singleton] at hb
  subst hb
  exact hp8.mem_iff.2 List.mem_cons_self
 ·rw[hk p.1 (List.mem_append_left _ (List.mem_map.2 ⟨p,hp,rfl⟩))]
  refine hi7.mem.own p ?_
  rcases List.mem_append.1 hp with hp |hp
  ·exact List.mem_append_left _ (List.mem_append_left _ hp)
  ·exact List.mem_append_right _ hp
 ·exact OwnS.same (hi7.mem.slh s hs) fun b hb=>hk b (List.mem_append_right _ (List.mem_flatMap.2 ⟨s,hs,hb⟩))
theorem rangeCore{α β:Type}{FsD:α→List Hp}{blD:α→Blks}{slD:α→List OwnS}{FsE:β→List Hp}{blE:β→Blks}{slE:β→List OwnS}{J:β→Code}{I:Nat→α→Prop}{IE:β→Prop}{x0:α}{g:Operand}{ps:Array Tmp}{as1 body:Code}{f:FuncId}{cap:List Value}{N:Nat}{V:Nat→List Value→Prop}{FsS:List Hp}
  {a:Act} {w w1:World} {D:Nat} {mark:List Deferred} {l:Nat} (hf:Fits nt df ρ a) (he:(Instr.enterLoop c.fn a.tmps ps as1 body c.ro).run P w= .ok (l,mark) w1)
  (hi3:Inv w0 S0 (FsD x0++FsS) ((blD x0++[(l,loopObj .ready c.fn a.tmps ps as1 body D)])++bls) (slD x0++sls) w1) (hlb:w0.heap.size≤l)
  (hg:ev ρ g=some (.func (.func f) #[] cap.toArray)) (hcall:∀args w,(callFunc f args).run P w= .ok (.enter f args) w) (hF0:∀G∈FsD x0,∀b,G b=none)
  (hit:IterX P f cap FsS N V) (hps:∀i v,V i v→v.length=ps.size) (hpt:ps.all (Nat.blt · nt)=true) (hI:I 0 x0)
  (round:∀(i:Nat)(x:α)(v:List Value),V i v→I i x→∀w1 S1,w0.heap.size≤w1.heap.size→
   Cov nt w1 S1 [] ((ps.toList.zip v).reverse++ρ) (FsD x++FsS) (blD x++[(l,loopObj .ready c.fn a.tmps ps as1 body D)]) (slD x)
    (Run P ⟨c.fn,some l⟩ (RoundX FsD blD slD FsE blE slE FsS (FsD x++FsS) (I (i+1)) IE l (loopObj .ready c.fn a.tmps ps as1 body D) (fun y=>doneObj c.fn a.tmps ps as1 body D (J y)) w1 S1) [.code as1, .beginRound, .code body]))
  (after:∀x,I N x→(∀G∈FsD x,Bd w0 S0 FsS G)→Cov nt w0 S0 (mark++df) ρ (FsD x++FsS) (blD x++bls) (slD x++sls) (Run P c R0 k))
  (exit:∀y,IE y→(∀G∈FsE y,Bd w0 S0 FsS G)→Cov nt w0 S0 (mark++df) ρ (FsE y++FsS) (blE y++bls) (slE y++sls) (Run P c R0 (.code (J y)::k))):
  Run P c R0 (.code (.rangeFunc g ps as1 body)::k) a w:=by
 have hnd3:=(X7e (blD x0++[(l,loopObj .ready c.fn a.tmps ps as1 body D)]) bls (slD x0) sls).nodup_iff.1 hi3.nodup
 have hin:∀b∈blks (blD x0++[(l,loopObj .ready c.fn a.tmps ps as1 body D)]) (slD x0),b∈blks ((blD x0++[(l,loopObj .ready c.fn a.tmps ps as1 body D)])++bls) (slD x0++sls):=fun b hb=>(X1i _ _ _ _ _).2 (.inl hb)
 have hi4:Inv w0 S0 (FsD x0++FsS) (blD x0++[(l,loopObj .ready c.fn a.tmps ps as1 body D)]) (slD x0) w1:=
  hi3.change [] (by simp) (Keep.refl _ _) (fun G hG=> .inl hG) (fun p hp=>hi3.mem.own p (List.mem_append_left _ hp)) (fun s hs=>hi3.mem.slh s (List.mem_append_left _ hs)) (List.nodup_append.1 hnd3).1 (fun b hb=> .inl (hin b hb))
 obtain⟨B,hB,hndB,hh,hgB⟩:=Xgp hi4
 have hB2:∀b∈B,b∈blks (blD x0++[(l,loopObj .ready c.fn a.tmps ps as1 body D)]) (slD x0):=fun b hb=>by
  rcases hgB b hb with h | ⟨⟨G,hG,hs⟩,_⟩
  ·exact h
  ·rw[hF0 G hG b] at hs;cases hs
 have hpure:PureOK FsD blD slD FsS l (loopObj .ready c.fn a.tmps ps as1 body D) w0 S0 x0:=⟨hi4.nodup,hi4.apart,hi4.mine,fun G hG b o ho=>by rw[hF0 G hG b] at ho;cases ho⟩
 have hfit0:Fits nt [] ρ {tmps:=a.tmps,defers:=[]}:=⟨rfl,hf.2.1,hf.2.2⟩
 have hy:=Xmu (P:=P) (nt:=nt) (w0:=w0) (S0:=S0) (ρ:=ρ) (FsD:=FsD) (blD:=blD) (slD:=slD) (FsE:=FsE) (blE:=blE) (slE:=slE) (FsS:=FsS) (l:=l) (lo:=loopObj .ready c.fn a.tmps ps as1 body D) (le:=fun y=>doneObj c.fn a.tmps ps as1 body D (J y)) (c:=c) (V:=V) I IE rfl hlb hps hpt hfit0 round
 have hcon:=hit _ _ _ (mkGuest FsD blD slD FsS _ _ x0 B hB hndB) hy ⟨x0,hI,hpure,B,hB,hndB,rfl⟩
 have hi5:Inv w0 S0 FsS ([]++bls) ([.g (mkGuest FsD blD slD FsS _ _ x0 B hB hndB)]++sls) w1:=by
  have hpb:∀b,b∈blks ([]++bls) ([.g (mkGuest FsD blD slD FsS _ _ x0 B hB hndB)]++sls)→b∈B∨b∈blks bls sls:=fun b hb=>by
   rcases(X1i _ _ _ _ _).1 hb with h |h
   ·simp only [blks,List.map_nil,List.nil_append,List.flatMap_cons,List.flatMap_nil,List.append_nil] at h
    exact .inl h
   ·exact .inr h
  refine hi3.change [] (by simp) (Keep.refl _ _) (fun G hG=> .inl (List.mem_append_right _ hG)) (fun p hp=>hi3.mem.own p (List.mem_append_right _ hp)) (fun s hs=>?_) ?_ (fun b hb=> .inl ?_)
  ·rcases List.mem_cons.1 hs with rfl |hs
   ·exact hh
   ·exact hi3.mem.slh s (List.mem_append_right _ hs)
  ·rw[(X7e [] _ [.g (mkGuest FsD blD slD FsS _ _ x0 B hB hndB)] sls).nodup_iff,List.nodup_append]
   have hgb:blks [] [OwnS.g (mkGuest FsD blD slD FsS l (loopObj .ready c.fn a.tmps ps as1 body D) x0 B hB hndB)]=B:=by simp [blks,OwnS.blocks,mkGuest]
   rw[hgb]
   exact⟨hndB,(List.nodup_append.1 hnd3).2.1,fun x hx y hy e=>(List.nodup_append.1 hnd3).2.2 x (hB2 x hx) y hy e⟩
  ·rcases hpb b hb with h |h
   ·exact hin b (hB2 b h)
   ·exact(X1i _ _ _ _ _).2 (.inr h)
 intro cs hcs
 have s1:=stepR_rangeFunc (P:=P) (b:=c.fr a []) (a:=a) (k:=k) (cs:=cs) (w:=w) (g:=g) (ps:=ps) (assign:=as1) (body:=body) (l:=l) (mark:=mark)
  (d:={target:= .fn (.func f) cap.toArray,args:=#[.func (.yield l) #[] #[]]}) (f:=f) (args:=(Value.func (.yield l) #[] #[]::cap).toArray)
  (w₁:=w1) (w₁':=w1) (w₂:=w1) he
  (by
   simp only [rangeCall,resolve,X15 hf hg,Deferred.ofValue]
   simp [Act.eval])
  (by
   simp only [invoke]
   simpa using hcall (Value.func (.yield l) #[] #[]::cap).toArray _)
 obtain⟨e,w3,fr,⟨v,rfl,Fr,bo,so,hfr,ho,rfl,R,hR,rfl⟩,hcomes,hfn,hleave⟩:=hcon.use hi5 ((c.fr {a with defers:=mark++a.defers} (.inRangeFunc l::k))::cs)
 have hi6:=hi5.calledG hfr ho
 have hfit:Fits nt (mark++df) ρ {a with defers:=mark++a.defers}:=⟨by simp [hf.1],hf.2.1,hf.2.2⟩
 rcases hR with ⟨x,hIx,hpx,B',hB',hnd',rfl⟩ | ⟨y,hIy,hpy,B',hB',hnd',rfl⟩
 ·obtain⟨hl3,hi8⟩:=Xkg hi6 hpx (.loop {state:= .exhausted,pending:=none,fn:=c.fn,tmps:=a.tmps,params:=ps,assign:=as1,body:=body,defers:=D})
  have hend:=run_endLoop (P:=P) (w:=w3) hl3 (by intro h;cases h)
  obtain⟨v',w5,hR5,hd5⟩:=after x hIx hpx.2.2.2 _ _ hfit hi8 cs hcs
  refine⟨v',w5,hR5,hd5.of_steps (.head s1 (Steps.trans hcomes (.head (step_leave_returned hleave) (.one ?_))))⟩
  exact stepR_endRangeFunc (P:=P) (b:=c.fr a []) (a:={a with defers:=mark++a.defers}) (k:=k) (cs:=cs) hend
 ·obtain⟨hl3,hi8⟩:=Xkg hi6 hpy (.loop {state:= .exhausted,pending:=some (J y),fn:=c.fn,tmps:=a.tmps,params:=ps,assign:=as1,body:=body,defers:=D})
  have hend:=run_endLoop (P:=P) (w:=w3) hl3 (by intro h;cases h)
  obtain⟨v',w5,hR5,hd5⟩:=exit y hIy hpy.2.2.2 _ _ hfit hi8 cs hcs
  refine⟨v',w5,hR5,hd5.of_steps (.head s1 (Steps.trans hcomes (.head (step_leave_returned hleave) (.one ?_))))⟩
  exact stepR_endRangeFunc (P:=P) (b:=c.fr a []) (a:={a with defers:=mark++a.defers}) (k:=k) (cs:=cs) hend
theorem Cov.rangeX{α β:Type}(FsD:α→List Hp)(blD:α→Blks)(slD:α→List OwnS)(FsE:β→List Hp)(blE:β→Blks)(slE:β→List OwnS)(J:β→Code)(I:Nat→α→Prop)(IE:β→Prop)(x0:α){g:Operand}{ps:Array Tmp}{as1 body:Code}{f:FuncId}(cap:List Value){N:Nat}{V:Nat→List Value→Prop}{FsS:List Hp}
  (hro:c.ro=none) (hg:ev ρ g=some (.func (.func f) #[] cap.toArray)) (hcall:∀args w,(callFunc f args).run P w= .ok (.enter f args) w) (hF:Fs=FsD x0++FsS) (hF0:∀G∈FsD x0,∀b,G b=none) (hb:bl=blD x0++bls) (hs:sl=slD x0++sls)
  (hit:IterX P f cap FsS N V) (hps:∀i v,V i v→v.length=ps.size) (hpt:ps.all (Nat.blt · nt)=true) (hI:I 0 x0)
  (round:∀(l:Nat)(tmps:Array Value)(D:Nat)(i:Nat)(x:α)(v:List Value),V i v→I i x→∀w1 S1,w0.heap.size≤w1.heap.size→
   Cov nt w1 S1 [] ((ps.toList.zip v).reverse++ρ) (FsD x++FsS) (blD x++[(l,loopObj .ready c.fn tmps ps as1 body D)]) (slD x)
    (Run P ⟨c.fn,some l⟩ (RoundX FsD blD slD FsE blE slE FsS (FsD x++FsS) (I (i+1)) IE l (loopObj .ready c.fn tmps ps as1 body D) (fun y=>doneObj c.fn tmps ps as1 body D (J y)) w1 S1) [.code as1, .beginRound, .code body]))
  (after:∀r x,I N x→(∀G∈FsD x,Bd w0 S0 FsS G)→Cov nt w0 S0 ({target:= .collected r,args:=#[]}::df) ρ (FsD x++FsS) (blD x++(r, .deferred (some []))::bls) (slD x++sls) (Run P c R0 k))
  (exit:∀r y,IE y→(∀G∈FsE y,Bd w0 S0 FsS G)→Cov nt w0 S0 ({target:= .collected r,args:=#[]}::df) ρ (FsE y++FsS) (blE y++(r, .deferred (some []))::bls) (slE y++sls) (Run P c R0 (.code (J y)::k))):
  Cov nt w0 S0 df ρ Fs bl sl (Run P c R0 (.code (.rangeFunc g ps as1 body)::k)):=fun a w hf hi=>by
 subst hF hb hs
 have he:=run_enterLoop_outer (P:=P) (w:=w) c.fn a.tmps ps as1 body
 rw[← hro] at he
 have hi1:=hi.alloc (.deferred (some []))
 have hi2:=hi1.alloc (loopObj .ready c.fn a.tmps ps as1 body w.heap.size)
 have hl:(w.alloc (.deferred (some []))).heap.size=w.heap.size+1:=World.size_alloc ..
 rw[hl] at hi2
 have hperm:((w.heap.size+1,loopObj .ready c.fn a.tmps ps as1 body w.heap.size)::(w.heap.size,Obj.deferred (some []))::(blD x0++bls)).Perm ((blD x0++[(w.heap.size+1,loopObj .ready c.fn a.tmps ps as1 body w.heap.size)])++(w.heap.size,Obj.deferred (some []))::bls):=by
  rw[List.append_assoc]
  refine List.Perm.trans ?_ List.perm_append_comm
  simp only [List.cons_append,List.nil_append]
  refine List.Perm.cons _ (List.Perm.cons _ ?_)
  exact List.perm_append_comm
 have hi3:=hi2.perm hperm (List.Perm.refl _)
 have hlb:w0.heap.size≤w.heap.size+1:=by have:=hi.keep.size;omega
 exact rangeCore (FsD:=FsD) (blD:=blD) (slD:=slD) (FsE:=FsE) (blE:=blE) (slE:=slE) (J:=J) (I:=I) (IE:=IE) (x0:=x0) hf he hi3 hlb hg hcall hF0 hit hps hpt hI (fun i x v=>round _ _ _ i x v) (fun x h1 h2=>after _ x h1 h2) (fun y h1 h2=>exit _ y h1 h2)
end
end Go.Proofs.YtmfppphlhgneeaaGreat
end

section
namespace Go.Proofs.YtmfppphlhgneeaaGreat
open Go.RowKit
def viewG(b:Option Nat)(T:TypeId)(pre cs post:List Value):Guest where
 blks:=b.toList
 nodup:=by cases b<;>simp
 holds w:=∀g,b=some g→w.heap[g]?=some (.cells (pre++cs++post).toArray T (0,0))
 lt w h x hx:=by
  cases b with
  |none=>simp at hx
  |some g=>simp at hx;subst hx;exact Xc4 (h _ rfl)
 same w w' h e g hg:=by subst hg;rw[e g (by simp)];exact h g rfl
def VA(a:Option Addr)(b:Option Nat)(n k:Nat)(pre cs:List Value):Prop:=n≤k∧(cs≠[]→∃g,b=some g∧a=some ⟨g,pre.length,none⟩)
def VB(a:Option Addr)(b:Option Nat)(n k sz:Nat)(post:List Value):Prop:=
 (a=none∧b=none∧n=0∧k=0)∨∃g,a=some ⟨g,0,none⟩∧b=some g∧n≤k∧k≤maxLen∧n*sz+post.length=k*sz
theorem Xj2{sz:Nat}:∀{xs:List (List Value)},(∀x∈xs,x.length=sz)→xs.flatten.length=xs.length*sz
 | [],_=>by simp
 |x::xs,h=>by simp only [List.flatten_cons,List.length_append,List.length_cons,Nat.add_mul];rw[h x List.mem_cons_self,Xj2 fun y hy=>h y (List.mem_cons_of_mem _ hy)];omega
theorem OL.clen{α:Type}{Q:Rep α}{G:Hp}{cs:List Value}{l:List α}(h:OL Q G cs l):cs.length=l.length*Q.sz:=by
 obtain⟨_,xs,rfl,h3,h4⟩:=h
 rw[Xj2 h3,h4.1]
theorem VA.len{a:Option Addr}{b:Option Nat}{n n' k:Nat}{pre cs cs':List Value}(h:VA a b n k pre cs)(hn:n'=n)(hc:cs'.length=cs.length):VA a b n' k pre cs':=
 ⟨hn▸h.1,fun hne=>h.2 fun e=>hne (by rw[e] at hc;exact List.eq_nil_of_length_eq_zero hc)⟩
theorem VA.call{α:Type}{Q:Rep α}{G G':Hp}{a:Option Addr}{b:Option Nat}{k:Nat}{pre cs cs':List Value}{l l':List α}(h:VA a b l.length k pre cs)(ho:OL Q G cs l)(ho':OL Q G' cs' l')(hl:l'.length=l.length):VA a b l'.length k pre cs':=
 h.len hl (by rw[ho.clen,ho'.clen,hl])
theorem Xii{w:World}{a:Option Addr}{b:Option Nat}{n k:Nat}{T:TypeId}{pre cs post:List Value}(h:(viewG b T pre cs post).holds w)(va:VA a b n k pre cs)(hn:0<cs.length):
  ∃g,a=some ⟨g,pre.length,none⟩∧b=some g∧w.heap[g]?=some (.cells (pre++cs++post).toArray T (0,0))∧∀(q:Nat)(v:Value),cs[q]?=some v→w.cell? ⟨g,pre.length+q,none⟩=some v:=by
 obtain⟨g,hb,ha⟩:=va.2 (by rintro rfl;simp at hn)
 have hw:=h g hb
 refine⟨g,ha,hb,hw,fun q v hq=>?_⟩
 rw[cell_of_row w g _ _ T (0,0) hw]
 have hl:q<cs.length:=(List.getElem?_eq_some_iff.1 hq).1
 simp only [List.getElem?_toArray]
 rw[List.append_assoc,List.getElem?_append_right (by omega),Nat.add_sub_cancel_left,List.getElem?_append_left hl]
 exact hq
def Rd(s:OwnS)(G:Hp):Prop:=∃w,s.holds w∧∀b∈s.blocks,G b=w.heap[b]?
def Rep.flat{α:Type}(Q:Rep α):Prop:=∀(G G':Hp)(c:List Value)(x:α),Q.r G c x→Q.r G' c x
theorem Rep.flat_int(k:IntKind):(Rep.int k).flat:=fun _ _ _ _ h=>h
theorem Rep.flat_bool:Rep.bool.flat:=fun _ _ _ _ h=>h
theorem OL.flat{α:Type}{Q:Rep α}(hf:Q.flat){G G':Hp}{cs:List Value}{l:List α}(h:OL Q G' cs l):OL Q G cs l:=by
 obtain⟨hb,xs,h1,h3,h4,h5⟩:=h
 exact⟨hb,xs,h1,h3,h4,fun i c x hc hx=>hf _ _ _ _ (h5 i c x hc hx)⟩
section
variable{P:Program}{c:Cx}{R:Value→World→Prop}{nt:Nat}{w0:World}{S0:List Nat}{df:List Deferred}{ρ ρ':Env}{Fs Fs' Fin B:List Hp}{bl bl':Blks}{sl sl':List OwnS}
 {K K':Act→World→Prop} {k:List Item} {ty:TypeId} {α:Type} {G:Hp}
theorem QOp.idxV(q:Nat){Q:Rep α}{a:Option Addr}{b:Option Nat}{m T sz:Nat}{l:List α}{pre cs post:List Value}{i:Int}{u:α}{kk:IntKind}{t el:TypeId}{x j:Operand}(hs:sl[q]?=some (.g (viewG b T pre cs post)))(va:VA a b l.length m pre cs)(ho:OL Q G cs l)
  (hx:ev ρ x=some (.slice a l.length m)) (hj:ev ρ j=some (.int kk i)) (he:lidx l i=some u) (ht:slOf P t=some el) (hz:szOf P el=some sz) (hn:sz=Q.sz) (h0:Nat.blt 0 sz=true):QOp P ρ Fs bl sl (.indexAddr t x j) ty (elemPtr (.slice a l.length m) i.toNat sz):= .of fun e he' w hm=>by
 obtain⟨h3,h4,_⟩:=X4g he
 have h0':0<sz:=by simpa [Nat.blt_eq] using h0
 have hpos:0<cs.length:=by rw[ho.clen, ← hn];exact Nat.mul_pos (by omega) h0'
 obtain⟨g,rfl,_⟩:=Xii (hm.slh _ (List.mem_of_getElem? hs)) va hpos
 refine X8m (s:=Instr.indexAt t (e x) (e j)) ?_
 rw[he' x _ hx,he' j _ hj]
 exact Xdv ht hz h3 h4
theorem Xh0{w:World}{Q:Rep α}{a:Option Addr}{b:Option Nat}{m T sz n:Nat}{l:List α}{pre cs post d:List Value}(h:(viewG b T pre cs post).holds w)(va:VA a b l.length m pre cs)(ho:OL Q G cs l)(hq:sz=Q.sz)(h0:Nat.blt 0 sz=true)(hn:n<l.length)(he:Elem sz cs n d):
  ∃g,a=some ⟨g,pre.length,none⟩∧b=some g∧w.heap[g]?=some (.cells (pre++cs++post).toArray T (0,0))∧∀(q:Nat)(v:Value),d[q]?=some v→w.cell? ⟨g,pre.length+(n*sz+q),none⟩=some v:=by
 have h0':0<sz:=by simpa [Nat.blt_eq] using h0
 have hpos:0<cs.length:=by rw[ho.clen, ← hq];exact Nat.mul_pos (by omega) h0'
 obtain⟨g,ha,hb,hw,hc⟩:=Xii h va hpos
 exact⟨g,ha,hb,hw,fun q v hv=>hc _ _ (he.2 q v hv)⟩
theorem QOp.loadV(q off:Nat){Q:Rep α}{a:Option Addr}{b:Option Nat}{m T sz s bytes:Nat}{l:List α}{pre cs post d z:List Value}{i:Int}{u:α}{t:TypeId}{x:Operand}{p v:Value}(hs:sl[q]?=some (.g (viewG b T pre cs post)))(va:VA a b l.length m pre cs)(ho:OL Q G cs l)(hn:sz=Q.sz)(h0:Nat.blt 0 sz=true)
  (he:lidx l i=some u) (hd:Elem sz cs i.toNat d) (hx:ev ρ x=some p) (hp:PtrO p a l.length m i.toNat sz off) (ht:TyI P t false s bytes z) (hv:d[off]?=some v):QOp P ρ Fs bl sl (.load t x) ty v:= .of fun e he' w hm=>by
 obtain⟨h3,h4,_⟩:=X4g he
 obtain⟨g,rfl,_,_,hc⟩:=Xh0 (hm.slh _ (List.mem_of_getElem? hs)) va ho hn h0 (by omega) hd
 refine X8m (s:=Instr.loadAt t (e x)) ?_
 rw[he' x _ hx]
 rcases hp with ⟨rfl,rfl⟩ |rfl
 ·simp only [elemPtr,X1y]
  exact X6d (X6l ht.agg) (by simpa using hc 0 v hv)
 ·simp only [elemPtr,ptrAdd,X1y]
  exact X6d (X6l ht.agg) (by rw[Nat.add_assoc];exact hc off v hv)
theorem OL.upd{Q:Rep α}{sz off:Nat}{cs dc cv:List Value}{l l':List α}{i:Int}{y:α}(ho:OL Q G cs l)(hn:sz=Q.sz)(hl:lupd l i y=some l')(hd:Elem sz cs i.toNat dc)(hfit:off+cv.length≤sz)(hy:Q.r G (dc.take off++cv++dc.drop (off+cv.length)) y):
  OL Q G (cs.take (i.toNat*sz+off)++cv++cs.drop (i.toNat*sz+off+cv.length)) l'∧l'.length=l.length∧i.toNat<l.length∧(cs.take (i.toNat*sz+off)++cv++cs.drop (i.toNat*sz+off+cv.length)).length=cs.length:=by
 subst hn
 obtain⟨hi0,hil,rfl⟩:=Xa3 hl
 have hcl:=ho.clen
 obtain⟨hb1,xs,rfl,h3,h4⟩:=ho
 have hxs:∃ys:List {c:List Value//c.length=Q.sz},xs=ys.map (·.1):=⟨xs.attach.map fun c=>⟨c.1,h3 _ c.2⟩,by simp⟩
 obtain⟨ys,rfl⟩:=hxs
 have e1:ys.length=l.length:=by have:=h4.1;simpa using this
 have hj:i.toNat<ys.length:=by omega
 have hdc:(ys[i.toNat]).1=dc:=by
  apply List.ext_getElem?
  intro j
  rcases Nat.lt_or_ge j dc.length with h |h
  ·have hjl:j<(ys[i.toNat]).1.length:=by rw[(ys[i.toNat]).2, ← hd.1];exact h
   have g1:=X6e (ys.map (·.1)) i.toNat (ys[i.toNat]).1 j _ h3 (by rw[List.getElem?_map,List.getElem?_eq_getElem hj];rfl) (List.getElem?_eq_getElem hjl)
   have g2:=hd.2 j _ (List.getElem?_eq_getElem h)
   rw[g1] at g2
   rw[List.getElem?_eq_getElem hjl,g2,List.getElem?_eq_getElem h]
  ·rw[List.getElem?_eq_none h,List.getElem?_eq_none (by rw[(ys[i.toNat]).2, ← hd.1];exact h)]
 have hlen:(dc.take off++cv++dc.drop (off+cv.length)).length=Q.sz:=by
  simp only [List.length_append,List.length_take,List.length_drop,hd.1];omega
 have hgd:ys.getD i.toNat ys[i.toNat]=ys[i.toNat]:=by rw[List.getD_eq_getElem?_getD,List.getElem?_eq_getElem hj];rfl
 have hset:=Xj0 (f:=fun c:{c:List Value//c.length=Q.sz}=>c.1) (sz:=Q.sz) (fun c=>c.2) (ys[i.toNat]) (off:=off) (c:=cv) hfit (y:=⟨_,hlen⟩) ys i.toNat hj (by rw[hgd,hdc])
 have hle:(i.toNat+1)*Q.sz≤l.length*Q.sz:=Nat.mul_le_mul_right _ (by omega)
 rw[Nat.add_mul] at hle
 refine⟨?_,List.length_set,by omega,by simp only [List.length_append,List.length_take,List.length_drop];omega⟩
 rw[hset]
 refine⟨by simp;omega,_,rfl,fun c hc=>by obtain⟨c',_,rfl⟩:=List.mem_map.1 hc;exact c'.2,by simp [e1],fun j c x hc hx=>?_⟩
 simp only [List.getElem?_map,List.getElem?_set] at hc hx
 by_cases hij:i.toNat=j
 ·subst hij
  rw[if_pos rfl] at hc hx
  simp [hj,show i.toNat<l.length by omega] at hc hx
  subst hc hx
  simpa only [List.append_assoc] using hy
 ·rw[if_neg hij] at hc hx
  exact h4.2 j c x (by rw[List.getElem?_map];exact hc) hx
theorem Cov.storeV(q:Nat)(off:Nat){Q:Rep α}{a:Option Addr}{b:Option Nat}{m T sz:Nat}{l l':List α}{pre cs post dc:List Value}{i:Int}{y:α}{t:TypeId}{x u:Operand}{v p:Value}{agg:Bool}{bytes:Nat}{z:List Value}(hs:Stp P K' ⟨none, .store t x u,ty,none⟩ K)
  (hi:sl[q]?=some (.g (viewG b T pre cs post))) (va:VA a b l.length m pre cs) (hn:sz=Q.sz) (h0:Nat.blt 0 sz=true) (ho:OL Q G cs l) (hl:lupd l i y=some l') (hx:ev ρ x=some p) (hp:PtrO p a l.length m i.toNat sz off) (hu:ev ρ u=some v) (ht:TyI P t agg (cellsL v).length bytes z) (hd:Elem sz cs i.toNat dc)
  (hy:Q.r G (dc.take off++cellsL v++dc.drop (off+(cellsL v).length)) y) (h1:(cellsL v).all (·.oneCell')=true) (hfit:Nat.ble (off+(cellsL v).length) sz=true)
  (hk:∀cs',l'.length=l.length→OL Q G cs' l'→VA a b l'.length m pre cs'→Cov nt w0 S0 df ρ Fs bl (sl.set q (.g (viewG b T pre cs' post))) K):Cov nt w0 S0 df ρ Fs bl sl K':=fun aa w hfi hinv=>by
 refine hs aa w ?_
 have hfit':off+(cellsL v).length≤sz:=by simpa [Nat.ble_eq] using hfit
 obtain⟨ho',hll,hil,hcl⟩:=ho.upd hn hl hd hfit' hy
 obtain⟨g,rfl,rfl,hw,_⟩:=Xh0 (hinv.mem.slh _ (List.mem_of_getElem? hi)) va ho hn h0 hil hd
 have hle:i.toNat*sz+off+(cellsL v).length≤cs.length:=by
  rw[ho.clen, ← hn]
  have:(i.toNat+1)*sz≤l.length*sz:=Nat.mul_le_mul_right _ hil
  rw[Nat.add_mul] at this
  omega
 obtain⟨w',hr,kw,hb'⟩:=Xeo (P:=P) (cs:=pre++cs++post) (o:=pre.length+(i.toNat*sz+off)) (cs':=pre++(cs.take (i.toNat*sz+off)++cellsL v++cs.drop (i.toNat*sz+off+(cellsL v).length))++post) ht hw h1 (by simp only [List.length_append];omega) (by
  have e1:(pre++cs++post).take (pre.length+(i.toNat*sz+off))=pre++cs.take (i.toNat*sz+off):=by
   rw[List.append_assoc,List.take_append,Nat.add_sub_cancel_left,List.take_of_length_le (l:=pre) (by omega),List.take_append_of_le_length (by omega)]
  have e2:(pre++cs++post).drop (pre.length+(i.toNat*sz+off)+(cellsL v).length)=cs.drop (i.toNat*sz+off+(cellsL v).length)++post:=by
   rw[List.append_assoc,Nat.add_assoc,List.drop_append,Nat.add_sub_cancel_left,List.drop_of_length_le (l:=pre) (by omega),List.nil_append,List.drop_append_of_le_length (by omega)]
  rw[e1,e2]
  simp only [List.append_assoc])
 have hrun:(execOp aa.eval (⟨none, .store t x u,ty,none⟩:OpX).oper).run P w= .ok .skip w':=by
  refine Xn5 (s:=Instr.storeAt t (aa.eval x) (aa.eval u)) ?_
  rw[X15 hfi hx,X15 hfi hu]
  rcases hp with ⟨rfl,rfl⟩ |rfl
  ·simp only [elemPtr,X1y]
   exact hr
  ·simp only [elemPtr,ptrAdd,X1y,Nat.add_assoc] at hr ⊢
   exact hr
 unfold Oper.wp
 rw[hrun]
 refine hk _ hll ho' (va.len hll hcl) _ _ (hfi.put_none _) (hinv.set_s q hi (s':= .g (viewG (some g) T pre _ post)) (by simpa [OwnS.blocks,viewG] using kw) ?_ (by simp [OwnS.blocks,viewG]) (fun b hb=> .inl (by simpa [OwnS.blocks,viewG] using hb)))
 intro g' hg'
 cases hg'
 exact hb'
theorem Inv.set_same{w:World}(h:Inv w0 S0 Fs bl sl w)(i:Nat){s s':OwnS}(hi:sl[i]?=some s)(hs:s'.holds w)(hnd:s'.blocks.Nodup)(hb:∀b∈s'.blocks,b∈s.blocks):Inv w0 S0 Fs bl (sl.set i s') w:=
 h.set_s i hi (Keep.refl w _) hs hnd fun b h=> .inl (hb b h)
theorem Cov.toV(q:Nat){a:Option Addr}{n m T sz:Nat}{cs:List Value}(hi:sl[q]?=some (.s (.slice a n m) T sz n cs))
  (hk:∀b post,VA a b n m [] cs→VB a b n m sz post→Cov nt w0 S0 df ρ Fs bl (sl.set q (.g (viewG b T [] cs post))) K):Cov nt w0 S0 df ρ Fs bl sl K:=fun aa w hfi hinv=>by
 have hown:w.ownsRow 0 T sz (.slice a n m) n cs:=hinv.mem.slh _ (List.mem_of_getElem? hi)
 rcases hown.2 with ⟨hv,h0⟩ | ⟨g,cap,cur,hv,_,hg,hnc,hm2,hcs,htk⟩
 ·cases hv
  have hc0:cs=[]:=List.eq_nil_of_length_eq_zero (by rw[hown.1];simp)
  subst hc0
  exact hk none [] ⟨Nat.le_refl _,fun h=>absurd rfl h⟩ (.inl ⟨rfl,rfl,rfl,rfl⟩) _ _ hfi (hinv.set_same q hi (s':= .g (viewG none T [] [] [])) (fun g hg=>by cases hg) (by simp [OwnS.blocks,viewG]) (by simp [OwnS.blocks,viewG]))
 ·cases hv
  have hcur:cur=([]++cs++cur.toList.drop (n*sz)).toArray:=by rw[← htk];simp
  refine hk (some g) (cur.toList.drop (n*sz)) ⟨hnc,fun _=>⟨g,rfl,rfl⟩⟩ (.inr ⟨g,rfl,rfl,hnc,hm2,?_⟩) _ _ hfi (hinv.set_same q hi (s':= .g (viewG (some g) T [] cs (cur.toList.drop (n*sz)))) (fun g' hg'=>?_) (by simp [OwnS.blocks,viewG]) (by simp [OwnS.blocks,viewG,Value.ownBlock]))
  ·have:n*sz≤m*sz:=Nat.mul_le_mul_right _ hnc
   simp only [List.length_drop,Array.length_toList,hcs];omega
  ·cases hg';rw[hg];exact congrArg (fun c=>some (Obj.cells c T (0,0))) hcur
theorem Cov.ofV(q:Nat){Q:Rep α}{a:Option Addr}{b:Option Nat}{n m T sz:Nat}{cs post:List Value}{l:List α}(hi:sl[q]?=some (.g (viewG b T [] cs post)))(vb:VB a b n m sz post)(hl:l.length=n)(ho:OL Q G cs l)(hn:sz=Q.sz)
  (hk:Cov nt w0 S0 df ρ Fs bl (sl.set q (.s (.slice a l.length m) T sz l.length cs)) K):Cov nt w0 S0 df ρ Fs bl sl K:=fun aa w hfi hinv=>by
 subst hl
 have hh:(viewG b T [] cs post).holds w:=hinv.mem.slh _ (List.mem_of_getElem? hi)
 have hcl:=ho.clen
 rcases vb with ⟨rfl,rfl,h0,rfl⟩ | ⟨g,rfl,rfl,h1,h2,h3⟩
 ·have hc0:cs=[]:=List.eq_nil_of_length_eq_zero (by rw[hcl,h0];simp)
  refine hk _ _ hfi (hinv.set_same q hi (s':= .s (.slice none l.length 0) T sz l.length cs) ?_ (by simp [OwnS.blocks,Value.ownBlock]) (by simp [OwnS.blocks,Value.ownBlock]))
  rw[hc0,h0]
  exact World.ownsRow_nil w 0 T sz
 ·refine hk _ _ hfi (hinv.set_same q hi (s':= .s (.slice (some ⟨g,0,none⟩) l.length m) T sz l.length cs) ?_ (by simp [OwnS.blocks,Value.ownBlock]) (by simp [OwnS.blocks,Value.ownBlock,viewG]))
  refine⟨by rw[hcl,hn], .inr ⟨g,m,_,rfl,Nat.zero_le _,hh g rfl,h1,h2,?_,?_⟩⟩
  ·simp only [List.nil_append,List.size_toArray,List.length_append,hcl, ← hn];exact h3
  ·simp only [List.nil_append]
   exact List.take_left' (by rw[hcl,hn])
theorem SlR.rd{Q:Rep α}{G':Hp}{a:Option Addr}{m T sz:Nat}{l:List α}{cs:List Value}(ho:OL Q G cs l)(hn:sz=Q.sz)(hle:HpLe G G')(h:Rd (.s (.slice a l.length m) T sz l.length cs) G'):SlR Q G' a m l:=by
 obtain⟨w,hh,hb⟩:=h
 have hown:w.ownsRow 0 T sz (.slice a l.length m) l.length cs:=hh
 have hlb:=ho.1
 obtain⟨_,xs,rfl,h3,h4⟩:=ho
 have e1:xs.length=l.length:=h4.1
 refine⟨by omega,xs,⟨a,m,by rw[e1],?_,fun x hx=>h3 x hx,fun hne=>?_⟩,h4.mono hle⟩
 ·rw[e1]
  rcases hown.2 with ⟨hv,h0⟩ | ⟨g,cap,cur,hv,_,hg,hnc,hm2,hcs,htk⟩
  ·simp only [Value.slice.injEq] at hv;omega
  ·simp only [Value.slice.injEq] at hv;omega
 ·rcases hown.2 with ⟨hv,h0⟩ | ⟨g,cap,cur,hv,_,hg,hnc,hm2,hcs,htk⟩
  ·rw[h0] at e1;exact absurd (List.eq_nil_of_length_eq_zero e1) hne
  ·cases hv
   refine⟨g,0,rfl,fun i x hx j v hj=>?_⟩
   have:=hb g (by simp [OwnS.blocks,Value.ownBlock])
   unfold rcell
   rw[this,hg]
   have hfl:=X6e xs i x j v h3 hx hj
   have hlt:i*Q.sz+j<l.length*Q.sz:=by
    have hi:i<xs.length:=(List.getElem?_eq_some_iff.1 hx).1
    have hj':j<Q.sz:=by rw[← h3 x (List.mem_of_getElem? hx)];exact(List.getElem?_eq_some_iff.1 hj).1
    have:(i+1)*Q.sz≤l.length*Q.sz:=Nat.mul_le_mul_right _ (by omega)
    rw[Nat.add_mul] at this
    omega
   rw[← htk,hn,List.getElem?_take_of_lt hlt] at hfl
   simpa using hfl
theorem RetW.flat{f:FuncId}{args:Array Value}{bin:Blks}{sin:List OwnS}{Q:Value→Blks→List OwnS→Hp→Prop}(h:RetW P f args Fs bin sin Q):RetG P f args Fs bin sin fun v _ bo so=>∃G2,Q v bo so G2:=
 fun w h1 h2 h3 h4 h5=>(h w h1 h2 h3 h4 h5).mono fun _ w' ⟨Fr,bo,so,a,b,d⟩=>⟨Fr,bo,so,a,b,whole w',d _ fun F hF x o hx=>b.mem.fs F hF x o hx⟩
theorem Inv.lendB{w:World}{s1 sB s2:List OwnS}(hi:Inv w0 S0 (G::B) bl (s1++(sB++s2)) w):∃G',HpLe G G'∧(∀s∈sB,Rd s G')∧Inv w0 S0 (G'::G::B) bl (s1++s2) w∧(∀Fin,Bd w0 S0 Fin G→Bd w0 S0 Fin G')∧
  ∀w' Fs2 bo so,Inv w0 S0 (Fs2++G'::G::B) bo (so++s2) w'→Inv w0 S0 (G::B) bo (so++(sB++s2)) w':=by
 classical
 let G':Hp:=fun b=>if b∈sB.flatMap OwnS.blocks then w.heap[b]? else G b
 have hblk:∀b,b∈blks bl (s1++(sB++s2))↔b∈blks bl (s1++s2)∨b∈sB.flatMap OwnS.blocks:=fun b=>by
  simp only [blks,List.flatMap_append,List.mem_append]
  constructor
  ·rintro(h |h |h |h)<;>simp [h]
  ·rintro((h |h |h) |h)<;>simp [h]
 have hperm:(blks bl (s1++(sB++s2))).Perm (sB.flatMap OwnS.blocks++blks bl (s1++s2)):=by
  simp only [blks,List.flatMap_append]
  have e1:(s1.flatMap OwnS.blocks++(sB.flatMap OwnS.blocks++s2.flatMap OwnS.blocks)).Perm (sB.flatMap OwnS.blocks++(s1.flatMap OwnS.blocks++s2.flatMap OwnS.blocks)):=by
   rw[← List.append_assoc, ← List.append_assoc];exact List.perm_append_comm.append_right _
  exact(e1.append_left _).trans (List.perm_append_comm_assoc _ _ _)
 have hnd:=List.nodup_append.1 (hperm.nodup_iff.1 hi.nodup)
 have hmine:∀b∈sB.flatMap OwnS.blocks,b∈blks bl (s1++(sB++s2)):=fun b hb=>(hblk b).2 (.inr hb)
 have hapG:∀b∈sB.flatMap OwnS.blocks,∀F∈G::B,F b=none:=fun b hb F hF=>hi.apart b (hmine b hb) F hF
 have hle:HpLe G G':=fun b o hb=>by
  show(if _ then _ else _)=_
  rw[if_neg fun h=>by rw[hapG b h G List.mem_cons_self] at hb;cases hb];exact hb
 have hG'w:HpIn G' w:=fun b o hb=>by
  have hb':(if b∈sB.flatMap OwnS.blocks then w.heap[b]? else G b)=some o:=hb
  split at hb'
  ·exact hb'
  ·exact hi.mem.fs G List.mem_cons_self b o hb'
 have hval:∀b∈sB.flatMap OwnS.blocks,G' b=w.heap[b]?:=fun b hb=>by show(if _ then _ else _)=_;rw[if_pos hb]
 have hhold:∀s∈sB,s.holds w:=fun s hs=>hi.mem.slh s (List.mem_append_right _ (List.mem_append_left _ hs))
 refine⟨G',hle,fun s hs=>⟨w,hhold s hs,fun b hb=>hval b (List.mem_flatMap.2 ⟨s,hs,hb⟩)⟩,?_,fun Fin hbd b o hb=>?_,?_⟩
 ·refine hi.change [] (by simp) (Keep.refl w []) (fun F hF=>?_) hi.mem.own (fun s hs=>hi.mem.slh s ?_) hnd.2.1 (fun b hb=> .inl ((hblk b).2 (.inl hb)))
  ·rcases List.mem_cons.1 hF with rfl |hF
   ·refine .inr ⟨hG'w,fun b hb=>?_⟩
    have hn:b ∉ sB.flatMap OwnS.blocks:=fun h=>hnd.2.2 b h b hb rfl
    show(if _ then _ else _)=_
    rw[if_neg hn]
    exact hi.apart b ((hblk b).2 (.inl hb)) G List.mem_cons_self
   ·exact .inl hF
  ·rcases List.mem_append.1 hs with h |h
   ·exact List.mem_append_left _ h
   ·exact List.mem_append_right _ (List.mem_append_right _ h)
 ·by_cases hm:b∈sB.flatMap OwnS.blocks
  ·rcases hi.mine b (hmine b hm) with h |h
   ·exact .inr (.inl h)
   ·exact .inl h
  ·refine hbd b o ?_
   have hb':(if b∈sB.flatMap OwnS.blocks then w.heap[b]? else G b)=some o:=hb
   rwa [if_neg hm] at hb'
 ·intro w' Fs2 bo so hi'
  have hG'm:G'∈Fs2++G'::G::B:=List.mem_append_right _ List.mem_cons_self
  have hblk':∀b,b∈blks bo (so++(sB++s2))↔b∈blks bo (so++s2)∨b∈sB.flatMap OwnS.blocks:=fun b=>by
   simp only [blks,List.flatMap_append,List.mem_append]
   constructor
   ·rintro(h |h |h |h)<;>simp [h]
   ·rintro((h |h |h) |h)<;>simp [h]
  have hperm':(blks bo (so++(sB++s2))).Perm (sB.flatMap OwnS.blocks++blks bo (so++s2)):=by
   simp only [blks,List.flatMap_append]
   have e1:(so.flatMap OwnS.blocks++(sB.flatMap OwnS.blocks++s2.flatMap OwnS.blocks)).Perm (sB.flatMap OwnS.blocks++(so.flatMap OwnS.blocks++s2.flatMap OwnS.blocks)):=by
    rw[← List.append_assoc, ← List.append_assoc];exact List.perm_append_comm.append_right _
   exact(e1.append_left _).trans (List.perm_append_comm_assoc _ _ _)
  have hlt:∀b∈sB.flatMap OwnS.blocks,∃o,w.heap[b]?=some o:=fun b hb=>by
   obtain⟨s,hs,hb⟩:=List.mem_flatMap.1 hb
   exact⟨_,Array.getElem?_eq_getElem (OwnS.lt (hhold s hs) b hb)⟩
  have hsame:∀b∈sB.flatMap OwnS.blocks,w'.heap[b]?=w.heap[b]?:=fun b hb=>by
   obtain⟨o,ho⟩:=hlt b hb
   rw[ho];exact hi'.mem.fs G' hG'm b o (by rw[hval b hb];exact ho)
  refine⟨⟨fun F hF=>hi'.mem.fs F (List.mem_append_right _ (List.mem_cons_of_mem _ hF)),hi'.mem.own,fun s hs=>?_⟩,hi'.keep,?_,fun b hb=>?_,fun b hb F hF=>?_⟩
  ·rcases List.mem_append.1 hs with h |h
   ·exact hi'.mem.slh s (List.mem_append_left _ h)
   ·rcases List.mem_append.1 h with h |h
    ·exact OwnS.same (hhold s h) fun b hb=>hsame b (List.mem_flatMap.2 ⟨s,h,hb⟩)
    ·exact hi'.mem.slh s (List.mem_append_right _ h)
  ·rw[hperm'.nodup_iff,List.nodup_append]
   refine⟨hnd.1,hi'.nodup,fun a ha b hb e=>?_⟩
   subst e
   have h1:=hi'.apart a hb G' hG'm
   obtain⟨o,ho⟩:=hlt a ha
   rw[hval a ha,ho] at h1
   cases h1
  ·rcases(hblk' b).1 hb with h |h
   ·exact hi'.mine b h
   ·exact hi.mine b (hmine b h)
  ·rcases(hblk' b).1 hb with h |h
   ·exact hi'.apart b h F (List.mem_append_right _ (List.mem_cons_of_mem _ hF))
   ·exact hapG b h F hF
theorem Cov.callB{b1 b2:Blks}{s1 sB s2:List OwnS}(vs cap:List Value){d:Nat}{f:FuncId}{fop:Operand}{args:Array Operand}{ts:Array TypeId}{Q:Value→Blks→List OwnS→Prop}(hs:Stp P K' ⟨some d, .call ⟨.value fop,args,ts⟩,ty,none⟩ K)
  (hf:ev ρ fop=some (.func (.func f) #[] cap.toArray)) (ha:args.toList.map (ev ρ)=vs.map some) (hcall:∀args w,(callFunc f args).run P w= .ok (.enter f args) w) (hbl:bl=b1++b2) (hsl:sl=s1++(sB++s2))
  (hr:∀Fs' G',HpLe G G'→(∀s∈sB,Rd s G')→G'∈Fs'→RetG P f (vs++cap).toArray Fs' b1 s1 (fun v _ bo so=>Q v bo so)) (hd:Nat.blt d nt=true)
  (hk:∀v bo so,Q v bo so→Cov nt w0 S0 df ((d,v)::ρ) (G::B) (bo++b2) (so++(sB++s2)) K):Cov nt w0 S0 df ρ (G::B) bl sl K':=fun a w hfi hi=>by
 subst hsl
 obtain⟨G',hle,hrd,hi2,_,hback⟩:=hi.lendB
 exact Cov.callg vs cap hs hf ha hcall hbl rfl (hr (G'::G::B) G' hle hrd List.mem_cons_self) hd (fun v Fr bo so _ hq a' w' hf' hi'=>hk v bo so hq a' w' hf' (hback w' [Fr] _ _ hi')) a w hfi hi2
end
end Go.Proofs.YtmfppphlhgneeaaGreat
end

section
namespace Go.Proofs.YtmfppphlhgneeaaGreat
open Go.RowKit
structure NE where
 a:Option Addr
 n:Nat
 k:Nat
 cs:List Value
def NE.nil:NE:=⟨none,0,0,[]⟩
def NE.h(e:NE):Option Addr×Nat×Nat:=(e.a,e.n,e.k)
def NE.s(T:TypeId)(m:Nat)(e:NE):OwnS:= .s (.slice e.a e.n e.k) T m e.n e.cs
def nblks(T:TypeId)(m:Nat)(es:List NE):List Nat:=es.flatMap fun e=>(e.s T m).blocks
def packG(T:TypeId)(m:Nat)(es:List NE):Guest where
 blks:=if(nblks T m es).Nodup then nblks T m es else []
 nodup:=by split;assumption;simp
 holds w:=(nblks T m es).Nodup∧∀e∈es,(e.s T m).holds w
 lt w h b hb:=by
  rw[if_pos h.1] at hb
  obtain⟨e,he,hb⟩:=List.mem_flatMap.1 hb
  exact OwnS.lt (h.2 e he) b hb
 same w w' h hs:=⟨h.1,fun e he=>OwnS.same (h.2 e he) fun b hb=>hs b (by rw[if_pos h.1];exact List.mem_flatMap.2 ⟨e,he,hb⟩)⟩
def Rep.hdr:Rep (Option Addr×Nat×Nat) where
 sz:=1
 r _ c x:=c=[.slice x.1 x.2.1 x.2.2]
 len h:=by rw[h];rfl
 mono _ h:=h
 one h:=by rw[h];rfl
def NL{α:Type}(Q:Rep α)(G:Hp)(es:List NE)(cs:List Value)(x:List (List α)):Prop:=
 OL Rep.hdr G cs (es.map NE.h)∧es.length=x.length∧∀(i:Nat)(e:NE)(y:List α),es[i]?=some e→x[i]?=some y→e.n=y.length∧OL Q G e.cs y
theorem NL.mono{α:Type}{Q:Rep α}{G G':Hp}{es:List NE}{cs:List Value}{x:List (List α)}(hg:HpLe G G')(h:NL Q G es cs x):NL Q G' es cs x:=
 ⟨h.1.mono hg,h.2.1,fun i e y h1 h2=>⟨(h.2.2 i e y h1 h2).1,(h.2.2 i e y h1 h2).2.mono hg⟩⟩
theorem Rep.flat_hdr:Rep.hdr.flat:=fun _ _ _ _ h=>h
theorem NL.flat{α:Type}{Q:Rep α}(hf:Q.flat){G G':Hp}{es:List NE}{cs:List Value}{x:List (List α)}(h:NL Q G' es cs x):NL Q G es cs x:=
 ⟨OL.flat Rep.flat_hdr h.1,h.2.1,fun i e y h1 h2=>⟨(h.2.2 i e y h1 h2).1,OL.flat hf (h.2.2 i e y h1 h2).2⟩⟩
theorem NL.len'{α:Type}{Q:Rep α}{G:Hp}{es:List NE}{cs:List Value}{x:List (List α)}(h:NL Q G es cs x):x.length≤9223372036854775807:=by
 have:=h.1.len';rw[List.length_map,h.2.1] at this;exact this
theorem NL.get{α:Type}{Q:Rep α}{G:Hp}{es:List NE}{cs:List Value}{x:List (List α)}(h:NL Q G es cs x){i:Int}{y:List α}(hx:lidx x i=some y):
  ∃e,es[i.toNat]?=some e∧e.n=y.length∧OL Q G e.cs y∧Elem 1 cs i.toNat [.slice e.a y.length e.k]:=by
 obtain⟨h3,h4,h5⟩:=X4g hx
 have hlt:i.toNat<es.length:=by rw[h.2.1];omega
 have he:es[i.toNat]?=some es[i.toNat]:=List.getElem?_eq_getElem hlt
 obtain⟨hn,ho⟩:=h.2.2 _ _ _ he h5
 refine⟨es[i.toNat],he,hn,ho,?_⟩
 obtain⟨c,hc1,hc2⟩:=h.1.get (i:=i) (x:=es[i.toNat].h) (by
  unfold lidx
  rw[if_pos h3,List.getElem?_map,he];rfl)
 have:c=[.slice es[i.toNat].a es[i.toNat].n es[i.toNat].k]:=hc2
 rw[this,hn] at hc1
 exact hc1
section
variable{P:Program}{c:Cx}{R:Value→World→Prop}{nt:Nat}{w0:World}{S0:List Nat}{df:List Deferred}{ρ ρ':Env}{Fs Fs' Fin B:List Hp}{bl bl':Blks}{sl sl':List OwnS}
 {K K':Act→World→Prop} {k:List Item} {ty:TypeId} {α:Type} {G:Hp}
theorem QOp.inN(q:Nat){T:TypeId}{m:Nat}{es:List NE}{i:Nat}{e:NE}{n:Nat}{op:Op}{v:Value}(hs:sl[q]?=some (.g (packG T m es)))(he:es[i]?=some e)(hn:e.n=n)
  (h:QOp P ρ Fs bl [.s (.slice e.a n e.k) T m n e.cs] op ty v):QOp P ρ Fs bl sl op ty v:=fun nt df a w hf hm=>by
 subst hn
 refine h nt df a w hf ⟨hm.fs,hm.own,fun s hs'=>?_⟩
 rw[List.mem_singleton.1 hs']
 exact(hm.slh _ (List.mem_of_getElem? hs)).2 e (List.mem_of_getElem? he)
theorem Xqy(T:TypeId)(m:Nat):(NE.nil.s T m).blocks=[]:=rfl
theorem Xkh(w:World)(T:TypeId)(m:Nat):(NE.nil.s T m).holds w:=World.ownsRow_nil w 0 T m
theorem Xev(T:TypeId)(m:Nat):∀(es:List NE)(i:Nat)(e e':NE),es[i]?=some e→((nblks T m (es.set i e'))++(e.s T m).blocks).Perm ((e'.s T m).blocks++nblks T m es)
 | [],i,e,e',h=>by simp at h
 |x::es,0,e,e',h=>by
  simp at h;subst h
  simp only [List.set_cons_zero,nblks,List.flatMap_cons]
  rw[List.append_assoc]
  exact List.Perm.append_left _ List.perm_append_comm
 |x::es,i+1,e,e',h=>by
  have ih:=Xev T m es i e e' (by simpa using h)
  simp only [List.set_cons_succ,nblks,List.flatMap_cons] at ih ⊢
  rw[List.append_assoc]
  exact(ih.append_left _).trans (List.perm_append_comm_assoc _ _ _)
theorem Cov.takeN(q:Nat){T:TypeId}{m:Nat}{es:List NE}{i:Nat}{e:NE}{n:Nat}(hs:sl[q]?=some (.g (packG T m es)))(he:es[i]?=some e)(hn:e.n=n)
  (h:Cov nt w0 S0 df ρ Fs bl (.s (.slice e.a n e.k) T m n e.cs::sl.set q (.g (packG T m (es.set i NE.nil)))) K):Cov nt w0 S0 df ρ Fs bl sl K:=fun aa w hf hi=>by
 subst hn
 have hh:(packG T m es).holds w:=hi.mem.slh _ (List.mem_of_getElem? hs)
 have hp:=Xev T m es i e NE.nil he
 rw[Xqy,List.nil_append] at hp
 have hnd:=hp.nodup_iff.2 hh.1
 have hnd2:=List.nodup_append.1 hnd
 have hb1:(packG T m es).blks=nblks T m es:=if_pos hh.1
 have hb2:(packG T m (es.set i NE.nil)).blks=nblks T m (es.set i NE.nil):=if_pos hnd2.1
 have hp1:(blks bl sl).Perm ((packG T m es).blks++blks bl (sl.eraseIdx q)):=by
  have h1:=((X77 sl q _ hs).flatMap_right OwnS.blocks).append_left (bl.map (·.1))
  refine h1.trans ?_
  simp only [List.flatMap_cons,blks]
  exact List.perm_append_comm_assoc _ _ _
 have hp2:(blks bl (.s (.slice e.a e.n e.k) T m e.n e.cs::sl.set q (.g (packG T m (es.set i NE.nil))))).Perm (blks bl sl):=by
  refine List.Perm.trans ?_ hp1.symm
  simp only [blks,List.flatMap_cons]
  have h1:=(Xa2 OwnS.blocks sl q _ (.g (packG T m (es.set i NE.nil))) hs).append_left ((e.s T m).blocks)
  have h2:((e.s T m).blocks++(OwnS.blocks (.g (packG T m (es.set i NE.nil)))++(sl.eraseIdx q).flatMap OwnS.blocks)).Perm ((packG T m es).blks++(sl.eraseIdx q).flatMap OwnS.blocks):=by
   rw[← List.append_assoc]
   refine List.Perm.append_right _ ?_
   show((e.s T m).blocks++(packG T m (es.set i NE.nil)).blks).Perm _
   rw[hb1,hb2]
   exact List.perm_append_comm.trans hp
  exact((h1.trans h2).append_left _).trans (List.perm_append_comm_assoc _ _ _)
 refine h aa w hf (hi.change [] (by simp) (Keep.refl w []) (fun G hG=> .inl hG) hi.mem.own (fun s hs'=>?_) (hp2.nodup_iff.2 hi.nodup) (fun b hb=> .inl (hp2.mem_iff.1 hb)))
 rcases List.mem_cons.1 hs' with rfl |hs'
 ·exact hh.2 e (List.mem_of_getElem? he)
 ·obtain⟨j,hj,rfl⟩:=List.getElem_of_mem hs'
  rw[List.getElem_set]
  split
  ·refine⟨hnd2.1,fun x hx=>?_⟩
   rcases List.mem_or_eq_of_mem_set hx with hx |rfl
   ·exact hh.2 x hx
   ·exact Xkh w T m
  ·exact hi.mem.slh _ (List.getElem_mem (by simpa using hj))
theorem Cov.putN(q:Nat){T:TypeId}{m:Nat}{es:List NE}{i:Nat}{a:Option Addr}{n kk:Nat}{cs:List Value}{s2:List OwnS}(hsl:sl= .s (.slice a n kk) T m n cs::s2)(hs:s2[q]?=some (.g (packG T m es)))(he:es[i]?=some NE.nil)
  (h:Cov nt w0 S0 df ρ Fs bl (s2.set q (.g (packG T m (es.set i ⟨a,n,kk,cs⟩)))) K):Cov nt w0 S0 df ρ Fs bl sl K:=fun aa w hf hi=>by
 subst hsl
 have hh:(packG T m es).holds w:=hi.mem.slh _ (List.mem_cons_of_mem _ (List.mem_of_getElem? hs))
 have ho:(OwnS.s (.slice a n kk) T m n cs).holds w:=hi.mem.slh _ List.mem_cons_self
 have hp:=Xev T m es i NE.nil ⟨a,n,kk,cs⟩ he
 rw[Xqy,List.append_nil] at hp
 have hb1:(packG T m es).blks=nblks T m es:=if_pos hh.1
 have hq:(blks bl (.s (.slice a n kk) T m n cs::s2)).Perm (nblks T m (es.set i ⟨a,n,kk,cs⟩)++blks bl (s2.eraseIdx q)):=by
  simp only [blks,List.flatMap_cons]
  have h1:=((X77 s2 q _ hs).flatMap_right OwnS.blocks).append_left ((OwnS.s (.slice a n kk) T m n cs).blocks)
  simp only [List.flatMap_cons] at h1
  rw[← List.append_assoc (OwnS.blocks _) (OwnS.blocks (.g (packG T m es)))] at h1
  have h2:((OwnS.s (.slice a n kk) T m n cs).blocks++OwnS.blocks (.g (packG T m es))).Perm (nblks T m (es.set i ⟨a,n,kk,cs⟩)):=by
   show(_++(packG T m es).blks).Perm _
   rw[hb1];exact hp.symm
  exact((h1.trans (h2.append_right _)).append_left _).trans (List.perm_append_comm_assoc _ _ _)
 have hnd:=hq.nodup_iff.1 hi.nodup
 have hnd1:=(List.nodup_append.1 hnd).1
 have hb2:(packG T m (es.set i ⟨a,n,kk,cs⟩)).blks=nblks T m (es.set i ⟨a,n,kk,cs⟩):=if_pos hnd1
 have hp2:(blks bl (s2.set q (.g (packG T m (es.set i ⟨a,n,kk,cs⟩))))).Perm (blks bl (.s (.slice a n kk) T m n cs::s2)):=by
  refine List.Perm.trans ?_ hq.symm
  simp only [blks]
  have h1:=(Xa2 OwnS.blocks s2 q _ (.g (packG T m (es.set i ⟨a,n,kk,cs⟩))) hs)
  have h2:OwnS.blocks (.g (packG T m (es.set i ⟨a,n,kk,cs⟩)))=nblks T m (es.set i ⟨a,n,kk,cs⟩):=hb2
  rw[h2] at h1
  exact(h1.append_left _).trans (List.perm_append_comm_assoc _ _ _)
 refine h aa w hf (hi.change [] (by simp) (Keep.refl w []) (fun G hG=> .inl hG) hi.mem.own (fun s hs'=>?_) (hp2.nodup_iff.2 hi.nodup) (fun b hb=> .inl (hp2.mem_iff.1 hb)))
 obtain⟨j,hj,rfl⟩:=List.getElem_of_mem hs'
 rw[List.getElem_set]
 split
 ·refine⟨hnd1,fun x hx=>?_⟩
  rcases List.mem_or_eq_of_mem_set hx with hx |rfl
  ·exact hh.2 x hx
  ·exact ho
 ·exact hi.mem.slh _ (List.mem_cons_of_mem _ (List.getElem_mem (by simpa using hj)))
theorem Xki(T:TypeId)(m:Nat):∀n,nblks T m (List.replicate n NE.nil)=[]
 |0=>rfl
 |n+1=>by
  have:=Xki T m n
  unfold nblks at this ⊢
  rw[List.replicate_succ,List.flatMap_cons,Xqy,List.nil_append];exact this
theorem Cov.pack0(T:TypeId)(m n:Nat)(h:Cov nt w0 S0 df ρ Fs bl (.g (packG T m (List.replicate n NE.nil))::sl) K):Cov nt w0 S0 df ρ Fs bl sl K:=fun aa w hf hi=>by
 have hb0:=Xki T m n
 have hb:blks bl (.g (packG T m (List.replicate n NE.nil))::sl)=blks bl sl:=by
  have:(packG T m (List.replicate n NE.nil)).blks=[]:=by show(if _ then _ else _)=_;rw[hb0];simp
  simp only [blks,List.flatMap_cons,OwnS.blocks,this,List.nil_append]
 refine h aa w hf (hi.change [] (by simp) (Keep.refl w []) (fun G hG=> .inl hG) hi.mem.own (fun s hs=>?_) (by rw[hb];exact hi.nodup) (fun b hx=> .inl (by rwa [hb] at hx)))
 rcases List.mem_cons.1 hs with rfl |hs
 ·refine⟨by rw[hb0];simp,fun e he=>?_⟩
  rw[(List.mem_replicate.1 he).2];exact Xkh w T m
 ·exact hi.mem.slh s hs
theorem Cov.makeN{Q:Rep α}(T:TypeId)(m:Nat){d:Nat}{t el:TypeId}{x y:Operand}{n:Int}{agg:Bool}{bytes:Nat}{l:List (List α)}(hs:Stp P K' ⟨some d, .makeSlice t x y,ty,none⟩ K)(ht:slOf P t=some el)(hel:TyI P el agg 1 bytes [.slice none 0 0])
  (hx:ev ρ x=some (.int .i64 n)) (hy:ev ρ y=some (.int .i64 n)) (hl:lmk n ([]:List α)=some l) (hby:Nat.ble bytes 8388608=true) (hd:Nat.blt d nt=true)
  (hk:∀b es cs,w0.heap.size≤b→NL Q G es cs l→Cov nt w0 S0 df ((d, .slice (some ⟨b,0,none⟩) l.length l.length)::ρ) Fs bl (.s (.slice (some ⟨b,0,none⟩) l.length l.length) el 1 l.length cs:: .g (packG T m es)::sl) K):Cov nt w0 S0 df ρ Fs bl sl K':=by
 obtain⟨h0,h1,rfl⟩:=Xlw hl
 refine Cov.pack0 T m n.toNat ?_
 refine Cov.makeR (G:=G) (Q:=Rep.hdr) (zx:=(none,0,0)) (l:=List.replicate n.toNat (none,0,0)) hs ht hel rfl rfl rfl rfl hx hy ?_ hby hd fun b cs hb ho=>?_
 ·unfold lmk at hl ⊢
  split at hl
  ·rename_i hh;rw[if_pos hh]
  ·cases hl
 ·have hk':=hk b (List.replicate n.toNat NE.nil) cs hb ⟨by rw[List.map_replicate];exact ho,by simp,fun i e z h1 h2=>by
   rw[List.getElem?_replicate] at h1 h2
   split at h1
   ·rename_i hh;rw[if_pos hh] at h2;cases h1;cases h2;exact⟨rfl,OL.nil⟩
   ·cases h1⟩
  simpa using hk'
theorem NL.set{Q:Rep α}{es:List NE}{cs cs':List Value}{x x':List (List α)}{i:Int}{y:List α}{e:NE}(h:NL Q G es cs x)(hl:lupd x i y=some x')(hn:e.n=y.length)(ho:OL Q G e.cs y)(hc:OL Rep.hdr G cs' ((es.map NE.h).set i.toNat e.h)):NL Q G (es.set i.toNat e) cs' x':=by
 obtain⟨hi0,hil,rfl⟩:=Xa3 hl
 refine⟨by rw[List.map_set];exact hc,by simp [h.2.1],fun j e' y' h1 h2=>?_⟩
 rw[List.getElem?_set] at h1 h2
 by_cases hij:i.toNat=j
 ·subst hij
  have:=h.2.1
  rw[if_pos rfl,if_pos (by omega)] at h1
  rw[if_pos rfl,if_pos (by omega)] at h2
  cases h1;cases h2
  exact⟨hn,ho⟩
 ·rw[if_neg hij] at h1 h2
  exact h.2.2 j e' y' h1 h2
theorem NL.hole{es:List NE}{i:Nat}{e:NE}(he:es[i]?=some e):(es.set i NE.nil)[i]?=some NE.nil:=by
 rw[List.getElem?_set,if_pos rfl,if_pos (List.getElem?_eq_some_iff.1 he).1]
theorem Cov.storeN(q1 q2:Nat){Q:Rep α}{oa:Option Addr}{om T0 T m:Nat}{x x':List (List α)}{es:List NE}{cs ics:List Value}{i:Int}{y:List α}{a:Option Addr}{kk:Nat}{t:TypeId}{px u:Operand}{p:Value}{agg:Bool}{bytes:Nat}{z:List Value}{s2:List OwnS}{e:NE}(hs:Stp P K' ⟨none, .store t px u,ty,none⟩ K)
  (hsl:sl= .s (.slice a y.length kk) T m y.length ics::s2) (h1:s2[q1]?=some (.s (.slice oa x.length om) T0 1 x.length cs)) (h2:s2[q2]?=some (.g (packG T m (es.set i.toNat NE.nil)))) (hN:NL Q G es cs x) (he:es[i.toNat]?=some e) (ho:OL Q G ics y) (hl:lupd x i y=some x')
  (hx:ev ρ px=some p) (hp:PtrO p oa x.length om i.toNat 1 0) (hu:ev ρ u=some (.slice a y.length kk)) (ht:TyI P t agg 1 bytes z) (hq:(q1 == q2)=false)
  (hk:∀es' cs',x'.length=x.length→NL Q G es' cs' x'→Cov nt w0 S0 df ρ Fs bl ((s2.set q1 (.s (.slice oa x'.length om) T0 1 x'.length cs')).set q2 (.g (packG T m es'))) K):Cov nt w0 S0 df ρ Fs bl sl K':=by
 refine Cov.putN q2 hsl h2 (NL.hole he) ?_
 have hq':q1≠q2:=by simpa using hq
 have e1:x.length=(es.map NE.h).length:=by rw[List.length_map,hN.2.1]
 have hlen:x'.length=x.length:=by obtain⟨_,_,rfl⟩:=Xa3 hl;simp
 obtain⟨hi0,hil,_⟩:=Xa3 hl
 have hilt:i.toNat<es.length:=by have:=hN.2.1;omega
 have hel:Elem 1 cs i.toNat [.slice e.a e.n e.k]:=by
  obtain⟨c,hc1,hc2⟩:=hN.1.get (i:=i) (x:=e.h) (by
   unfold lidx
   rw[if_pos hi0,List.getElem?_map,he];rfl)
  have:c=[.slice e.a e.n e.k]:=hc2
  rwa [this] at hc1
 refine Cov.storeR q1 0 (Q:=Rep.hdr) (y:=(a,y.length,kk)) (l:=es.map NE.h) (l':=(es.map NE.h).set i.toNat (a,y.length,kk)) (sz:=1) hs (by rw[List.getElem?_set_ne (Ne.symm hq'),h1,e1]) rfl hN.1 ?_ hx (by rw[← e1];exact hp) hu ht hel ?_ rfl rfl fun cs' hll ho'=>?_
 ·unfold lupd
  rw[if_pos ⟨hi0,by rw[← e1];exact hil⟩]
 ·show _=[_]
  simp [cellsL,Value.cells]
 ·have hN':NL Q G (es.set i.toNat ⟨a,y.length,kk,ics⟩) cs' x':=hN.set hl rfl ho (by simpa [NE.h] using ho')
  have hk':=hk _ cs' hlen hN'
  have e2:((es.map NE.h).set i.toNat (a,y.length,kk)).length=x'.length:=by rw[List.length_set, ← e1,hlen]
  rw[e2]
  rw[List.set_set] at*
  rw[List.set_comm _ _ hq'] at hk'
  exact hk'
theorem Cov.backN(q1 q:Nat){Q:Rep α}{oa:Option Addr}{om T0 T m:Nat}{x x':List (List α)}{es:List NE}{cs ics:List Value}{i:Int}{y:List α}{s2:List OwnS}{e:NE}(hsl:sl= .s (.slice e.a y.length e.k) T m y.length ics::s2)(h1:s2[q1]?=some (.s (.slice oa x.length om) T0 1 x.length cs))(h2:s2[q]?=some (.g (packG T m (es.set i.toNat NE.nil))))(hN:NL Q G es cs x)(he:es[i.toNat]?=some e)(hn:y.length=e.n)(ho:OL Q G ics y)(hl:lupd x i y=some x')
  (hk:∀es',x'.length=x.length→NL Q G es' cs x'→es'.map NE.h=es.map NE.h→Cov nt w0 S0 df ρ Fs bl ((s2.set q1 (.s (.slice oa x'.length om) T0 1 x'.length cs)).set q (.g (packG T m es'))) K):Cov nt w0 S0 df ρ Fs bl sl K:=by
 refine Cov.putN q hsl h2 (NL.hole he) ?_
 have hlen:x'.length=x.length:=by obtain⟨_,_,rfl⟩:=Xa3 hl;simp
 have hsame:(es.map NE.h).set i.toNat (NE.h ⟨e.a,y.length,e.k,ics⟩)=es.map NE.h:=by
  have h3:(es.map NE.h)[i.toNat]?=some (NE.h ⟨e.a,y.length,e.k,ics⟩):=by rw[List.getElem?_map,he];simp [NE.h,hn]
  obtain⟨hlt,h4⟩:=List.getElem?_eq_some_iff.1 h3
  rw[← h4];exact List.set_getElem_self hlt
 have hN':NL Q G (es.set i.toNat ⟨e.a,y.length,e.k,ics⟩) cs x':=hN.set hl rfl ho (by rw[hsame];exact hN.1)
 have hk':=hk _ hlen hN' (by rw[List.map_set];exact hsame)
 have hs:s2.set q1 (.s (.slice oa x'.length om) T0 1 x'.length cs)=s2:=by
  obtain⟨hlt,h4⟩:=List.getElem?_eq_some_iff.1 h1
  rw[hlen, ← h4];exact List.set_getElem_self hlt
 rw[hs] at hk'
 rw[List.set_set]
 exact hk'
theorem Rd.entry{T m:Nat}{es:List NE}{G':Hp}(h:Rd (.g (packG T m es)) G'){e:NE}(he:e∈es):Rd (e.s T m) G':=by
 obtain⟨w,hh,hb⟩:=h
 exact⟨w,hh.2 e he,fun b hbe=>hb b (by
  show b∈(if _ then _ else _)
  rw[if_pos hh.1];exact List.mem_flatMap.2 ⟨e,he,hbe⟩)⟩
theorem SlR.rdN{Q:Rep α}{G':Hp}{a:Option Addr}{kk T0 T m:Nat}{x:List (List α)}{es:List NE}{cs:List Value}(hN:NL Q G es cs x)(hm:m=Q.sz)(hle:HpLe G G')(h1:Rd (.s (.slice a x.length kk) T0 1 x.length cs) G')(h2:Rd (.g (packG T m es)) G'):SlR (Rep.sl Q) G' a kk x:=by
 refine SlR.rd (G:=G') (T:=T0) ?_ rfl (HpLe.refl _) h1
 obtain⟨⟨hb,xs,rfl,h3,h4⟩,h5,h6⟩:=hN
 rw[List.length_map] at hb
 refine⟨by omega,xs,rfl,h3,by rw[h4.1,List.length_map,h5],fun i c y hc hy=>?_⟩
 have hlt:i<es.length:=by rw[h5];exact(List.getElem?_eq_some_iff.1 hy).1
 have he:es[i]?=some es[i]:=List.getElem?_eq_getElem hlt
 obtain⟨hn,ho⟩:=h6 i _ y he hy
 have hc':c=[.slice es[i].a es[i].n es[i].k]:=h4.2 i c es[i].h hc (by rw[List.getElem?_map,he];rfl)
 refine⟨es[i].a,es[i].k,by rw[hc',hn],?_⟩
 have hr:=h2.entry (List.getElem_mem hlt)
 unfold NE.s at hr
 rw[hn] at hr
 exact SlR.rd ho hm hle hr
theorem Cov.freezeN{Q:Rep α}{a:Option Addr}{kk T0 T m:Nat}{x:List (List α)}{es:List NE}{cs:List Value}{s2:List OwnS}(hsl:sl= .s (.slice a x.length kk) T0 1 x.length cs:: .g (packG T m es)::s2)(hN:NL Q G es cs x)(hm:m=Q.sz)(hB:Bd w0 S0 B G)
  (hk:∀G',HpLe G G'→Bd w0 S0 B G'→SlR (Rep.sl Q) G' a kk x→Cov nt w0 S0 df ρ (G'::B) bl s2 K):Cov nt w0 S0 df ρ (G::B) bl sl K:=fun aa w hf hi=>by
 subst hsl
 have hi':Inv w0 S0 (G::B) bl ([]++([.s (.slice a x.length kk) T0 1 x.length cs, .g (packG T m es)]++s2)) w:=hi
 obtain⟨G',hle,hrd,hi2,hbd,_⟩:=hi'.lendB
 refine Cov.less (Fs':=G'::B) ?_ (hk G' hle (hbd B hB) (SlR.rdN hN hm hle (hrd _ List.mem_cons_self) (hrd _ (List.mem_cons_of_mem _ List.mem_cons_self)))) aa w hf hi2
 intro F hF
 rcases List.mem_cons.1 hF with rfl |hF
 ·exact List.mem_cons_self
 ·exact List.mem_cons_of_mem _ (List.mem_cons_of_mem _ hF)
end
end Go.Proofs.YtmfppphlhgneeaaGreat
end

section
namespace Go.Proofs.YtmfppphlhgneeaaGreat
open Go.RowKit
set_option linter.unusedVariables false
theorem SlR.cells{α:Type}{Q:Rep α}{G:Hp}{a:Option Addr}{k:Nat}{l:List α}(h:SlR Q G a k l):∃xs:List (List Value),(∀x∈xs,x.length=Q.sz)∧RL Q G xs l∧(a=none→l=[])∧
  ∀w,HpIn G w→∀ad,a=some ad→∀(j:Nat) u,xs.flatten[j]?=some u→w.cell? (ad.add j)=some u:=by
 have hnil:a=none→l=[]:=fun e=>h.isnil (by simp [e])
 obtain⟨_,xs,⟨a',cap,hv,hc,hsz,hcc⟩,hrl⟩:=h
 simp only [Value.slice.injEq] at hv
 obtain⟨rfl,hlen,rfl⟩:=hv
 refine⟨xs,hsz,hrl,hnil,fun w hw ad had j u hj=>?_⟩
 have hne:xs≠[]:=by rintro rfl;simp at hj
 obtain⟨b,o,hb,hcell⟩:=hcc hne
 rw[had] at hb
 cases hb
 have hfl:=Xj2 hsz
 have hlt:j<xs.length*Q.sz:=by rw[← hfl];exact(List.getElem?_eq_some_iff.1 hj).1
 have hpos:0<Q.sz:=by
  rcases Nat.eq_zero_or_pos Q.sz with h |h
  ·rw[h] at hlt;omega
  ·exact h
 have hq:j/Q.sz<xs.length:=Nat.div_lt_of_lt_mul (by rw[Nat.mul_comm];exact hlt)
 have hm:j%Q.sz<Q.sz:=Nat.mod_lt _ hpos
 have hxq:xs[j/Q.sz]?=some xs[j/Q.sz]:=List.getElem?_eq_getElem hq
 have hl2:=hsz _ (List.getElem_mem hq)
 have hg:=X6e xs (j/Q.sz) _ (j%Q.sz) ((xs[j/Q.sz])[j%Q.sz]'(by omega)) hsz hxq (List.getElem?_eq_getElem _)
 have hdm:j/Q.sz*Q.sz+j%Q.sz=j:=by rw[Nat.mul_comm];exact Nat.div_add_mod j Q.sz
 rw[hdm] at hg
 rw[hg] at hj
 have:=hcell (j/Q.sz) _ hxq (j%Q.sz) u (by rw[List.getElem?_eq_getElem (by omega)];exact hj)
 rw[Nat.add_assoc,hdm] at this
 rw[X1y]
 exact hw.cell this
section
variable{P:Program}{c:Cx}{R:Value→World→Prop}{nt:Nat}{w0:World}{S0:List Nat}{df:List Deferred}{ρ ρ':Env}{Fs Fs' Fin B:List Hp}{bl bl':Blks}{sl sl':List OwnS}
 {K K':Act→World→Prop} {k:List Item} {ty:TypeId} {α:Type} {G:Hp}
end
end Go.Proofs.YtmfppphlhgneeaaGreat
end

section
namespace Go.Proofs.YtmfppphlhgneeaaGreat
open Go.RowKit
variable{P:Program}{ρ:Env}{Fs:List Hp}{bl:Blks}{sl:List OwnS}{ty:TypeId}
theorem QOp.shlw{t u:TypeId}{x y:Operand}{k k':IntKind}{m n:Int}(hx:ev ρ x=some (.int k m))(hy:ev ρ y=some (.int k' n))(hn:0≤n):QOp P ρ Fs bl sl (.binOp .shl t x y u) ty (.int k (shlI k m n)):=
 .bin hx hy fun w=>by
  have h1:(eqGuard .shl t x y (.int k m) (.int k' n)).run P w= .ok () w:=rfl
  rw[Sem.run_bind,h1]
  simp only [Result.andThen_ok]
  have:Op.shift .shl k m k' n=pure (.int k (shlI k m n)):=by
   unfold Op.shift shlI;rw[if_neg (by omega)]
  simp only [binOp]
  rw[this]
  rfl
theorem QOp.shrw{t u:TypeId}{x y:Operand}{k k':IntKind}{m n:Int}(hx:ev ρ x=some (.int k m))(hy:ev ρ y=some (.int k' n))(hn:0≤n):QOp P ρ Fs bl sl (.binOp .shr t x y u) ty (.int k (shrI k m n)):=
 .bin hx hy fun w=>by
  have h1:(eqGuard .shr t x y (.int k m) (.int k' n)).run P w= .ok () w:=rfl
  rw[Sem.run_bind,h1]
  simp only [Result.andThen_ok]
  have:Op.shift .shr k m k' n=pure (.int k (shrI k m n)):=by
   unfold Op.shift shrI;rw[if_neg (by omega)]
  simp only [binOp]
  rw[this]
  rfl
theorem QOp.andw{t u:TypeId}{x y:Operand}{k:IntKind}{m n:Int}(hx:ev ρ x=some (.int k m))(hy:ev ρ y=some (.int k n)):
  QOp P ρ Fs bl sl (.binOp .and t x y u) ty (.int k (andI k m n)):= .int hx hy fun w=>by simp only [binOp,Op.intBits,ne_eq,not_true_eq_false,if_false];rfl
theorem QOp.orw{t u:TypeId}{x y:Operand}{k:IntKind}{m n:Int}(hx:ev ρ x=some (.int k m))(hy:ev ρ y=some (.int k n)):
  QOp P ρ Fs bl sl (.binOp .or t x y u) ty (.int k (orI k m n)):= .int hx hy fun w=>by simp only [binOp,Op.intBits,ne_eq,not_true_eq_false,if_false];rfl
end Go.Proofs.YtmfppphlhgneeaaGreat
end

section
namespace Go.Proofs.YtmfppphlhgneeaaGreat
open Go.RowKit
set_option linter.unusedVariables false
def PartV(a:Option Addr)(sz:Nat)(v:Value)(i len:Nat):Prop:=∃a' c',v= .slice a' len c'∧len≤c'∧(len≠0→∀g o,a=some ⟨g,o,none⟩→a'=some ⟨g,o+i*sz,none⟩)
theorem PartV.whole{a:Option Addr}{sz n m:Nat}(h:n≤m):PartV a sz (.slice a n m) 0 n:=⟨a,m,rfl,h,fun _ g o e=>by rw[e];simp⟩
theorem PartV.sub{a:Option Addr}{sz:Nat}{v:Value}{i len:Nat}(h:PartV a sz v i len){i' j':Nat}(h1:i'≤j')(h2:j'≤len):PartV a sz (subV v i' j' sz) (i+i') (j'-i'):=by
 obtain⟨a',c',rfl,hc,ha⟩:=h
 refine⟨_,_,rfl,by omega,fun hne g o e=>?_⟩
 have:=ha (by omega) g o e
 subst this
 rw[if_neg (by omega)]
 simp [X1y,Nat.add_mul,Nat.add_assoc]
theorem Xkj{P:Program}(w:World)(dT sT ty elem:TypeId)(sz g o dLen dCap sLen:Nat)(s:Value)(cur:Array Value)(t:TypeId)(cs:List Value)
  (hu:P.underlying dT=some (.slice elem)) (hs:szOf P elem=some sz) (hg:w.heap[g]?=some (.cells cur t (0,0))) (hl:(Builtin.lenOf s).run P w= .ok sLen w)
  (hf:(Builtin.firstCells sz (Nat.min sLen dLen) s).run P w= .ok cs.toArray w) (hfit:o+cs.length≤cur.size) (h1:∀v∈cs,v.oneCell'=true):
  (Builtin.copy_ #[dT,sT] ty #[.slice (some ⟨g,o,none⟩) dLen dCap,s]).run P w= .ok (goInt (Nat.min sLen dLen)) (w.setRow g (cur.toList.take o++cs++cur.toList.drop (o+cs.length)).toArray):=by
 have hst:=run_storeCells_at P g o t cs 0 cur w hg (by simpa using hfit) h1
 simp only [Nat.add_zero] at hst
 unfold Builtin.copy_
 simp [run_underlying hu,hl,X3g hs,hf,hst]
theorem Xj3{P:Program}(w:World)(dT sT ty elem:TypeId)(sz dLen dCap sLen:Nat)(d:Option Addr)(s:Value)(hu:P.underlying dT=some (.slice elem))(hs:szOf P elem=some sz)(hl:(Builtin.lenOf s).run P w= .ok sLen w)
  (hf:(Builtin.firstCells sz 0 s).run P w= .ok #[] w) (h0:Nat.min sLen dLen=0):
  (Builtin.copy_ #[dT,sT] ty #[.slice d dLen dCap,s]).run P w= .ok (goInt 0) w:=by
 unfold Builtin.copy_
 cases d<;>simp [run_underlying hu,hl,X3g hs,hf,h0,storeCells]
def SrcV(P:Program)(Fs:List Hp)(bl:Blks)(sl:List OwnS){α:Type}(Q:Rep α)(G:Hp)(s:Value)(ls:List α):Prop:=
 ∀w,Mem Fs bl sl w→(Builtin.lenOf s).run P w= .ok ls.length w∧∀n,n≤ls.length→n≤16777216→∃c:List Value,(Builtin.firstCells Q.sz n s).run P w= .ok c.toArray w∧OL Q G c (ls.take n)
section
variable{α:Type}{Q:Rep α}{G:Hp}
theorem OL.take{cs:List Value}{l:List α}(h:OL Q G cs l)(i:Nat):OL Q G (cs.take (i*Q.sz)) (l.take i):=by
 obtain⟨hb,xs,rfl,h3,h4,h5⟩:=h
 have key:∀(xs:List (List Value))(i:Nat),(∀x∈xs,x.length=Q.sz)→xs.flatten.take (i*Q.sz)=(xs.take i).flatten:=by
  intro xs
  induction xs with
  |nil=>intro i _;simp
  |cons x xs ih=>
   intro i hx
   cases i with
   |zero=>simp
   |succ i=>
    have hl:=hx x List.mem_cons_self
    rw[List.flatten_cons,List.take_succ_cons,List.flatten_cons, ← ih i fun y hy=>hx y (List.mem_cons_of_mem _ hy),Nat.add_mul,List.take_append,hl,List.take_of_length_le (by omega)]
    congr 2;omega
 refine⟨by rw[List.length_take];omega,xs.take i,key xs i h3,fun x hx=>h3 x (List.mem_of_mem_take hx),by rw[List.length_take,List.length_take,h4],fun j c x hc hx=>?_⟩
 have hj:j<i:=by
  rcases Nat.lt_or_ge j i with h |h
  ·exact h
  ·rw[List.getElem?_take_eq_none h] at hx;cases hx
 rw[List.getElem?_take_of_lt hj] at hc hx
 exact h5 j c x hc hx
theorem OL.drop{cs:List Value}{l:List α}(h:OL Q G cs l)(i:Nat):OL Q G (cs.drop (i*Q.sz)) (l.drop i):=by
 obtain⟨hb,xs,rfl,h3,h4,h5⟩:=h
 have key:∀(xs:List (List Value))(i:Nat),(∀x∈xs,x.length=Q.sz)→xs.flatten.drop (i*Q.sz)=(xs.drop i).flatten:=by
  intro xs
  induction xs with
  |nil=>intro i _;simp
  |cons x xs ih=>
   intro i hx
   cases i with
   |zero=>simp
   |succ i=>
    have hl:=hx x List.mem_cons_self
    rw[List.flatten_cons,List.drop_succ_cons, ← ih i fun y hy=>hx y (List.mem_cons_of_mem _ hy),Nat.add_mul,List.drop_append,hl,List.drop_of_length_le (by omega),List.nil_append]
    congr 1;omega
 refine⟨by rw[List.length_drop];omega,xs.drop i,key xs i h3,fun x hx=>h3 x (List.mem_of_mem_drop hx),by rw[List.length_drop,List.length_drop,h4],fun j c x hc hx=>?_⟩
 rw[List.getElem?_drop] at hc hx
 exact h5 _ c x hc hx
theorem OL.append{cs cs':List Value}{l l':List α}(h:OL Q G cs l)(h':OL Q G cs' l')(hb:l.length+l'.length≤16777216):OL Q G (cs++cs') (l++l'):=by
 obtain⟨_,xs,rfl,h3,h4,h5⟩:=h
 obtain⟨_,ys,rfl,k3,k4,k5⟩:=h'
 refine⟨by rw[List.length_append];exact hb,xs++ys,by rw[List.flatten_append],fun x hx=>?_,by rw[List.length_append,List.length_append,h4,k4],fun j c x hc hx=>?_⟩
 ·rcases List.mem_append.1 hx with hx |hx
  ·exact h3 x hx
  ·exact k3 x hx
 ·by_cases hj:j<xs.length
  ·rw[List.getElem?_append_left hj] at hc
   rw[List.getElem?_append_left (by omega)] at hx
   exact h5 j c x hc hx
  ·rw[List.getElem?_append_right (by omega)] at hc
   rw[List.getElem?_append_right (by omega)] at hx
   rw[h4] at hc
   exact k5 _ c x hc hx
theorem OL.ones{cs:List Value}{l:List α}(h:OL Q G cs l):∀v∈cs,v.oneCell'=true:=fun v hv=>by
 obtain⟨_,xs,rfl,h3,h4,h5⟩:=h
 obtain⟨x,hx,hvx⟩:=List.mem_flatten.1 hv
 obtain⟨i,hi,rfl⟩:=List.getElem_of_mem hx
 have:=Q.one (h5 i _ _ (List.getElem?_eq_getElem hi) (List.getElem?_eq_getElem (by omega)))
 exact List.all_eq_true.1 this v hvx
end
section
variable{P:Program}{Fs:List Hp}{bl:Blks}{sl:List OwnS}{α:Type}{Q:Rep α}{G:Hp}
theorem SrcV.nil:SrcV P Fs bl sl Q G (.slice none 0 0) ([]:List α):=fun w _=>⟨rfl,fun n hn _=>by
 obtain rfl:n=0:=by simpa using hn
 exact⟨[],by simp [Builtin.firstCells],OL.nil⟩⟩
theorem SrcV.rd{a:Option Addr}{k:Nat}{l:List α}(h:SlR Q G a k l)(hG:G∈Fs):SrcV P Fs bl sl Q G (.slice a l.length k) l:=fun w hm=>⟨rfl,fun n hn hb=>by
 obtain⟨xs,h1,h2,h3,h4⟩:=h.cells
 have ho:OL Q G (xs.take n).flatten (l.take n):=by
  refine⟨by rw[List.length_take];omega,xs.take n,rfl,fun x hx=>h1 x (List.mem_of_mem_take hx),by rw[List.length_take,List.length_take,h2.1],fun j c x hc hx=>?_⟩
  have hj:j<n:=by
   rcases Nat.lt_or_ge j n with h |h
   ·exact h
   ·rw[List.getElem?_take_eq_none h] at hx;cases hx
  rw[List.getElem?_take_of_lt hj] at hc hx
  exact h2.2 j c x hc hx
 refine⟨_,?_,ho⟩
 have hcl:=ho.clen
 rw[List.length_take,Nat.min_eq_left hn] at hcl
 cases a with
 |none=>
  have:=h3 rfl
  subst this
  obtain rfl:n=0:=by simpa using hn
  simp [Builtin.firstCells]
 |some ad=>
  refine run_firstCells_some _ _ _ _ _ _ _ hcl fun j v hj=>?_
  have hpre:(xs.take n).flatten<+:xs.flatten:=⟨(xs.drop n).flatten,by rw[← List.flatten_append,List.take_append_drop]⟩
  obtain⟨r,hr⟩:=hpre
  refine h4 w (hm.fs G hG) ad rfl j v ?_
  rw[← hr,List.getElem?_append_left (List.getElem?_eq_some_iff.1 hj).1]
  exact hj⟩
theorem SrcV.part(q:Nat){a:Option Addr}{m T:Nat}{l ls:List α}{cs:List Value}{v:Value}{i:Nat}(hs:sl[q]?=some (.s (.slice a l.length m) T Q.sz l.length cs))(ho:OL Q G cs l)(hp:PartV a Q.sz v i ls.length)(hl:ls=(l.drop i).take ls.length):SrcV P Fs bl sl Q G v ls:=fun w hm=>by
 obtain⟨a',c',rfl,hc,ha⟩:=hp
 refine⟨rfl,fun n hn hb=>?_⟩
 by_cases h0:n=0
 ·subst h0
  refine⟨[],?_,by simpa using OL.nil⟩
  cases a' with
  |none=>simp [Builtin.firstCells]
  |some ad=>exact run_firstCells_some (P:=P) (w:=w) (size:=Q.sz) (n:=0) (b:=ad) (len:=ls.length) (cap:=c') (cs:=[]) (by simp) (by simp)
 have hlen:ls.length≤l.length-i:=by
  have:=congrArg List.length hl
  rw[List.length_take,List.length_drop] at this
  omega
 have hown:w.ownsRow 0 T Q.sz (.slice a l.length m) l.length cs:=hm.slh _ (List.mem_of_getElem? hs)
 obtain⟨g,rfl,hcell⟩:=Xer hown (by omega)
 have:=ha (by omega) g 0 rfl
 rw[Nat.zero_add] at this
 subst this
 have h1:=(ho.drop i).take n
 have e:(l.drop i).take n=ls.take n:=by rw[hl,List.take_take,Nat.min_eq_left hn]
 rw[e] at h1
 refine⟨_,?_,h1⟩
 have hcl:=h1.clen
 have hln:(ls.take n).length=n:=by simp;omega
 rw[hln] at hcl
 refine run_firstCells_some _ _ _ _ _ _ _ hcl fun j u hj=>?_
 have hjl:j<n*Q.sz:=by rw[← hcl];exact(List.getElem?_eq_some_iff.1 hj).1
 rw[List.getElem?_take_of_lt hjl,List.getElem?_drop] at hj
 rw[X1y]
 refine hcell _ _ ?_ hj
 have h2:(i+n)*Q.sz≤l.length*Q.sz:=Nat.mul_le_mul_right _ (by omega)
 rw[Nat.add_mul] at h2
 omega
theorem SrcV.osub(q:Nat){a:Option Addr}{m T:Nat}{l ls:List α}{cs:List Value}{v:Value}{lo hi:Int}(hs:sl[q]?=some (.s (.slice a l.length m) T Q.sz l.length cs))(ho:OL Q G cs l)(hp:PartV a Q.sz v lo.toNat (hi-lo).toNat)(hu:lsub l lo hi=some ls):SrcV P Fs bl sl Q G v ls:=by
 obtain⟨h1,h2,h3,rfl⟩:=Xci hu
 have e:((l.drop lo.toNat).take (hi-lo).toNat).length=(hi-lo).toNat:=by simp only [List.length_take,List.length_drop];omega
 exact SrcV.part q hs ho (by rw[e];exact hp) (by rw[e])
theorem SrcV.own(q:Nat){a:Option Addr}{m T:Nat}{l:List α}{cs:List Value}(hs:sl[q]?=some (.s (.slice a l.length m) T Q.sz l.length cs))(ho:OL Q G cs l)(hc:l.length≤m):SrcV P Fs bl sl Q G (.slice a l.length m) l:=
 SrcV.part q hs ho (PartV.whole hc) (by simp)
theorem SrcV.str{s:ByteArray}(hs:s.size≤9223372036854775807):SrcV P Fs bl sl (Rep.int .u8) G (.string s) (toB s):=fun w _=>by
 have hlen:(toB s).length=s.size:=by unfold toB;simp
 refine⟨by rw[hlen];rfl,fun n hn hb=>?_⟩
 have e:(Builtin.firstCells (Rep.int .u8).sz n (.string s)).run P w= .ok (((toB s).take n).map fun x=>Value.int .u8 x).toArray w:=by
  simp only [Builtin.firstCells]
  show Result.ok _ w=_
  congr 1
  apply Array.ext'
  unfold toB
  simp [ByteArray.data_extract,List.map_take]
  rfl
 refine⟨_,e,?_⟩
 exact(OL.one_iff rfl).2 ⟨by rw[List.length_take];omega,by simp,fun j v x hv hx=>by
  rw[List.getElem?_map,hx] at hv
  simp only [Option.map_some,Option.some.injEq] at hv
  subst hv
  rfl⟩
theorem SrcV.str'{s:ByteArray}{l:List Int}(hu:tobs s=some l):SrcV P Fs bl sl (Rep.int .u8) G (.string s) l:=by
 obtain⟨h,rfl⟩:=Xka hu
 exact SrcV.str h
end
section
variable{P:Program}{c:Cx}{R:Value→World→Prop}{nt:Nat}{w0:World}{S0:List Nat}{df:List Deferred}{ρ ρ':Env}{Fs Fs' Fin B:List Hp}{bl bl':Blks}{sl sl':List OwnS}
 {K K':Act→World→Prop} {k:List Item} {ty:TypeId} {G:Hp} {α:Type}
theorem QOp.sliceP{a:Option Addr}{sz:Nat}{lo hi i j:Int}{u:Int×Int}{v:Value}{t el:TypeId}{x:Operand}{l h:Option Operand}(hx:ev ρ x=some v)(hp:PartV a sz v lo.toNat (hi-lo).toNat)(hu:psub lo hi i j=some u)
  (ht:slOf P t=some el) (hz:szOf P el=some sz) (hlo:0≤i→Bnd ρ 0 l i.toNat) (hhi:0≤j→Bnd ρ (hi-lo).toNat h j.toNat):QOp P ρ Fs bl sl (.slice t x l h none) ty (subV v i.toNat j.toNat sz):=by
 obtain⟨h1,h2,h3,h4,_⟩:=Xkb hu
 obtain⟨a',c',rfl,hc,_⟩:=hp
 exact .slice_sl hx rfl ht hz (hlo h2) (hhi (by omega)) (by omega) (by omega)
theorem PartV.psub{a:Option Addr}{sz:Nat}{lo hi i j:Int}{u:Int×Int}{v:Value}(hp:PartV a sz v lo.toNat (hi-lo).toNat)(hu:psub lo hi i j=some u):PartV a sz (subV v i.toNat j.toNat sz) u.1.toNat (u.2-u.1).toNat:=by
 obtain⟨h1,h2,h3,h4,rfl⟩:=Xkb hu
 have:=hp.sub (i':=i.toNat) (j':=j.toNat) (by omega) (by omega)
 have e1:lo.toNat+i.toNat=(lo+i).toNat:=by omega
 have e2:j.toNat-i.toNat=(lo+j-(lo+i)).toNat:=by omega
 rw[e1,e2] at this
 exact this
theorem PartV.all{a:Option Addr}{sz n m:Nat}(h:n≤m):PartV a sz (.slice a n m) (0:Int).toNat ((n:Int)-0).toNat:=by
 have:=PartV.whole (a:=a) (sz:=sz) h
 simpa using this
theorem QOp.idxP(q:Nat){a:Option Addr}{m T sz:Nat}{l:List α}{cs:List Value}{lo hi i u:Int}{y:α}{kk:IntKind}{t el:TypeId}{x j:Operand}{v:Value}(hs:sl[q]?=some (.s (.slice a l.length m) T sz l.length cs))(hx:ev ρ x=some v)(hp:PartV a sz v lo.toNat (hi-lo).toNat)
  (hj:ev ρ j=some (.int kk i)) (hu:pidx lo hi i=some u) (he:lidx l u=some y) (ht:slOf P t=some el) (hz:szOf P el=some sz):QOp P ρ Fs bl sl (.indexAddr t x j) ty (elemPtr (.slice a l.length m) u.toNat sz):= .of fun e he' w hm=>by
 obtain⟨h1,h2,h3,rfl⟩:=Xnh hu
 obtain⟨h5,h6,_⟩:=X4g he
 obtain⟨g,rfl,_⟩:=Xer (hm.slh _ (List.mem_of_getElem? hs)) (by omega)
 obtain⟨a',c',rfl,hc,ha⟩:=hp
 have:=ha (by omega) g 0 rfl
 rw[Nat.zero_add] at this
 subst this
 refine X8m (s:=Instr.indexAt t (e x) (e j)) ?_
 rw[he' x _ hx,he' j _ hj]
 have:=Xdv (P:=P) (w:=w) (t:=t) (el:=el) (a:=⟨g,lo.toNat*sz,none⟩) (len:=(hi-lo).toNat) (cap:=c') (k:=kk) ht hz h2 (by omega)
 rw[this]
 simp only [elemPtr,X1y]
 congr 4
 rw[show(lo+i).toNat=lo.toNat+i.toNat from by omega,Nat.add_mul,Nat.zero_add]
theorem Cov.copyG(q:Nat){Q:Rep α}{d:Nat}{t t2 e:TypeId}{x y:Operand}{v s:Value}{a:Option Addr}{m T:Nat}{l ld ls:List α}{lo hi:Int}{cs:List Value}(hs:Stp P K' ⟨some d, .call ⟨.builtin .copy,#[x,y],#[t,t2]⟩,ty,none⟩ K)(ht:slOf P t=some e)(hz:szOf P e=some Q.sz)
  (hi0:sl[q]?=some (.s (.slice a l.length m) T Q.sz l.length cs)) (ho:OL Q G cs l) (hd1:lsub l lo hi=some ld) (hx:ev ρ x=some v) (hp:PartV a Q.sz v lo.toNat (hi-lo).toNat) (hy:ev ρ y=some s) (hsrc:SrcV P Fs bl sl Q G s ls) (hd:Nat.blt d nt=true)
  (hk:∀cs',(lcpy l lo ld.length ls).length=l.length→OL Q G cs' (lcpy l lo ld.length ls)→Cov nt w0 S0 df ((d, .int .i64 ((min ls.length ld.length:Nat):Int))::ρ) Fs bl (sl.set q (.s (.slice a (lcpy l lo ld.length ls).length m) T Q.sz (lcpy l lo ld.length ls).length cs')) K):Cov nt w0 S0 df ρ Fs bl sl K':=fun a' w hf hinv=>by
 refine hs a' w ?_
 obtain⟨a1,a2,a3,rfl⟩:=Xci hd1
 have hld:((l.drop lo.toNat).take (hi-lo).toNat).length=(hi-lo).toNat:=by simp only [List.length_take,List.length_drop];omega
 rw[hld] at hk
 have hown:w.ownsRow 0 T Q.sz (.slice a l.length m) l.length cs:=hinv.mem.slh _ (List.mem_of_getElem? hi0)
 obtain⟨hlen,hcells⟩:=hsrc w hinv.mem
 obtain⟨pa,pc,rfl,hpc,hpa⟩:=hp
 have hrunv:∀{z:Value}{w':World},(Builtin.copy_ #[t,t2] ty #[.slice pa (hi-lo).toNat pc,s]).run P w= .ok z w'→
   (execOp a'.eval (⟨some d, .call ⟨.builtin .copy,#[x,y],#[t,t2]⟩,ty,none⟩:OpX).oper).run P w= .ok (.value z) w':=fun {z w'} h=>by
  refine X9i (X8m (s:=Builtin.copy_ #[t,t2] ty (#[x,y].map a'.eval)) ?_)
  rw[show #[x,y].map a'.eval=#[a'.eval x,a'.eval y] from by simp,X15 hf hx,X15 hf hy]
  exact h
 unfold Oper.wp
 by_cases h0:Nat.min ls.length (hi-lo).toNat=0
 ·obtain⟨c0,hc0,ho0⟩:=hcells 0 (by omega) (by omega)
  have hc00:c0=[]:=by
   have:=ho0.clen
   simp at this
   exact this
  subst hc00
  rw[hrunv (Xj3 w t t2 ty e Q.sz (hi-lo).toNat pc ls.length pa s (X8n ht) hz hlen hc0 h0)]
  have h0':min ls.length (hi-lo).toNat=0:=h0
  have e1:=Xkf (l:=l) (i:=lo) h0'
  have hk':=hk cs (by rw[e1]) (by rw[e1];exact ho)
  rw[e1,h0'] at hk'
  have e3:sl.set q (.s (.slice a l.length m) T Q.sz l.length cs)=sl:=by
   apply List.ext_getElem?
   intro z
   rw[List.getElem?_set]
   split
   ·rename_i hh;subst hh
    split
    ·exact hi0.symm
    ·rename_i hlt;rw[List.getElem?_eq_none (by omega)]
   ·rfl
  rw[e3] at hk'
  exact hk' _ _ (hf.put hd _) hinv
 ·have hmin:min ls.length (hi-lo).toNat≠0:=h0
  generalize hnn:min ls.length (hi-lo).toNat=n at hmin hk
  have hnn':Nat.min ls.length (hi-lo).toNat=n:=hnn
  have hb:=ho.1
  obtain⟨c0,hc0,ho0⟩:=hcells n (by omega) (by omega)
  rcases hown.2 with ⟨_,hl0⟩ | ⟨g,cap',cur,hv,hbase,hg,hnc,hm2,hcs,htake⟩
  ·omega
  ·cases hv
   have:=hpa (by omega) g 0 rfl
   rw[Nat.zero_add] at this
   subst this
   have hc0l:=ho0.clen
   rw[List.length_take,Nat.min_eq_left (by omega)] at hc0l
   have hnl:(lo.toNat+n)*Q.sz≤l.length*Q.sz:=Nat.mul_le_mul_right _ (by omega)
   have hlm:l.length*Q.sz≤m*Q.sz:=Nat.mul_le_mul_right _ hnc
   have hnl':=hnl
   rw[Nat.add_mul] at hnl
   have hrun:=Xkj (P:=P) w t t2 ty e Q.sz g (lo.toNat*Q.sz) (hi-lo).toNat pc ls.length s cur T c0 (X8n ht) hz hg hlen (by rw[hnn'];exact hc0) (by rw[hc0l,hcs];omega) ho0.ones
   rw[hrunv hrun]
   have hll:(lcpy l lo (hi-lo).toNat ls).length=l.length:=Xld (by omega)
   have hsrc2:ls.take (hi-lo).toNat=ls.take n:=by
    rcases Nat.le_total ls.length (hi-lo).toNat with hle |hle
    ·rw[List.take_of_length_le hle,List.take_of_length_le (by omega)]
    ·rw[show n=(hi-lo).toNat from by omega]
   have hlc:lcpy l lo (hi-lo).toNat ls=l.take lo.toNat++ls.take n++l.drop (lo.toNat+n):=by
    unfold lcpy;rw[hnn,hsrc2]
   have hol:OL Q G (cs.take (lo.toNat*Q.sz)++c0++cs.drop ((lo.toNat+n)*Q.sz)) (lcpy l lo (hi-lo).toNat ls):=by
    rw[hlc]
    exact((ho.take lo.toNat).append ho0 (by simp only [List.length_take];omega)).append (ho.drop (lo.toNat+n)) (by simp only [List.length_append,List.length_take,List.length_drop];omega)
   have hk':=hk _ hll hol
   rw[hll] at hk'
   have hcl:=ho.clen
   have hcur:cur.toList=cs++cur.toList.drop (l.length*Q.sz):=by rw[← htake,List.take_append_drop]
   refine hk' _ _ ?_ (hinv.set_s q hi0 (s':= .s (.slice (some ⟨g,0,none⟩) l.length m) T Q.sz l.length _) ?_ ?_ (by simp [OwnS.blocks,Value.ownBlock]) (fun b hb=> .inl (by simpa [OwnS.blocks,Value.ownBlock] using hb)))
   ·have:=hf.put hd (goInt (Nat.min ls.length (hi-lo).toNat))
    rw[hnn'] at this ⊢
    exact this
   ·refine⟨rfl,rfl,rfl,by simp [World.setRow],fun x _ hD=>setRow_other w g x _ (by simpa [OwnS.blocks,Value.ownBlock] using hD)⟩
   ·have hclen:=hol.clen
    rw[hll] at hclen
    refine⟨hclen, .inr ⟨g,m,_,rfl,Nat.zero_le _,setRow_heap w g _ _ T (0,0) hg,hnc,hm2,?_,?_⟩⟩
    ·simp only [List.size_toArray,List.length_append,List.length_take,List.length_drop,Array.length_toList,hc0l]
     omega
    ·simp only []
     rw[hcur]
     have e1:List.take (lo.toNat*Q.sz) (cs++List.drop (l.length*Q.sz) cur.toList)=List.take (lo.toNat*Q.sz) cs:=List.take_append_of_le_length (by omega)
     have e2:List.drop (lo.toNat*Q.sz+c0.length) (cs++List.drop (l.length*Q.sz) cur.toList)=List.drop ((lo.toNat+n)*Q.sz) cs++List.drop (l.length*Q.sz) cur.toList:=by
      rw[List.drop_append_of_le_length (by omega),hc0l,Nat.add_mul]
     rw[e1,e2, ← List.append_assoc]
     exact List.take_left' (by rw[hclen])
end
end Go.Proofs.YtmfppphlhgneeaaGreat
end

section
namespace Go.Proofs.YtmfppphlhgneeaaGreat
open Go.RowKit
set_option linter.unusedVariables false
section
variable{P:Program}{c:Cx}{R:Value→World→Prop}{nt:Nat}{w0:World}{S0:List Nat}{df:List Deferred}{ρ ρ':Env}{Fs Fs' Fin B:List Hp}{bl bl':Blks}{sl sl':List OwnS}
 {K K':Act→World→Prop} {k:List Item} {ty:TypeId} {G:Hp} {α:Type}
section
variable{α β:Type}{FsD:α→List Hp}{blD:α→Blks}{slD:α→List OwnS}{FsE:β→List Hp}{blE:β→Blks}{slE:β→List OwnS}{FsS FinR:List Hp}{I1:α→Prop}{IE:β→Prop}{l:Nat}{le:β→Obj}{f:FuncId}{tmps:Array Value}{ps:Array Tmp}{as1 body:Code}{D:Nat}
end
theorem PartV.sub3{a:Option Addr}{sz:Nat}{v:Value}{i len:Nat}(h:PartV a sz v i len){i' j' m':Nat}(h1:i'≤j')(h2:j'≤len)(h3:j'≤m'):PartV a sz (subV3 v i' j' m' sz) (i+i') (j'-i'):=by
 obtain⟨a',c',rfl,hc,ha⟩:=h
 refine⟨_,_,rfl,by omega,fun hne g o e=>?_⟩
 have:=ha (by omega) g o e
 subst this
 rw[if_neg (by omega)]
 simp [X1y,Nat.add_mul,Nat.add_assoc]
theorem SlR.part{Q:Rep α}{a:Option Addr}{m:Nat}{l ld:List α}{lo hi:Int}{v:Value}(h:SlR Q G a m l)(hp:PartV a Q.sz v lo.toNat (hi-lo).toNat)(hu:lsub l lo hi=some ld):∃a' c',v= .slice a' ld.length c'∧SlR Q G a' c' ld:=by
 obtain⟨h1,h2,h3,rfl⟩:=Xci hu
 obtain⟨a',c',rfl,hc,ha⟩:=hp
 have hl:((l.drop lo.toNat).take (hi-lo).toNat).length=(hi-lo).toNat:=by simp only [List.length_take,List.length_drop];omega
 refine⟨a',c',by rw[hl],?_⟩
 obtain⟨hb,xs,⟨a0,cap,hv,hcap,hsz,hcc⟩,hx1,hx2⟩:=h
 simp only [Value.slice.injEq] at hv
 obtain⟨rfl,hlen,rfl⟩:=hv
 have hxl:((xs.drop lo.toNat).take (hi-lo).toNat).length=(hi-lo).toNat:=by simp only [List.length_take,List.length_drop];omega
 refine⟨by rw[hl];omega,(xs.drop lo.toNat).take (hi-lo).toNat,⟨a',c',by rw[hl,hxl],by rw[hxl];exact hc,fun x hx=>hsz x (List.mem_of_mem_drop (List.mem_of_mem_take hx)),fun hne=>?_⟩,by rw[hl,hxl],fun q c x hq hx=>?_⟩
 ·have hne0:(hi-lo).toNat≠0:=fun h0=>hne (List.eq_nil_of_length_eq_zero (by rw[hxl];exact h0))
  obtain⟨b,o,rfl,hcell⟩:=hcc (by rintro rfl;simp at hxl;omega)
  refine⟨b,o+lo.toNat*Q.sz,ha hne0 b o rfl,fun q x hq j c hj=>?_⟩
  have hql:q<(hi-lo).toNat:=by rw[← hxl];exact(List.getElem?_eq_some_iff.1 hq).1
  rw[List.getElem?_take_of_lt hql,List.getElem?_drop] at hq
  have:=hcell _ x hq j c hj
  rw[Nat.add_mul] at this
  rw[show o+lo.toNat*Q.sz+q*Q.sz+j=o+(lo.toNat*Q.sz+q*Q.sz)+j from by omega]
  exact this
 ·have hql:q<(hi-lo).toNat:=by rw[← hxl];exact(List.getElem?_eq_some_iff.1 hq).1
  rw[List.getElem?_take_of_lt hql,List.getElem?_drop] at hq hx
  exact hx2 _ c x hq hx
end
end Go.Proofs.YtmfppphlhgneeaaGreat
end

section
namespace Go.Proofs.YtmfppphlhgneeaaGreat
open Go.RowKit
set_option linter.unusedVariables false
def HD(es:List NE)(i:Int)(h:Option Addr×Nat×Nat):Prop:=(es.map NE.h)[i.toNat]?=some h
theorem HD.mk{es:List NE}{i:Int}{e:NE}(he:es[i.toNat]?=some e):HD es i e.h:=by unfold HD;rw[List.getElem?_map,he];rfl
theorem HD.of{es es':List NE}{i:Int}{h:Option Addr×Nat×Nat}(hm:es'.map NE.h=es.map NE.h)(hd:HD es i h):HD es' i h:=by unfold HD;rw[hm];exact hd
section
variable{P:Program}{c:Cx}{R:Value→World→Prop}{nt:Nat}{w0:World}{S0:List Nat}{df:List Deferred}{ρ ρ':Env}{Fs Fs' Fin B:List Hp}{bl bl':Blks}{sl sl':List OwnS}
 {K K':Act→World→Prop} {k:List Item} {ty:TypeId} {G:Hp} {α:Type}
theorem Cov.swap1(q1:Nat){Q:Rep α}{oa:Option Addr}{om T0:Nat}{x:List (List α)}{es:List NE}{cs:List Value}{i:Int}{yi yj:List α}{t:TypeId}{px u:Operand}{p:Value}{agg:Bool}{bytes:Nat}{z:List Value}{ej:NE}(hs:Stp P K' ⟨none, .store t px u,ty,none⟩ K)
  (h1:sl[q1]?=some (.s (.slice oa x.length om) T0 1 x.length cs)) (hN:NL Q G es cs x) (hi:lidx x i=some yi) (hnj:ej.n=yj.length)
  (hx:ev ρ px=some p) (hp:PtrO p oa x.length om i.toNat 1 0) (hu:ev ρ u=some (.slice ej.a yj.length ej.k)) (ht:TyI P t agg 1 bytes z)
  (hk:∀cs',OL Rep.hdr G cs' ((es.map NE.h).set i.toNat ej.h)→Cov nt w0 S0 df ρ Fs bl (sl.set q1 (.s (.slice oa x.length om) T0 1 x.length cs')) K):Cov nt w0 S0 df ρ Fs bl sl K':=by
 obtain⟨e,he,hn',ho,hel⟩:=hN.get hi
 obtain⟨hi0,hil,_⟩:=X4g hi
 have e1:x.length=(es.map NE.h).length:=by rw[List.length_map,hN.2.1]
 refine Cov.storeR q1 0 (Q:=Rep.hdr) (y:=ej.h) (l:=es.map NE.h) (l':=(es.map NE.h).set i.toNat ej.h) (sz:=1) hs (by rw[h1,e1]) rfl hN.1 ?_ hx (by rw[← e1];exact hp) hu ht hel ?_ rfl rfl fun cs' hll ho'=>?_
 ·unfold lupd
  rw[if_pos ⟨hi0,by rw[← e1];exact hil⟩]
 ·show _=[_]
  simp [cellsL,Value.cells,NE.h,hnj]
 ·have hk':=hk _ ho'
  rw[List.length_set, ← e1]
  exact hk'
theorem Xmv{T:TypeId}{m:Nat}{es:List NE}{i j:Nat}{ei ej:NE}(hi:es[i]?=some ei)(hj:es[j]?=some ej):(nblks T m ((es.set i ej).set j ei)).Perm (nblks T m es):=by
 by_cases hij:i=j
 ·subst hij
  rw[hi] at hj
  obtain rfl:=Option.some.inj hj
  obtain⟨hlt,h4⟩:=List.getElem?_eq_some_iff.1 hi
  rw[List.set_set, ← h4,List.set_getElem_self]
 ·have h1:=Xev T m es i ei ej hi
  have h2:=Xev T m (es.set i ej) j ej ei (by rw[List.getElem?_set_ne hij];exact hj)
  have h3:(nblks T m ((es.set i ej).set j ei)++(ej.s T m).blocks).Perm (nblks T m es++(ej.s T m).blocks):=
   h2.trans (List.perm_append_comm.trans (h1.trans List.perm_append_comm))
  exact(List.perm_append_right_iff _).1 h3
theorem Cov.swap2(q1 q2:Nat){Q:Rep α}{oa:Option Addr}{om T0 T m:Nat}{x x1 x':List (List α)}{es:List NE}{cs0 cs:List Value}{i j:Int}{yi yj:List α}{t:TypeId}{px u:Operand}{p:Value}{agg:Bool}{bytes:Nat}{z:List Value}{ei ej:NE}(hs:Stp P K' ⟨none, .store t px u,ty,none⟩ K)
  (h1:sl[q1]?=some (.s (.slice oa x.length om) T0 1 x.length cs)) (h2:sl[q2]?=some (.g (packG T m es))) (hN:NL Q G es cs0 x) (hH:OL Rep.hdr G cs ((es.map NE.h).set i.toNat ej.h)) (hi:lidx x i=some yi) (hj:lidx x j=some yj) (hei:es[i.toNat]?=some ei) (hej:es[j.toNat]?=some ej) (hni:ei.n=yi.length) (hl1:lupd x i yj=some x1) (hl2:lupd x1 j yi=some x')
  (hx:ev ρ px=some p) (hp:PtrO p oa x.length om j.toNat 1 0) (hu:ev ρ u=some (.slice ei.a yi.length ei.k)) (ht:TyI P t agg 1 bytes z) (hq:(q1 == q2)=false)
  (hk:∀es' cs',x'.length=x.length→NL Q G es' cs' x'→Cov nt w0 S0 df ρ Fs bl ((sl.set q1 (.s (.slice oa x'.length om) T0 1 x'.length cs')).set q2 (.g (packG T m es'))) K):Cov nt w0 S0 df ρ Fs bl sl K':=by
 obtain⟨hi0,hil,hiy⟩:=X4g hi
 obtain⟨hj0,hjl,hjy⟩:=X4g hj
 obtain⟨_,_,rfl⟩:=Xa3 hl1
 obtain⟨_,_,rfl⟩:=Xa3 hl2
 have hq':q1≠q2:=by simpa using hq
 have e1:x.length=((es.map NE.h).set i.toNat ej.h).length:=by rw[List.length_set,List.length_map,hN.2.1]
 have hlen:((x.set i.toNat yj).set j.toNat yi).length=x.length:=by simp
 have hdj:∃h,((es.map NE.h).set i.toNat ej.h)[j.toNat]?=some h:=⟨_,List.getElem?_eq_getElem (by rw[← e1];omega)⟩
 obtain⟨hj',hdj⟩:=hdj
 obtain⟨c,hc1,hc2⟩:=hH.get (i:=j) (x:=hj') (by unfold lidx;rw[if_pos hj0];exact hdj)
 refine Cov.storeR q1 0 (Q:=Rep.hdr) (y:=ei.h) (l:=(es.map NE.h).set i.toNat ej.h) (l':=((es.map NE.h).set i.toNat ej.h).set j.toNat ei.h) (sz:=1) hs (by rw[h1,e1]) rfl hH ?_ hx (by rw[← e1];exact hp) hu ht hc1 ?_ rfl rfl fun cs' hll ho'=>?_
 ·unfold lupd
  rw[if_pos ⟨hj0,by rw[← e1];exact hjl⟩]
 ·have hcl:c.length=1:=Rep.hdr.len hc2
  show _=[_]
  obtain⟨v,rfl⟩:∃v,c=[v]:=by
   match c,hcl with
   | [v],_=>exact⟨v,rfl⟩
  simp [cellsL,Value.cells,NE.h,hni]
 ·have hl2':(((es.map NE.h).set i.toNat ej.h).set j.toNat ei.h).length=((x.set i.toNat yj).set j.toNat yi).length:=by simp [hN.2.1]
  rw[hl2']
  have hN':NL Q G ((es.set i.toNat ej).set j.toNat ei) cs' ((x.set i.toNat yj).set j.toNat yi):=by
   refine⟨by rw[List.map_set,List.map_set];exact ho',by simp [hN.2.1],fun n e y h3 h4=>?_⟩
   rw[List.getElem?_set] at h3 h4
   by_cases hnj:j.toNat=n
   ·have hel:j.toNat<es.length:=by rw[hN.2.1];omega
    rw[if_pos hnj,if_pos (by simp;omega)] at h3 h4
    cases h3;cases h4
    exact hN.2.2 _ _ _ hei hiy
   ·rw[if_neg hnj] at h3 h4
    rw[List.getElem?_set] at h3 h4
    by_cases hni':i.toNat=n
    ·have hel:i.toNat<es.length:=by rw[hN.2.1];omega
     rw[if_pos hni',if_pos (by omega)] at h3 h4
     cases h3;cases h4
     exact hN.2.2 _ _ _ hej hjy
    ·rw[if_neg hni'] at h3 h4
     exact hN.2.2 _ _ _ h3 h4
  intro aa w hfi hinv
  have h2':(sl.set q1 (.s (.slice oa ((x.set i.toNat yj).set j.toNat yi).length om) T0 1 ((x.set i.toNat yj).set j.toNat yi).length cs'))[q2]?=some (.g (packG T m es)):=by rw[List.getElem?_set_ne hq'];exact h2
  have hh:(packG T m es).holds w:=hinv.mem.slh _ (List.mem_of_getElem? h2')
  have hp:=Xmv (T:=T) (m:=m) hei hej
  have hnd':=hp.nodup_iff.2 hh.1
  have hb1:(packG T m es).blks=nblks T m es:=if_pos hh.1
  have hb2:(packG T m ((es.set i.toNat ej).set j.toNat ei)).blks=nblks T m ((es.set i.toNat ej).set j.toNat ei):=if_pos hnd'
  refine hk _ cs' hlen hN' aa w hfi (hinv.set_same q2 h2' (s':= .g (packG T m ((es.set i.toNat ej).set j.toNat ei))) ⟨hnd',fun e he=>?_⟩ (by show(packG _ _ _).blks.Nodup;rw[hb2];exact hnd') (fun b hb=>?_))
  ·rcases List.mem_or_eq_of_mem_set he with he |rfl
   ·rcases List.mem_or_eq_of_mem_set he with he |rfl
    ·exact hh.2 e he
    ·exact hh.2 _ (List.mem_of_getElem? hej)
   ·exact hh.2 _ (List.mem_of_getElem? hei)
  ·have hb:b∈(packG T m ((es.set i.toNat ej).set j.toNat ei)).blks:=hb
   show b∈(packG T m es).blks
   rw[hb2] at hb;rw[hb1]
   exact hp.mem_iff.1 hb
theorem Cov.packE(T m:Nat)(h:Cov nt w0 S0 df ρ Fs bl (.g (packG T m [])::sl) K):Cov nt w0 S0 df ρ Fs bl sl K:=Cov.pack0 T m 0 h
theorem Xnl(T:TypeId)(m:Nat)(es es':List NE):nblks T m (es++es')=nblks T m es++nblks T m es':=by simp [nblks]
theorem Cov.pack1{T m:Nat}{a:Option Addr}{n kk:Nat}{cs:List Value}{s2:List OwnS}(hsl:sl= .s (.slice a n kk) T m n cs::s2)(h:Cov nt w0 S0 df ρ Fs bl (.g (packG T m [⟨a,n,kk,cs⟩])::s2) K):Cov nt w0 S0 df ρ Fs bl sl K:=by
 refine Cov.pack0 T m 1 ?_
 subst hsl
 refine Cov.pullS 1 rfl _ rfl ?_
 exact Cov.putN 0 (i:=0) rfl rfl rfl h
theorem Cov.packApp(q:Nat){T m:Nat}{es es':List NE}{s2:List OwnS}(hsl:sl= .g (packG T m es')::s2)(hs:s2[q]?=some (.g (packG T m es)))(h:Cov nt w0 S0 df ρ Fs bl (s2.set q (.g (packG T m (es++es')))) K):Cov nt w0 S0 df ρ Fs bl sl K:=fun aa w hf hi=>by
 subst hsl
 have hh:(packG T m es).holds w:=hi.mem.slh _ (List.mem_cons_of_mem _ (List.mem_of_getElem? hs))
 have hh':(packG T m es').holds w:=hi.mem.slh _ List.mem_cons_self
 have hb1:(packG T m es).blks=nblks T m es:=if_pos hh.1
 have hb1':(packG T m es').blks=nblks T m es':=if_pos hh'.1
 have hq:(blks bl (.g (packG T m es')::s2)).Perm (nblks T m (es++es')++blks bl (s2.eraseIdx q)):=by
  simp only [blks,List.flatMap_cons]
  have h1:=((X77 s2 q _ hs).flatMap_right OwnS.blocks).append_left (OwnS.blocks (.g (packG T m es')))
  simp only [List.flatMap_cons] at h1
  rw[← List.append_assoc (OwnS.blocks _) (OwnS.blocks (.g (packG T m es)))] at h1
  have h2:(OwnS.blocks (.g (packG T m es'))++OwnS.blocks (.g (packG T m es))).Perm (nblks T m (es++es')):=by
   show((packG T m es').blks++(packG T m es).blks).Perm _
   rw[hb1,hb1',Xnl];exact List.perm_append_comm
  exact((h1.trans (h2.append_right _)).append_left _).trans (List.perm_append_comm_assoc _ _ _)
 have hnd:=hq.nodup_iff.1 hi.nodup
 have hnd1:=(List.nodup_append.1 hnd).1
 have hb2:(packG T m (es++es')).blks=nblks T m (es++es'):=if_pos hnd1
 have hp2:(blks bl (s2.set q (.g (packG T m (es++es'))))).Perm (blks bl (.g (packG T m es')::s2)):=by
  refine List.Perm.trans ?_ hq.symm
  simp only [blks]
  have h1:=(Xa2 OwnS.blocks s2 q _ (.g (packG T m (es++es'))) hs)
  have h2:OwnS.blocks (.g (packG T m (es++es')))=nblks T m (es++es'):=hb2
  rw[h2] at h1
  exact(h1.append_left _).trans (List.perm_append_comm_assoc _ _ _)
 refine h aa w hf (hi.change [] (by simp) (Keep.refl w []) (fun G hG=> .inl hG) hi.mem.own (fun s hs'=>?_) (hp2.nodup_iff.2 hi.nodup) (fun b hb=> .inl (hp2.mem_iff.1 hb)))
 obtain⟨j,hj,rfl⟩:=List.getElem_of_mem hs'
 rw[List.getElem_set]
 split
 ·refine⟨hnd1,fun x hx=>?_⟩
  rcases List.mem_append.1 hx with hx |hx
  ·exact hh.2 x hx
  ·exact hh'.2 x hx
 ·exact hi.mem.slh _ (List.mem_cons_of_mem _ (List.getElem_mem (by simpa using hj)))
theorem NL.nil{Q:Rep α}:NL Q G [] [] ([]:List (List α)):=⟨OL.nil,rfl,fun i e y h=>by simp at h⟩
theorem NL.one{Q:Rep α}{a:Option Addr}{kk:Nat}{cs:List Value}{l:List α}(ho:OL Q G cs l):NL Q G [⟨a,l.length,kk,cs⟩] [.slice a l.length kk] [l]:=
 ⟨(OL.cons (Rp':=Rep.hdr) (c:=[.slice a l.length kk]) (x:=(a,l.length,kk)) (l:=[]) rfl rfl OL.nil :),rfl,fun i e y h1 h2=>by
  cases i with
  |zero=>simp at h1 h2;subst h1 h2;exact⟨rfl,ho⟩
  |succ i=>simp at h1⟩
theorem NL.app{Q:Rep α}{es es':List NE}{cs cs' cs2:List Value}{x x':List (List α)}(h:NL Q G es cs x)(h':NL Q G es' cs' x')(hc:OL Rep.hdr G cs2 (es.map NE.h++es'.map NE.h)):NL Q G (es++es') cs2 (x++x'):=
 ⟨by rw[List.map_append];exact hc,by simp [h.2.1,h'.2.1],fun i e y h1 h2=>by
  have:=h.2.1
  rcases Nat.lt_or_ge i es.length with hi |hi
  ·rw[List.getElem?_append_left hi] at h1
   rw[List.getElem?_append_left (by omega)] at h2
   exact h.2.2 i e y h1 h2
  ·rw[List.getElem?_append_right hi] at h1
   rw[List.getElem?_append_right (by omega)] at h2
   rw[← this] at h2;exact h'.2.2 _ e y h1 h2⟩
theorem Cov.appN(q q2:Nat){Q:Rep α}{d:Nat}{t e:TypeId}{s x:Operand}{a a2:Option Addr}{m m2 T T2 mm:Nat}{l l2 l':List (List α)}{es es2:List NE}{cs cs2:List Value}{agg:Bool}{bytes:Nat}{z:List Value}{s2:List OwnS}
  (hs:Stp P K' ⟨some d, .call ⟨.builtin .append,#[s,x],#[t,t]⟩,ty,none⟩ K) (ht:slOf P t=some e) (hel:TyI P e agg 1 bytes z) (hz:z.length=1) (hby:Nat.ble bytes 8388608=true)
  (hsl:sl= .s (.slice a2 l2.length m2) T2 1 l2.length cs2:: .g (packG T mm es2)::s2) (hi:s2[q]?=some (.s (.slice a l.length m) e 1 l.length cs)) (hi2:s2[q2]?=some (.g (packG T mm es))) (hq:(q == q2)=false) (ho:NL Q G es cs l) (ho2:NL Q G es2 cs2 l2)
  (he:ev ρ s=some (.slice a l.length m)) (hx:ev ρ x=some (.slice a2 l2.length m2)) (hl:lapp l l2=some l') (hd:Nat.blt d nt=true) (hB:Bd w0 S0 B G)
  (hk:∀a' m' cs',NL Q G (es++es2) cs' l'→Cov nt w0 S0 df ((d, .slice a' l'.length m')::ρ) (G::B) bl ((s2.set q (.s (.slice a' l'.length m') e 1 l'.length cs')).set q2 (.g (packG T mm (es++es2)))) K):Cov nt w0 S0 df ρ (G::B) bl sl K':=by
 subst hsl
 have hq':q≠q2:=by simpa using hq
 have e1:l.length=(es.map NE.h).length:=by rw[List.length_map,ho.2.1]
 have e2:l2.length=(es2.map NE.h).length:=by rw[List.length_map,ho2.2.1]
 obtain⟨hb,rfl⟩:=Xgy hl
 refine Cov.appO (q+1) (Q:=Rep.hdr) (l:=es.map NE.h) (l2:=es2.map NE.h) (l':=es.map NE.h++es2.map NE.h) hs ht hel hz rfl hby rfl (by rw[← e1];exact hi) rfl ho.1 ho2.1 e2 (by rw[← e1];exact he) hx hB ?_ hd fun a' m' cs' ho'=>?_
 ·unfold lapp;rw[if_pos (by rw[← e1, ← e2];exact hb)]
 ·have e3:(es.map NE.h++es2.map NE.h).length=(l++l2).length:=by simp [ho.2.1,ho2.2.1]
  rw[e3]
  refine Cov.same rfl (show _=(OwnS.g (packG T mm es2))::s2.set q (.s (.slice a' (l++l2).length m') e 1 (l++l2).length cs') from rfl) rfl ?_
  exact Cov.packApp q2 rfl (by rw[List.getElem?_set_ne hq'];exact hi2) (hk a' m' cs' (ho.app ho2 ho'))
end
end Go.Proofs.YtmfppphlhgneeaaGreat
end

section
namespace Go.Proofs.YtmfppphlhgneeaaGreat
open Go.RowKit
set_option linter.unusedVariables false
structure Shp(σ α β:Type) where
 row:σ→List α
 hd:σ→(Option Addr×Nat×Nat)→β
 set:σ→List α→σ
 row_set:∀s y,row (set s y)=y
 hd_set:∀s y h,hd (set s y) h=hd s h
def hds{σ α β:Type}(S:Shp σ α β)(es:List NE)(x:List σ):List β:=List.zipWith (fun s e=>S.hd s (NE.h e)) x es
def NS{σ α β:Type}(S:Shp σ α β)(Q:Rep α)(E:Rep β)(G:Hp)(es:List NE)(cs:List Value)(x:List σ):Prop:=
 OL E G cs (hds S es x)∧es.length=x.length∧∀(i:Nat)(e:NE)(s:σ),es[i]?=some e→x[i]?=some s→e.n=(S.row s).length∧OL Q G e.cs (S.row s)
section
variable{σ α β:Type}{S:Shp σ α β}{Q:Rep α}{E:Rep β}{G G':Hp}{es:List NE}{cs:List Value}{x:List σ}
theorem Xqz(h:es.length=x.length):(hds S es x).length=x.length:=by simp [hds,h]
theorem Xr0{i:Nat}{e:NE}{s:σ}(he:es[i]?=some e)(hs:x[i]?=some s):(hds S es x)[i]?=some (S.hd s e.h):=by
 unfold hds;rw[List.getElem?_zipWith,hs,he]
theorem Xr1(i:Nat)(e:NE)(s:σ):hds S (es.set i e) (x.set i s)=(hds S es x).set i (S.hd s e.h):=by
 unfold hds
 induction i generalizing es x with
 |zero=>cases x<;>cases es<;>simp
 |succ n ih=>cases x<;>cases es<;>simp [ih]
theorem NS.mono(hg:HpLe G G')(h:NS S Q E G es cs x):NS S Q E G' es cs x:=
 ⟨h.1.mono hg,h.2.1,fun i e y h1 h2=>⟨(h.2.2 i e y h1 h2).1,(h.2.2 i e y h1 h2).2.mono hg⟩⟩
theorem NS.len'(h:NS S Q E G es cs x):x.length≤9223372036854775807:=by
 have:=h.1.len';rw[Xqz h.2.1] at this;exact this
theorem NS.get(h:NS S Q E G es cs x){i:Int}{s:σ}(hx:lidx x i=some s):
  ∃e c,es[i.toNat]?=some e∧e.n=(S.row s).length∧OL Q G e.cs (S.row s)∧Elem E.sz cs i.toNat c∧E.r G c (S.hd s (e.a,(S.row s).length,e.k)):=by
 obtain⟨h3,h4,h5⟩:=X4g hx
 have hlt:i.toNat<es.length:=by rw[h.2.1];omega
 have he:es[i.toNat]?=some es[i.toNat]:=List.getElem?_eq_getElem hlt
 obtain⟨hn,ho⟩:=h.2.2 _ _ _ he h5
 obtain⟨c,hc1,hc2⟩:=h.1.get (i:=i) (x:=S.hd s es[i.toNat].h) (by
  unfold lidx
  rw[if_pos h3];exact Xr0 he h5)
 refine⟨es[i.toNat],c,he,hn,ho,hc1,?_⟩
 rw[← hn];exact hc2
theorem NS.nil:NS S Q E G [] [] ([]:List σ):=⟨OL.nil,rfl,fun i e y h=>by simp at h⟩
theorem NS.one{a:Option Addr}{kk:Nat}{c:List Value}{s:σ}{l:List α}(hE:E.r G c (S.hd s (a,l.length,kk)))(hr:S.row s=l){ics:List Value}(ho:OL Q G ics l):NS S Q E G [⟨a,l.length,kk,ics⟩] (c++[]) [s]:=
 ⟨(OL.cons (Rp':=E) (c:=c) (x:=S.hd s (a,l.length,kk)) (l:=[]) rfl hE OL.nil :),rfl,fun i e y h1 h2=>by
  cases i with
  |zero=>simp at h1 h2;subst h1 h2;exact⟨by rw[hr],by rw[hr];exact ho⟩
  |succ i=>simp at h1⟩
theorem NS.app{es':List NE}{cs' cs2:List Value}{x':List σ}(h:NS S Q E G es cs x)(h':NS S Q E G es' cs' x')(hc:OL E G cs2 (hds S es x++hds S es' x')):NS S Q E G (es++es') cs2 (x++x'):=
 ⟨by unfold hds;rw[List.zipWith_append h.2.1.symm];exact hc,by simp [h.2.1,h'.2.1],fun i e y h1 h2=>by
  have:=h.2.1
  rcases Nat.lt_or_ge i es.length with hi |hi
  ·rw[List.getElem?_append_left hi] at h1
   rw[List.getElem?_append_left (by omega)] at h2
   exact h.2.2 i e y h1 h2
  ·rw[List.getElem?_append_right hi] at h1
   rw[List.getElem?_append_right (by omega)] at h2
   rw[← this] at h2;exact h'.2.2 _ e y h1 h2⟩
theorem NS.set{cs':List Value}{x':List σ}{i:Int}{s:σ}{e:NE}(h:NS S Q E G es cs x)(hl:lupd x i s=some x')(hn:e.n=(S.row s).length)(ho:OL Q G e.cs (S.row s))(hc:OL E G cs' ((hds S es x).set i.toNat (S.hd s e.h))):NS S Q E G (es.set i.toNat e) cs' x':=by
 obtain⟨hi0,hil,rfl⟩:=Xa3 hl
 refine⟨by rw[Xr1];exact hc,by simp [h.2.1],fun j e' y' h1 h2=>?_⟩
 rw[List.getElem?_set] at h1 h2
 by_cases hij:i.toNat=j
 ·subst hij
  have:=h.2.1
  rw[if_pos rfl,if_pos (by omega)] at h1
  rw[if_pos rfl,if_pos (by omega)] at h2
  cases h1;cases h2
  exact⟨hn,ho⟩
 ·rw[if_neg hij] at h1 h2
  exact h.2.2 j e' y' h1 h2
theorem Xf4{γ:Type}{l:List γ}{i:Nat}{a:γ}(h:l[i]?=some a):l.set i a=l:=by
 obtain⟨hlt,h4⟩:=List.getElem?_eq_some_iff.1 h
 rw[← h4];exact List.set_getElem_self hlt
end
section
variable{P:Program}{c:Cx}{R:Value→World→Prop}{nt:Nat}{w0:World}{S0:List Nat}{df:List Deferred}{ρ ρ':Env}{Fs Fs' Fin B:List Hp}{bl bl':Blks}{sl sl':List OwnS}
 {K K':Act→World→Prop} {k:List Item} {ty:TypeId} {G:Hp} {σ α β:Type} {S:Shp σ α β} {Q:Rep α} {E:Rep β}
def ClsO(Fs:List Hp)(bl:Blks)(sl:List OwnS):World→Prop:=fun w=>Mem Fs bl sl w
theorem ClsO.of_le{w:World}{G0:Hp}{bl0:Blks}{sl0:List OwnS}(h:Inv w0 S0 Fs bl sl w)(h1:∃G∈Fs,HpLe G0 G)(h2:∀p∈bl0,p∈bl)(h3:∀s∈sl0,s∈sl):ClsO [G0] bl0 sl0 w:=
 ⟨fun F hF=>by
  obtain⟨G,hG,hle⟩:=h1
  rcases List.mem_cons.1 hF with rfl |hF
  ·exact fun b o hb=>h.mem.fs G hG b o (hle b o hb)
  ·exact absurd hF (List.not_mem_nil),fun p hp=>h.mem.own p (h2 p hp),fun s hs=>h.mem.slh s (h3 s hs)⟩
theorem Cov.drawO{id:Nat}{ops:Array Oper}(l:OT)(bl0:Blks)(sl0:List OwnS)(hm:P.follows .mixedOrders=true)(hok:drawOk ops l=true)(h2:∀p∈bl0,p∈bl)(h3:∀s∈sl0,s∈sl)
  (h:Cov nt w0 S0 df ρ (G::Fs) bl sl (DO P c R (ClsO [G] bl0 sl0) (flatD ops l) k)):
  Cov nt w0 S0 df ρ (G::Fs) bl sl (Run P c R (.code (.region id ops true)::k)):=fun a w hf hi=>by
 simp only [drawOk,Bool.and_eq_true,beq_iff_eq] at hok
 obtain⟨⟨⟨⟨h5,h4⟩,h6⟩,h7⟩,h8⟩:=hok
 exact Run.region_can hm h5 l _ (ClsO [G] bl0 sl0) h6 h8 (ClsO.of_le hi.drawn ⟨G,List.mem_cons_self,HpLe.refl _⟩ h2 h3) (Xat h4 l h7 a _ (h a _ hf hi.drawn))
theorem Cov.dqO{d:Nat}{op:Op}{v:Value}{Fs0:List Hp}{bl0:Blks}{sl0:List OwnS}{os:OX}(h:QOp P ρ Fs0 bl0 sl0 op ty v)(hd:Nat.blt d nt=true)
  (hk:Cov nt w0 S0 df ((d,v)::ρ) Fs bl sl (DO P c R (ClsO Fs0 bl0 sl0) os k)):
  Cov nt w0 S0 df ρ Fs bl sl (DO P c R (ClsO Fs0 bl0 sl0) (.q ⟨some d,op,ty,none⟩ os) k):=fun a w hf hi=>by
 simp only [DO]
 exact⟨v, .inl ⟨rfl,fun w' hw'=>h nt df a w' hf hw'⟩,hk _ w (hf.put hd v) hi⟩
theorem Cov.mv{d:Nat}{x:Operand}{v:Value}{os:List OpX}(hx:ev ρ x=some v)(hd:Nat.blt d nt=true)(h:Cov nt w0 S0 df ((d,v)::ρ) Fs bl sl (RO P c R os k)):Cov nt w0 S0 df ρ Fs bl sl (RO P c R (⟨some d, .move x,ty,none⟩::os) k):=Cov.q .ro (.move hx) hd h
theorem Cov.av{d:Nat}{x:Operand}{v:Value}{os:List OpX}(hx:ev ρ x=some v)(hd:Nat.blt d nt=true)(h:Cov nt w0 S0 df ((d,v)::ρ) Fs bl sl (RO P c R os k)):Cov nt w0 S0 df ρ Fs bl sl (RO P c R (⟨some d, .assign x,ty,none⟩::os) k):=Cov.q .ro (.assign hx) hd h
theorem Cov.re(h:Cov nt w0 S0 df ρ Fs bl sl (Run P c R k)):Cov nt w0 S0 df ρ Fs bl sl (RO P c R [] k):=Cov.region_end h
theorem Cov.arr{ρ':Env}(h:Cov nt w0 S0 df ρ' Fs bl sl K)(hs:Sub ρ ρ'):Cov nt w0 S0 df ρ Fs bl sl K:=Cov.prune _ hs (Cov.same rfl rfl rfl h)
abbrev ri:Rep Int:=Rep.int .i64
theorem mcs{β:Type}{x:β}{l:List β}:x∈x::l:=List.mem_cons_self
theorem mcm{G:Hp}{Fs:List Hp}:∀F,F∈Fs→F∈G::Fs:=fun _ h=>List.mem_cons_of_mem _ h
end
end Go.Proofs.YtmfppphlhgneeaaGreat
end

section
namespace Go.Proofs.YtmfppphlhgneeaaGreat
open Go.RowKit
structure GoN(n:Nat)(A B:Prop):Prop where
 go:A→B
theorem GoN.done{A:Prop}:GoN 0 A A:=⟨id⟩
theorem GoN.step{n:Nat}{A B C:Prop}(f:B→C)(h:GoN n A B):GoN (n+1) A C:=⟨fun a=>f (h.go a)⟩
class TyC(P:Program)(t:TypeId)(agg:outParam Bool)(sz bytes:outParam Nat)(z:outParam (List Value)):Prop where
 o:TyI P t agg sz bytes z
class SlC(P:Program)(t:TypeId)(e:outParam TypeId):Prop where
 o:slOf P t=some e
class FlC(P:Program)(t:TypeId)(n:Nat)(o:outParam Nat)(e:outParam TypeId):Prop where
 o:fldOf P t n=some (o,e)
def lits:List Nat:=[0,1,2,3,4,5,6,7,8,9,10,11,12,13,14,15,16,17,18,19,20]
theorem Xr2{i j:Nat}(h:lits[i]?=some j):i=j:=by
 have:i<21:=by
  rcases Nat.lt_or_ge i 21 with h1 |h1
  ·exact h1
  ·rw[List.getElem?_eq_none (by simpa [lits] using h1)] at h;cases h
 have key:∀i,i<21→lits[i]?=some i:=by decide
 rw[key i this] at h
 exact Option.some.inj h
section
variable{P:Program}{c:Cx}{R:Value→World→Prop}{nt:Nat}{w0:World}{S0:List Nat}{df:List Deferred}{ρ ρ':Env}{Fs Fs':List Hp}{bl bl':Blks}{sl sl':List OwnS}
 {K K':Act→World→Prop} {k:List Item} {ty:TypeId} {n:Nat} {A:Prop} {o:List OpX} {C:World→Prop} {x:OX}
theorem GoN.run(h:GoN n A (Cov nt w0 S0 df ρ Fs bl sl (Run P c R k))):GoN n A (Cov nt w0 S0 df ρ Fs bl sl (Run P c R k)):=h
theorem GoN.ro(h:GoN n A (Cov nt w0 S0 df ρ Fs bl sl (RO P c R o k))):GoN n A (Cov nt w0 S0 df ρ Fs bl sl (RO P c R o k)):=h
theorem GoN.d(h:GoN n A (Cov nt w0 S0 df ρ Fs bl sl (DO P c R C x k))):GoN n A (Cov nt w0 S0 df ρ Fs bl sl (DO P c R C x k)):=h
structure QW(P:Program)(ρ:Env)(bl:Blks)(op:Op)(v:Value):Prop where
 q:∀Fs sl ty,QOp P ρ Fs bl sl op ty v
theorem QW.mv{x:Operand}{v:Value}(hx:ev ρ x=some v):QW P ρ bl (.move x) v:=⟨fun _ _ _=> .move hx⟩
theorem QW.av{x:Operand}{v:Value}(hx:ev ρ x=some v):QW P ρ bl (.assign x) v:=⟨fun _ _ _=> .assign hx⟩
theorem QW.pt{x y z:Operand}{v:Value}(hx:ev ρ x=some (.bool true))(hy:ev ρ y=some v):QW P ρ bl (.pick x y z) v:=⟨fun _ _ _=> .pick_t hx hy⟩
theorem QW.pf{x y z:Operand}{v:Value}(hx:ev ρ x=some (.bool false))(hz:ev ρ z=some v):QW P ρ bl (.pick x y z) v:=⟨fun _ _ _=> .pick_f hx hz⟩
theorem QW.add{t u:TypeId}{x y:Operand}{k:IntKind}{m n:Int}(hx:ev ρ x=some (.int k m))(hy:ev ρ y=some (.int k n)):QW P ρ bl (.binOp .add t x y u) (.int k (k.wrap (m+n))):=⟨fun _ _ _=> .addw hx hy⟩
theorem QW.sub{t u:TypeId}{x y:Operand}{k:IntKind}{m n:Int}(hx:ev ρ x=some (.int k m))(hy:ev ρ y=some (.int k n)):QW P ρ bl (.binOp .sub t x y u) (.int k (k.wrap (m-n))):=⟨fun _ _ _=> .subw hx hy⟩
theorem QW.mul{t u:TypeId}{x y:Operand}{k:IntKind}{m n:Int}(hx:ev ρ x=some (.int k m))(hy:ev ρ y=some (.int k n)):QW P ρ bl (.binOp .mul t x y u) (.int k (k.wrap (m*n))):=⟨fun _ _ _=> .mulw hx hy⟩
theorem QW.lss{t u:TypeId}{x y:Operand}{k:IntKind}{m n:Int}(hx:ev ρ x=some (.int k m))(hy:ev ρ y=some (.int k n)):QW P ρ bl (.binOp .lss t x y u) (.bool (decide (m<n))):=⟨fun _ _ _=> .lss hx hy⟩
theorem QW.leq{t u:TypeId}{x y:Operand}{k:IntKind}{m n:Int}(hx:ev ρ x=some (.int k m))(hy:ev ρ y=some (.int k n)):QW P ρ bl (.binOp .leq t x y u) (.bool (decide (m≤n))):=⟨fun _ _ _=> .leq hx hy⟩
theorem QW.gtr{t u:TypeId}{x y:Operand}{k:IntKind}{m n:Int}(hx:ev ρ x=some (.int k m))(hy:ev ρ y=some (.int k n)):QW P ρ bl (.binOp .gtr t x y u) (.bool (decide (n<m))):=⟨fun _ _ _=> .gtr hx hy⟩
theorem QW.geq{t u:TypeId}{x y:Operand}{k:IntKind}{m n:Int}(hx:ev ρ x=some (.int k m))(hy:ev ρ y=some (.int k n)):QW P ρ bl (.binOp .geq t x y u) (.bool (decide (n≤m))):=⟨fun _ _ _=> .geq hx hy⟩
theorem QW.eql{t u:TypeId}{x y:Operand}{k:IntKind}{m n:Int}(hx:ev ρ x=some (.int k m))(hy:ev ρ y=some (.int k n)):QW P ρ bl (.binOp .eql t x y u) (.bool (decide (m=n))):=⟨fun _ _ _=> .eql hx hy⟩
theorem QW.neq{t u:TypeId}{x y:Operand}{k:IntKind}{m n:Int}(hx:ev ρ x=some (.int k m))(hy:ev ρ y=some (.int k n)):QW P ρ bl (.binOp .neq t x y u) (.bool (decide (m≠n))):=⟨fun _ _ _=> .neq hx hy⟩
theorem QW.not{t:TypeId}{x:Operand}{b:Bool}(hx:ev ρ x=some (.bool b)):QW P ρ bl (.unOp .not t x) (.bool (!b)):=⟨fun _ _ _=> .not hx⟩
theorem QW.ex{x:Operand}{vs:List Value}{n:Nat}{v:Value}(hx:ev ρ x=some (.tuple vs.toArray))(hn:vs[n]?=some v):QW P ρ bl (.extract x n) v:=⟨fun _ _ _=> .extract hx hn⟩
theorem QW.nc{x:Operand}{v:Value}(hx:ev ρ x=some v)(hv:(match v with | .pointer (some _)=>true | .func (.func _) _ _=>true |_=>false)=true):QW P ρ bl (.nilCheck x) v:=⟨fun _ _ _=> .nilCheck hx hv⟩
theorem QW.len{t:TypeId}{el:TypeId}[h:SlC P t el]{x:Operand}{v:Value}{n:Nat}(hx:ev ρ x=some v)(hl:sLen v=some n):QW P ρ bl (.call ⟨.builtin .len,#[x],#[t]⟩) (.int .i64 n):=⟨fun _ _ _=> .len_sl hx hl h.o⟩
theorem QW.fa{s:TypeId}{x:Operand}{n b o off o' m:Nat}{ft:TypeId}[hf:FlC P s n off ft]{agg:Bool}{bytes:Nat}{z:List Value}[ht:TyC P ft agg (m+1) bytes z](hx:ev ρ x=some (.pointer (some ⟨b,o,none⟩)))(ho:lits[o+off]?=some o'):
  QW P ρ bl (.fieldAddr s x n) (.pointer (some ⟨b,o',none⟩)):=⟨fun _ _ _=> .fieldAddr o' hx hf.o ht.o.sz (Xr2 ho)⟩
theorem QW.lo(i:Nat){t:TypeId}{x:Operand}{b o:Nat}{cs:List Value}{T:TypeId}{fz:Nat×Nat}{v:Value}(hx:ev ρ x=some (.pointer (some ⟨b,o,none⟩)))(h:bl[i]?=some (b, .cells cs.toArray T fz))
  {sz bytes:Nat} {z:List Value} [ht:TyC P t false sz bytes z] (hv:cs[o]?=some v):QW P ρ bl (.load t x) v:=⟨fun _ _ _=> .load_own i hx h ht.o hv⟩
theorem Cov.qr{d:Nat}{op:Op}{v:Value}{os:List OpX}(h:QW P ρ bl op v)(hd:Nat.blt d nt=true)(hk:Cov nt w0 S0 df ((d,v)::ρ) Fs bl sl (RO P c R os k)):Cov nt w0 S0 df ρ Fs bl sl (RO P c R (⟨some d,op,ty,none⟩::os) k):=Cov.q .ro (h.q _ _ _) hd hk
theorem Cov.qd{d:Nat}{op:Op}{v:Value}{Fs0:List Hp}{bl0:Blks}{os:OX}(h:QW P ρ bl0 op v)(hd:Nat.blt d nt=true)(hk:Cov nt w0 S0 df ((d,v)::ρ) Fs bl sl (DO P c R (Cls Fs0 bl0) os k)):
  Cov nt w0 S0 df ρ Fs bl sl (DO P c R (Cls Fs0 bl0) (.q ⟨some d,op,ty,none⟩ os) k):=Cov.dq (h.q _ _ _) hd hk
theorem Cov.go(n:Nat)(h:Cov nt w0 S0 df ρ' Fs' bl' sl' K')(g:GoN n (Cov nt w0 S0 df ρ' Fs' bl' sl' K') (Cov nt w0 S0 df ρ Fs bl sl K):=by
  repeat (first
   |exact GoN.done
   | ((with_reducible refine GoN.run ?_);first |refine GoN.step Cov.seq ?_ |refine GoN.step (fun h=>Cov.region rfl h) ?_ |refine GoN.step Cov.skip ?_ |refine GoN.step Cov.inBlock ?_)
   | ((with_reducible refine GoN.ro ?_);first |refine GoN.step (fun h=>Cov.qr (by first |exact .mv rfl |exact .av rfl |exact .ex rfl rfl |exact .fa rfl rfl |exact .lo 0 rfl rfl rfl |exact .lo 1 rfl rfl rfl |exact .lo 2 rfl rfl rfl |exact .lo 3 rfl rfl rfl |exact .lo 4 rfl rfl rfl |exact .lo 5 rfl rfl rfl |exact .pt rfl rfl |exact .pf rfl rfl |exact .len rfl rfl |exact .add rfl rfl |exact .lss rfl rfl |exact .neq rfl rfl |exact .gtr rfl rfl |exact .not rfl |exact .sub rfl rfl |exact .geq rfl rfl |exact .mul rfl rfl |exact .eql rfl rfl |exact .leq rfl rfl |exact .nc rfl rfl) rfl h) ?_ |refine GoN.step (fun h=>Cov.g_on rfl h) ?_ |refine GoN.step (fun h=>Cov.g_off rfl rfl rfl h) ?_ |refine GoN.step Cov.re ?_)
   | ((with_reducible refine GoN.d ?_);first |refine GoN.step (fun h=>Cov.qd (by first |exact .mv rfl |exact .av rfl |exact .ex rfl rfl |exact .fa rfl rfl |exact .lo 0 rfl rfl rfl |exact .lo 1 rfl rfl rfl |exact .lo 2 rfl rfl rfl |exact .lo 3 rfl rfl rfl |exact .lo 4 rfl rfl rfl |exact .lo 5 rfl rfl rfl |exact .pt rfl rfl |exact .pf rfl rfl |exact .len rfl rfl |exact .add rfl rfl |exact .lss rfl rfl |exact .neq rfl rfl |exact .gtr rfl rfl |exact .not rfl |exact .sub rfl rfl |exact .geq rfl rfl |exact .mul rfl rfl |exact .eql rfl rfl |exact .leq rfl rfl |exact .nc rfl rfl) rfl h) ?_ |refine GoN.step Cov.draw_end ?_))):Cov nt w0 S0 df ρ Fs bl sl K:=g.go h
theorem Cov.gn(n:Nat)(h:Cov nt w0 S0 df ρ' Fs' bl' sl' K')(g:GoN n (Cov nt w0 S0 df ρ' Fs' bl' sl' K') (Cov nt w0 S0 df ρ Fs bl sl K):=by
  try dsimp only [List.cons_append,List.nil_append]
  repeat (first
   |exact GoN.done
   | ((with_reducible refine GoN.run ?_);first |refine GoN.step Cov.seq ?_ |refine GoN.step (fun h=>Cov.region rfl h) ?_ |refine GoN.step Cov.skip ?_ |refine GoN.step Cov.inBlock ?_)
   | ((with_reducible refine GoN.ro ?_);first |refine GoN.step (fun h=>Cov.qr (by first |exact .mv rfl |exact .av rfl |exact .ex rfl rfl |exact .fa rfl rfl |exact .lo 0 rfl rfl rfl |exact .lo 1 rfl rfl rfl |exact .lo 2 rfl rfl rfl |exact .lo 3 rfl rfl rfl |exact .lo 4 rfl rfl rfl |exact .lo 5 rfl rfl rfl |exact .pt rfl rfl |exact .pf rfl rfl |exact .len rfl rfl |exact .add rfl rfl |exact .lss rfl rfl |exact .neq rfl rfl |exact .gtr rfl rfl |exact .not rfl |exact .sub rfl rfl |exact .geq rfl rfl |exact .mul rfl rfl |exact .eql rfl rfl |exact .leq rfl rfl |exact .nc rfl rfl) rfl h) ?_ |refine GoN.step (fun h=>Cov.g_on rfl h) ?_ |refine GoN.step (fun h=>Cov.g_off rfl rfl rfl h) ?_ |refine GoN.step Cov.re ?_)
   | ((with_reducible refine GoN.d ?_);first |refine GoN.step (fun h=>Cov.qd (by first |exact .mv rfl |exact .av rfl |exact .ex rfl rfl |exact .fa rfl rfl |exact .lo 0 rfl rfl rfl |exact .lo 1 rfl rfl rfl |exact .lo 2 rfl rfl rfl |exact .lo 3 rfl rfl rfl |exact .lo 4 rfl rfl rfl |exact .lo 5 rfl rfl rfl |exact .pt rfl rfl |exact .pf rfl rfl |exact .len rfl rfl |exact .add rfl rfl |exact .lss rfl rfl |exact .neq rfl rfl |exact .gtr rfl rfl |exact .not rfl |exact .sub rfl rfl |exact .geq rfl rfl |exact .mul rfl rfl |exact .eql rfl rfl |exact .leq rfl rfl |exact .nc rfl rfl) rfl h) ?_ |refine GoN.step Cov.draw_end ?_))):Cov nt w0 S0 df ρ Fs bl sl K:=g.go h
theorem RetS.st{f:FuncId}{fn:Func}{code:Code}{vs:List Value}{bin:Blks}{sin:List OwnS}{Q:Value→Blks→List OwnS→Prop}{G:Hp}(ρ0:Env)(hf:P.funcs[f]?=some fn)(hn:fn.ntmps=nt)(hG:G∈Fs)
  (h:∀w0 S0,S0=blks bin sin→Bd w0 S0 Fs G→Cov nt w0 S0 [] ρ0 (G::Fs) bin sin (Run P ⟨f,none⟩ (RP w0 S0 Fs (fun v _ bl sl=>Q v bl sl)) [.code code])) (hρ:ArgsOk vs ρ0:=by repeat (first |exact trivial |refine⟨rfl,?_⟩)) (hb:fn.body=some code:=by rfl) (hlen:Nat.ble vs.length nt=true:=by rfl):RetS P f vs.toArray Fs bin sin Q:=
 RetS.of hf hb hn ρ0 hρ hlen hG h
theorem RetW.st{f:FuncId}{fn:Func}{code:Code}{vs:List Value}{bin:Blks}{sin:List OwnS}{Q:Value→Blks→List OwnS→Hp→Prop}{G:Hp}(ρ0:Env)(hf:P.funcs[f]?=some fn)(hn:fn.ntmps=nt)(hG:G∈Fs)
  (h:∀w0 S0,S0=blks bin sin→Bd w0 S0 Fs G→Cov nt w0 S0 [] ρ0 (G::Fs) bin sin (Run P ⟨f,none⟩ (RP w0 S0 Fs (fun v Fr bl sl=>∀G',Ext (Fr::Fs) G'→Q v bl sl G')) [.code code])) (hρ:ArgsOk vs ρ0:=by repeat (first |exact trivial |refine⟨rfl,?_⟩)) (hb:fn.body=some code:=by rfl) (hlen:Nat.ble vs.length nt=true:=by rfl):RetW P f vs.toArray Fs bin sin Q:=
 RetW.of hf hb hn ρ0 hρ hlen hG h
abbrev rv(x:Value):Value→Blks→List OwnS→Prop:=fun v bo so=>v=x∧bo=[]∧so=[]
section
variable{d:Nat}{f:FuncId}{fop:Operand}{args:Array Operand}{ts:Array TypeId}{os:List OpX}{ot:OX}
theorem Cov.cS(vs:List Value){Q:Value→Blks→List OwnS→Prop}(hcall:∀args w,(callFunc f args).run P w= .ok (.enter f args) w)(hr:RetS P f (vs++[]).toArray Fs [] [] Q)
  (hk:∀v bo so,Q v bo so→Cov nt w0 S0 df ((d,v)::ρ) Fs (bo++bl) (so++sl) (RO P c R os k)) (hf:ev ρ fop=some (.func (.func f) #[] #[]):=by rfl) (ha:args.toList.map (ev ρ)=vs.map some:=by rfl) (hd:Nat.blt d nt=true:=by rfl):
  Cov nt w0 S0 df ρ Fs bl sl (RO P c R (⟨some d, .call ⟨.value fop,args,ts⟩,ty,none⟩::os) k):=Cov.callS (b1:=[]) (s1:=[]) vs [] .ro hf ha hcall rfl rfl hr hd hk
theorem Cov.cSd(vs:List Value){Q:Value→Blks→List OwnS→Prop}(hcall:∀args w,(callFunc f args).run P w= .ok (.enter f args) w)(hr:RetS P f (vs++[]).toArray Fs [] [] Q)
  (hk:∀v bo so,Q v bo so→Cov nt w0 S0 df ((d,v)::ρ) Fs (bo++bl) (so++sl) (fun a w=>C w∧DO P c R C ot k a w)) (hf:ev ρ fop=some (.func (.func f) #[] #[]):=by rfl) (ha:args.toList.map (ev ρ)=vs.map some:=by rfl) (hd:Nat.blt d nt=true:=by rfl):
  Cov nt w0 S0 df ρ Fs bl sl (DO P c R C (.e ⟨some d, .call ⟨.value fop,args,ts⟩,ty,none⟩ 1 ot) k):=Cov.callS (b1:=[]) (s1:=[]) vs [] .d1 hf ha hcall rfl rfl hr hd hk
theorem Cov.cV(vs:List Value){v:Value}(hcall:∀args w,(callFunc f args).run P w= .ok (.enter f args) w)(hr:RetS P f (vs++[]).toArray Fs [] [] (rv v))
  (hk:Cov nt w0 S0 df ((d,v)::ρ) Fs bl sl (RO P c R os k)) (hf:ev ρ fop=some (.func (.func f) #[] #[]):=by rfl) (ha:args.toList.map (ev ρ)=vs.map some:=by rfl) (hd:Nat.blt d nt=true:=by rfl):
  Cov nt w0 S0 df ρ Fs bl sl (RO P c R (⟨some d, .call ⟨.value fop,args,ts⟩,ty,none⟩::os) k):=Cov.cS vs hcall hr (fun v' bo so h=>by obtain⟨rfl,rfl,rfl⟩:=h;exact hk) hf ha hd
theorem Cov.cVd(vs:List Value){v:Value}(hcall:∀args w,(callFunc f args).run P w= .ok (.enter f args) w)(hr:RetS P f (vs++[]).toArray Fs [] [] (rv v))
  (hk:Cov nt w0 S0 df ((d,v)::ρ) Fs bl sl (fun a w=>C w∧DO P c R C ot k a w)) (hf:ev ρ fop=some (.func (.func f) #[] #[]):=by rfl) (ha:args.toList.map (ev ρ)=vs.map some:=by rfl) (hd:Nat.blt d nt=true:=by rfl):
  Cov nt w0 S0 df ρ Fs bl sl (DO P c R C (.e ⟨some d, .call ⟨.value fop,args,ts⟩,ty,none⟩ 1 ot) k):=Cov.cSd vs hcall hr (fun v' bo so h=>by obtain⟨rfl,rfl,rfl⟩:=h;exact hk) hf ha hd
theorem Cov.cW{G:Hp}{B:List Hp}(vs:List Value){Q:Value→Blks→List OwnS→Hp→Prop}(hcall:∀args w,(callFunc f args).run P w= .ok (.enter f args) w)(hr:RetW P f (vs++[]).toArray (G::B) [] [] Q)(hB:Bd w0 S0 B G)
  (hk:∀v bo so G',HpLe G G'→Bd w0 S0 B G'→Q v bo so G'→Cov nt w0 S0 df ((d,v)::ρ) (G'::B) (bo++bl) (so++sl) (RO P c R os k)) (hf:ev ρ fop=some (.func (.func f) #[] #[]):=by rfl) (ha:args.toList.map (ev ρ)=vs.map some:=by rfl) (hd:Nat.blt d nt=true:=by rfl):
  Cov nt w0 S0 df ρ (G::B) bl sl (RO P c R (⟨some d, .call ⟨.value fop,args,ts⟩,ty,none⟩::os) k):=Cov.callW (b1:=[]) (s1:=[]) vs [] .ro hf ha hcall rfl rfl hr hd hB hk
end
section
variable{fn:Func}{items:List Item}{Fin:List Hp}{G:Hp}
theorem Cov.rS(rs:List ResultVar)(vs:List Value){Q:Value→Blks→List OwnS→Prop}(hf:P.funcs[c.fn]?=some fn)(hrs:fn.results=rs.toArray)(hpost:Q (retVal vs) bl sl)
  (hit:items=[]∨∃k,items= .code .ret::k:=by first |exact .inr ⟨_,rfl⟩ |exact .inl rfl) (hro:c.ro=none:=by rfl) (hres:RVs P ρ Fs bl sl rs vs:=by repeat (first |exact trivial |refine⟨RV.tmp rfl,?_⟩)) (hsub:∀F∈Fin,F∈Fs:=by exact fun _ h=>List.mem_cons_of_mem _ h):
  Cov nt w0 S0 [] ρ Fs bl sl (Run P c (RP w0 S0 Fin (fun v _ bl sl=>Q v bl sl)) items):=Cov.retS hit rs vs hro hf hrs hres hsub hpost
theorem Cov.rW(n:Nat)(rs:List ResultVar)(vs:List Value){B:List Nat}{Q:Value→Blks→List OwnS→Hp→Prop}(hf:P.funcs[c.fn]?=some fn)(hrs:fn.results=rs.toArray)(hres:RVs P ρ (G::Fs) bl sl rs vs)(hbd:Bd w0 S0 Fin G)(hS0:S0=B)
  (hpost:∀G',HpLe G G'→Q (retVal vs) (bl.drop n) sl G') (hit:items=[]∨∃k,items= .code .ret::k:=by first |exact .inr ⟨_,rfl⟩ |exact .inl rfl) (hro:c.ro=none:=by rfl) (hsub:∀F∈Fin,F∈G::Fs:=by exact fun _ h=>List.mem_cons_of_mem _ h) (hS:∀b∈B,b∈blks bl sl:=by simp [blks]):
  Cov nt w0 S0 [] ρ (G::Fs) bl sl (Run P c (RP w0 S0 Fin (fun v Fr bl sl=>∀G',Ext (Fr::Fin) G'→Q v bl sl G')) items):=Cov.retWD n hit rs vs hro hf hrs hres hsub List.mem_cons_self hbd (by subst hS0;exact hS) hpost
end
theorem Cov.cH{α:Type}{x y:Code}{o:Operand}{p:Prop}[Decidable p]{A B r:α}(hr:(if p then A else B)=r)(ht:p→A=r→Cov nt w0 S0 df ρ Fs bl sl (Run P c R (.code x::k)))(hf:¬p→B=r→Cov nt w0 S0 df ρ Fs bl sl (Run P c R (.code y::k)))
  (hc:ev ρ o=some (.bool (decide p)):=by rfl):Cov nt w0 S0 df ρ Fs bl sl (Run P c R (.code (.cond o x y)::k)):=Cov.cond_dec hc (fun h=>ht h (ifT hr h)) (fun h=>hf h (ifF hr h))
theorem Cov.cB{α:Type}{x y:Code}{o:Operand}{p:Bool}{A B r:α}(hr:(if p=true then A else B)=r)(ht:p=true→A=r→Cov nt w0 S0 df ρ Fs bl sl (Run P c R (.code x::k)))(hf:p=false→B=r→Cov nt w0 S0 df ρ Fs bl sl (Run P c R (.code y::k)))
  (hc:ev ρ o=some (.bool p):=by rfl):Cov nt w0 S0 df ρ Fs bl sl (Run P c R (.code (.cond o x y)::k)):=Cov.cond hc (fun h=>ht h (ifT hr h)) (fun h=>hf h (ifBF hr h))
structure Stt where
 e:Env
 f:List Hp
 b:Blks
 s:List OwnS
theorem Cov.ax(h:Cov nt w0 S0 df ρ' Fs' bl' sl' K)(hs:Sub ρ ρ')(h1:bl=bl':=by rfl)(h2:sl=sl':=by rfl)(h3:Fs=Fs':=by rfl):Cov nt w0 S0 df ρ Fs bl sl K:=Cov.prune _ hs (Cov.same h1 h2 h3 h)
theorem Cov.ar(h:Cov nt w0 S0 df ρ' Fs' bl' sl' K)(hs:Sub ρ ρ':=by repeat (first |exact trivial |refine⟨rfl,?_⟩))(h1:bl=bl':=by rfl)(h2:sl=sl':=by rfl)(h3:Fs=Fs':=by rfl):Cov nt w0 S0 df ρ Fs bl sl K:=Cov.ax h hs h1 h2 h3
section
set_option linter.unusedVariables false
variable(J:Stt→Prop)(ρs:Env)(bls:Blks)(ib:List Nat)(sls:List OwnS)(is:List Nat)
theorem Cov.kB{id:Nat}{x:Code}(hk:∀y,J y→Cov nt w0 S0 df (y.e++ρs) y.f (y.b++bls) (y.s++sls) (Run P c R k))
  (h:(∀y,J y→Cov nt w0 S0 df (y.e++ρs) y.f (y.b++bls) (y.s++sls) (Run P c R k))→Cov nt w0 S0 df ρ Fs bl sl (Run P c R (.code (.block id x)::k)))
  (hρ:Sub ρ ρs:=by repeat (first |exact trivial |refine⟨rfl,?_⟩)) (hb:ib.map (bl[·]?)=bls.map some:=by rfl) (hs:is.map (sl[·]?)=sls.map some:=by rfl):Cov nt w0 S0 df ρ Fs bl sl (Run P c R (.code (.block id x)::k)):=h hk
theorem Cov.kI{o:Operand}{x y:Code}(hk:∀y,J y→Cov nt w0 S0 df (y.e++ρs) y.f (y.b++bls) (y.s++sls) (Run P c R k))
  (h:(∀y,J y→Cov nt w0 S0 df (y.e++ρs) y.f (y.b++bls) (y.s++sls) (Run P c R k))→Cov nt w0 S0 df ρ Fs bl sl (Run P c R (.code (.cond o x y)::k)))
  (hρ:Sub ρ ρs:=by repeat (first |exact trivial |refine⟨rfl,?_⟩)) (hb:ib.map (bl[·]?)=bls.map some:=by rfl) (hs:is.map (sl[·]?)=sls.map some:=by rfl):Cov nt w0 S0 df ρ Fs bl sl (Run P c R (.code (.cond o x y)::k)):=h hk
theorem Cov.kG{id:Nat}{ops:Array Oper}{dr:Bool}(hk:∀y,J y→Cov nt w0 S0 df (y.e++ρs) y.f (y.b++bls) (y.s++sls) (Run P c R k))
  (h:(∀y,J y→Cov nt w0 S0 df (y.e++ρs) y.f (y.b++bls) (y.s++sls) (Run P c R k))→Cov nt w0 S0 df ρ Fs bl sl (Run P c R (.code (.region id ops dr)::k)))
  (hρ:Sub ρ ρs:=by repeat (first |exact trivial |refine⟨rfl,?_⟩)) (hb:ib.map (bl[·]?)=bls.map some:=by rfl) (hs:is.map (sl[·]?)=sls.map some:=by rfl):Cov nt w0 S0 df ρ Fs bl sl (Run P c R (.code (.region id ops dr)::k)):=h hk
theorem Cov.kR(n:Nat){os:List OpX}(hk:∀y,J y→Cov nt w0 S0 df (y.e++ρs) y.f (y.b++bls) (y.s++sls) (RO P c R (os.drop n) k))
  (h:(∀y,J y→Cov nt w0 S0 df (y.e++ρs) y.f (y.b++bls) (y.s++sls) (RO P c R (os.drop n) k))→Cov nt w0 S0 df ρ Fs bl sl (RO P c R os k))
  (hρ:Sub ρ ρs:=by repeat (first |exact trivial |refine⟨rfl,?_⟩)) (hb:ib.map (bl[·]?)=bls.map some:=by rfl) (hs:is.map (sl[·]?)=sls.map some:=by rfl):Cov nt w0 S0 df ρ Fs bl sl (RO P c R os k):=h hk
theorem Cov.kD(n:Nat){t:OX}(hk:∀y,J y→Cov nt w0 S0 df (y.e++ρs) y.f (y.b++bls) (y.s++sls) (DO P c R C (t.after n) k))
  (h:(∀y,J y→Cov nt w0 S0 df (y.e++ρs) y.f (y.b++bls) (y.s++sls) (DO P c R C (t.after n) k))→Cov nt w0 S0 df ρ Fs bl sl (DO P c R C t k))
  (hρ:Sub ρ ρs:=by repeat (first |exact trivial |refine⟨rfl,?_⟩)) (hb:ib.map (bl[·]?)=bls.map some:=by rfl) (hs:is.map (sl[·]?)=sls.map some:=by rfl):Cov nt w0 S0 df ρ Fs bl sl (DO P c R C t k):=h hk
end
theorem Cov.lp(J:Stt→Nat→Prop)(ρs:Env)(bls:Blks)(sls:List OwnS){x:Code}{y0:Stt}{m0:Nat}(hI:J y0 m0)
  (round:∀y m,J y m→(∀z m',J z m'→m'<m→Cov nt w0 S0 df (z.e++ρs) (z.f++Fs) (z.b++bls) (z.s++sls) (Run P c R (.inLoop x::k)))→Cov nt w0 S0 df (y.e++ρs) (y.f++Fs) (y.b++bls) (y.s++sls) (Run P c R (.code x:: .inLoop x::k)))
  (hρ:Sub ρ (y0.e++ρs):=by repeat (first |exact trivial |refine⟨rfl,?_⟩)) (hF:Fs'=y0.f++Fs:=by rfl) (hb:bl=y0.b++bls:=by rfl) (hs:sl=y0.s++sls:=by rfl):Cov nt w0 S0 df ρ Fs' bl sl (Run P c R (.code (.loop x)::k)):=
 Cov.loop2 (α:=Stt×Nat) (fun y=>y.1.e) ρs (fun y=>y.1.f) (fun y=>y.1.b) bls (fun y=>y.1.s) sls (fun y=>J y.1 y.2) (fun y=>y.2) (y0,m0) hI hρ hF hb hs fun y hy hz=>round y.1 y.2 hy fun z m' h1 h2=>hz (z,m') h1 h2
end
end Go.Proofs.YtmfppphlhgneeaaGreat
end
