/- What the proof needs, gathered by wip/gen/shake.py. -/
import Derived.Calls
import Derived.Deep.Quiet
import Derived.Below
import Derived.Laws.AppendOwn
import Derived.WalkKit
import Derived.Laws.OwnMore
import Derived.Deep.Slices
import Derived.ChangeOld
import Derived.ArgAppend
import Derived.RangeFuncIn
import Derived.RangeFuncRecord
import Derived.RangeFuncLeaves
import Derived.Laws.MakeOwn
import Derived.IntWalk
import Derived.Laws.IdiomStrings
import Derived.Laws.Cover3
import Derived.Laws.CopyOwn
import Derived.MapKept
import Derived.RangeFuncNested
import Derived.Test.YtnfalgmfmiolbaaGreatRows
import Derived.ProofKit
import Derived.OpenShut
import Derived.ShutString
import Derived.Test.YtnfalgmfmiolbaaGreatBoundsSettlesQ1
set_option linter.unusedVariables false
set_option linter.unusedSimpArgs false
section
namespace Go.Proofs.YtnfalgmfmiolbaaGreat
set_option linter.unusedVariables false
set_option synthInstance.maxSize 2000
set_option synthInstance.maxHeartbeats 400000
abbrev Ab:=List Int
abbrev Af:=Int×Int
abbrev Ag:=Ab×Int
abbrev Ah:=List Ab
abbrev Ak:=Int×Int×Int×Ah
abbrev An:=List Af
abbrev Ao:=Option Ag
abbrev Ap:=Ag×Int
abbrev Aq:=Option Int
abbrev Ar:=List (Int×Int×Int×Ab×Ab)
abbrev Au:=Option Bool
abbrev Aw:=List (List (Bool×Ab))
abbrev Ax:=Option Addr
abbrev Be:=List Value
abbrev Bk:=Option (Ah×Int)
abbrev Bn:=List Ah
abbrev Bp:=List Ak
abbrev By:=Option (Bn×Ap)
abbrev Bz:=Int×Af
abbrev Ay:=Int×Bz
abbrev Ai:=Int×Ay
abbrev Ad:=Int×Ay×Ai×Ab×Bn×Aw×Ah×Bool
abbrev Bc:=List (Ai×Ah)
abbrev Ac:=Int×Ay×Bool×Bc×Ar
abbrev Bj:=List Ai
abbrev Bq:=List Ac
abbrev Bx:=List Ad
abbrev Ca:=Option (Int×Bool)
abbrev Cd:=Option (Af×Bool)
abbrev Ce:=Option Af
abbrev Cf:=Option Ap
abbrev Ch:=Option (Ad×Int)
abbrev Bl:=Int→Int→Int→Int→Int→Int→Int→Int→Int→Int→Bool→Int→Int→Int→Int→Int→Int→Int→Int→Int→Int→Int→Int→Int→Int→Int→Int→Bool→Ch
abbrev Ci:=Int→Aq
abbrev Cj:=Option (An×Ap)
abbrev Ck:=Option (Ad×Ap)
abbrev Bi:=Int→Int→Int→Int→Int→Int→Int→Int→Int→Int→Aw→Ah→Bool→Int→Int→Int→Int→Int→Int→Int→Int→Int→Int→Int→Int→Int→Bool→Int→Int→Int→Int→Int→Int→Int→Int→Int→Int→Ck
abbrev Cl:=Option Ab
abbrev Cm:=Int×Int×Bj
abbrev Bo:=Option (Cm×Ap)
abbrev Cr:=Int→Au
abbrev Ct:=Bn→Int→Ab→Int→Int→Int→Int→Int→Int→By
abbrev Cy:=Bn→Int→Ab→Int→By
abbrev Cz:=Int→Ao
abbrev Bh:=Ab→Cz
abbrev Bv:=Int→Int→Int→Int→Int→Cz
abbrev Co:=Nat→Bh
abbrev Da:=List Hp
abbrev Db:=Option (Ah×Ag)
abbrev Dd:=Option (Ag×Ag)
abbrev Cc:=Ab→Int→Int→Dd
abbrev De:=Int→Int→Int→Int→Int→Int→Bo
abbrev Df:=An×Ab
abbrev Bu:=Option (Df×Af)
abbrev Di:=Int→Ci
abbrev Do:=Int→Ca
abbrev Dp:=Ah→Int→Ab→Int→Db
abbrev Dq:=Nat→Cr
abbrev Dr:=Int→Cf
abbrev Ds:=Ah×Ap
abbrev Bb:=Option Ds
abbrev Al:=Int→Int→Int→Bb
abbrev Bm:=Ah→Int→Ab→Int→Int→Al
abbrev Br:=Ah→Int→Ab→Int→Al
abbrev Dg:=Ah→Int→Ab→Al
abbrev Dj:=Int→Br
abbrev Dl:=Int→Bm
abbrev Dt:=Int×Ag
abbrev Du:=Ab→Ao
abbrev Dv:=Option An
abbrev Dw:=Ah→Bb
abbrev Dy:=Ac×Int
abbrev Bf:=Option Dy
abbrev Cq:=Int→Int→Int→Int→Int→Int→Int→Int→Bool→Bf
abbrev Av:=Int→Int→Int→Int→Int→Bool→Int→Int→Int→Cq
abbrev Bs:=Int→Int→Int→Int→Int→Int→Int→Int→Int→Int→Int→Bool→Cq
abbrev Dz:=Int→Aw→Ah→Ck
abbrev Ea:=Ab×Ag
abbrev Ae:=Int×Int×Int×Int×Int×Ea
abbrev Bg:=List Ae
abbrev Aj:=List (Int×Int×List (Int×Ab×Ab)×Bg)
abbrev Aa:=Ay×An×Bp×Bq×Bg×Bx×Cm×Df×Ab×Aj
abbrev Bt:=Option (Aa×Ag)
abbrev Cb:=Ab→Int→Int→Int→Ab→Int→Int→Int→Int→Int→Int→Int→Int→Int→Int→Int→Bt
abbrev Cp:=Int→Ab→Int→Ab→Int→Bt
abbrev Cu:=Option Ea
abbrev Bw:=Ab→Int→Ab→Int→Cu
abbrev Cv:=Aa×Int
abbrev As:=Option Cv
abbrev Az:=Int→Int→Int→Int→Int→Int→Int→Int→Int→Int→Int→An→Bp→Bq→Bg→Bx→Int→Int→Bj→An→Ab→Ab→Aj→As
abbrev Cw:=Int→As
abbrev Dh:=Option Bg
abbrev Ba:=Bg→Int→Int→Int→Int→Int→Int→Int→Int→Int→Int→Int→Bool→Dh
abbrev Dx:=Ae×Int
abbrev Eb:=Ac×Ae×Bool×Int
abbrev Cn:=Option Eb
abbrev Ec:=Int→Di
abbrev Ed:=Int→Bk
abbrev At:=Int→Int→Int→Ed
abbrev Dc:=Int→Ab→At
abbrev Dm:=Ah→Int→At
abbrev Ee:=Int→Cj
abbrev Dn:=An→Int→Int→Ee
abbrev Ef:=Int→Cw
abbrev Am:=Int→Int→Int→Int→Int→Int→Int→Int→Int→Int→Int→Ef
abbrev Cs:=Int→Int→Int→Int→Bq→Int→Int→Int→Int→Am
def ifc250(x:(Sum Int (Sum (Int×Int) (Int×Int×Int)))):Value:=match x with
 | (Sum.inl x)=> .iface 291 (.agg #[.int .i64 x])
 | (Sum.inr (Sum.inl x))=> .iface 292 (.agg #[.int .i64 x.1, .int .i64 x.2])
 | (Sum.inr (Sum.inr x))=> .iface 293 (.agg #[.int .i64 x.1, .int .i64 x.2.1, .int .i64 x.2.2])
def X1i(x0 x1 x2:Int):Au:=
 some (decide ((x1≤x0)∧(x0≤x2)))
def X74(x0:Ay):Au:=
 (X1i x0.2.1 2 10).bind fun u2=>if((!u2)=true) then(none) else
 if(x0.1=1) then(some (decide ((x0.2.2.1=0)∧(x0.2.2.2=0)))) else
 if(x0.1=2) then((X1i x0.2.2.1 1 (w64 (x0.2.1-1))).bind fun u18=>some (decide ((u18=true)∧(x0.2.2.2=0)))) else
 if(x0.1=3) then((X1i x0.2.2.1 1 x0.2.1).bind fun u29=>(if(u29=true) then((X1i x0.2.2.2 1 x0.2.1).bind fun u49=>some u49) else some false).bind fun u39=>some (decide ((u39=true)∧((w64 ((w64 ((w64 (2*x0.2.2.2))+x0.2.2.1))-1))≤x0.2.1)))) else
 none
def X4j(v36:Int):Ca:=
 some (v36,true)
def X9r(kx37:Do)(z56:Int)(rec52:Do)(v53:Int):Ca:=
 if((w64 (v53*v53))≤z56) then((nz v53).bind fun _=>if((Int.tmod z56 v53)=0) then(none) else
 rec52 (w64 (v53+1))) else
 kx37 z56
def X7o(kx37:Do)(z56:Int):Nat→Do
 |0,_=>none
 |n+1,v53=>X9r kx37 z56 (X7o kx37 z56 n) v53
def X4k(x0:Int):Ca:=
 if((x0<2)∨(65521<x0)) then(none) else
 X7o X4j x0 big 2
def X8d(x0:Int):Aq:=
 (X4k x0).bind fun u2=>if((!u2.2)=true) then(none) else
 some 0
def X5h(x0:Ay)(x1:Int):Au:=
 (X74 x0).bind fun u3=>(if(u3=true) then((X8d x1).bind fun u31=>some (decide (u31=0))) else some false).bind fun u13=>some (decide ((u13=true)∧((x0.1=1)∨(x0.2.1<x1))))
def X8e(x0 x1 x2:Int):Au:=
 some (decide ((x1≤x0)∧(x0≤x2)))
def X9s(x0:Ay)(x1 x2:Int):Aq:=
 (X5h x0 x1).bind fun u3=>if((!u3)=true) then(none) else
(X1i x2 1 1024).bind fun u10=>if((!u10)=true) then(none) else
 some 0
def X6u(x0:Ay):Option Bz:=
 some x0.2
def X7p(x0:(Int×Int×Int×Int)):Option (Sum Int (Sum (Int×Int) (Int×Int×Int))):=
 if(x0.1=1) then(some (Sum.inl x0.2.1)) else
 if(x0.1=2) then(some (Sum.inr (Sum.inl (x0.2.1,x0.2.2.1)))) else
(X6u x0).bind fun u8=>some (Sum.inr (Sum.inr u8))
def X8y(x0 x1 x2:Int):Aq:=
 (X4k x0).bind fun u2=>if((!u2.2)=true) then(none) else
 if((((x2<2)∨(10<x2))∨(x1<1))∨(1024<x1)) then(none) else
 some 0
def X7m(z58 z59:Int)(rec48:Bh)(v49:Ab)(v55:Int):Ao:=
 if(v55<z58) then((lapp v49 ([z59]:List Int)).bind fun u71=>rec48 u71 (w64 (v55+1))) else
 some (v49,0)
def X3c(z58 z59:Int):Co
 |0,_,_=>none
 |n+1,v49,v55=>X7m z58 z59 (X3c z58 z59 n) v49 v55
def X7q(x0 x1 x2:Int):Ao:=
 (X8y x0 x1 x2).bind fun u2=>if(u2≠0) then(none) else
 X3c (w64 (x1*(w64 (x2-1)))) x0 big ([]:List Int) 0
def X3u(x0 x1 x2:Int):Ao:=
 (X7q x1 x2 x0).bind fun u3=>some (u3.1,u3.2)
def X9t(x0:Af):Au:=
 some (decide ((((2≤x0.1)∧(x0.1≤10))∧(1≤x0.2))∧(x0.2<x0.1)))
def X9u(x0:Int)(x1:Af):Aq:=
 (X4k x0).bind fun u3=>if((!u3.2)=true) then(none) else
(X9t x1).bind fun u10=>if(((!u10)=true)∨(x0≤x1.1)) then(none) else
 some 0
def X9v(x0:Int)(x1:Af)(x2:Int):Aq:=
 (X9u x0 x1).bind fun u3=>if((u3=0)∧((x2<1)∨(1024<x2))) then(none) else
 some u3
def X8f(z63 z66:Int)(rec53:Bh)(v54:Ab)(v60:Int):Ao:=
 if(v60<z63) then((lapp v54 ([z66]:List Int)).bind fun u78=>rec53 u78 (w64 (v60+1))) else
 some (v54,0)
def X3y(z63 z66:Int):Co
 |0,_,_=>none
 |n+1,v54,v60=>X8f z63 z66 (X3y z63 z66 n) v54 v60
def X8z(x0:Int)(x1:Af)(x2:Int):Ao:=
 (X9v x0 x1 x2).bind fun u3=>if(u3≠0) then(none) else
 X3y (w64 (x2*x1.2)) x0 big ([]:List Int) 0
def X2n(x0:Af)(x1 x2:Int):Ao:=
 (X8z x1 x0 x2).bind fun u3=>some (u3.1,u3.2)
def X1l(x0:Bz)(x1:Int):Aq:=
 (nz x0.2.2).bind fun _=>some (w64 (Int.tdiv (w64 ((w64 (x1+x0.2.2))-1)) x0.2.2))
def X9w(x0:Int)(x1:Bz):Aq:=
 (X4k x0).bind fun u3=>if((!u3.2)=true) then(none) else
 if((((((((x1.1<2)∨(10<x1.1))∨(x0≤x1.1))∨(x1.2.1<1))∨(x1.2.2<1))∨(x1.1<x1.2.1))∨(x1.1<x1.2.2))∨(x1.1<(w64 ((w64 ((w64 (2*x1.2.2))+x1.2.1))-1)))) then(none) else
 some 0
def X9x(x0:Int)(x1:Bz)(x2:Int):Aq:=
 (X9w x0 x1).bind fun u3=>if((u3=0)∧((x2<1)∨(1024<x2))) then(none) else
 some u3
def X8g(z65 z69:Int)(rec55:Bh)(v56:Ab)(v62:Int):Ao:=
 if(v62<z65) then((lapp v56 ([z69]:List Int)).bind fun u81=>rec55 u81 (w64 (v62+1))) else
 some (v56,0)
def X3z(z65 z69:Int):Co
 |0,_,_=>none
 |n+1,v56,v62=>X8g z65 z69 (X3z z65 z69 n) v56 v62
def X90(x0:Int)(x1:Bz)(x2:Int):Ao:=
 (X9x x0 x1 x2).bind fun u3=>if(u3≠0) then(none) else
 X3z (w64 (x2*x1.2.1)) x0 big ([]:List Int) 0
def X2o(x0:Bz)(x1 x2:Int):Ao:=
 (X1l x0 x2).bind fun u3=>(X90 x1 x0 u3).bind fun u7=>some (u7.1,u7.2)
def X5z(x0:Ay)(x1 x2:Int):Ao:=
 (X9s x0 x1 x2).bind fun u3=>if(u3≠0) then(none) else
(X7p x0).bind fun u10=>match u10 with
| (Sum.inl w14)=>((X3u w14 x1 x2).bind fun u18=>some (u18.1,u18.2))
| (Sum.inr (Sum.inl w27))=>((X2n w27 x1 x2).bind fun u31=>some (u31.1,u31.2))
| (Sum.inr (Sum.inr w28))=>((X2o w28 x1 x2).bind fun u44=>some (u44.1,u44.2))
def X8h(x0 x1:Int):Ce:=
 some ((IntKind.u64.wrap ((IntKind.u64.wrap ((IntKind.u64.wrap ((shrI .u64 x0 32)*(shrI .u64 x1 32)))+(shrI .u64 (IntKind.u64.wrap ((IntKind.u64.wrap ((shrI .u64 x0 32)*(andI .u64 x1 4294967295)))+(shrI .u64 (IntKind.u64.wrap ((andI .u64 x0 4294967295)*(andI .u64 x1 4294967295))) 32))) 32)))+(shrI .u64 (IntKind.u64.wrap ((andI .u64 (IntKind.u64.wrap ((IntKind.u64.wrap ((shrI .u64 x0 32)*(andI .u64 x1 4294967295)))+(shrI .u64 (IntKind.u64.wrap ((andI .u64 x0 4294967295)*(andI .u64 x1 4294967295))) 32))) 4294967295)+(IntKind.u64.wrap ((andI .u64 x0 4294967295)*(shrI .u64 x1 32))))) 32))),(IntKind.u64.wrap (x0*x1)))
def X60(x0 x1:Int):Ce:=
 (X8h x0 x1).bind fun u1=>some (u1.1,u1.2)
def X15(rec10:Int→Ab→Cl)(v11:Int)(v12:Ab):Cl:=
 if(v11<(v12.length:Int)) then((psub 0 (v12.length:Int) v11 ((v12.length:Int)-0)).bind fun u13=>(psub 0 (v12.length:Int) 0 v11).bind fun u14=>(lsub v12 u13.1 u13.2).bind fun u15=>(lsub v12 u14.1 u14.2).bind fun u16=>rec10 (w64 (v11+((min u16.length u15.length:Nat):Int))) (lcpy v12 u13.1 u15.length u16)) else
 some v12
def Xl:Nat→Int→Ab→Cl
 |0,_,_=>none
 |n+1,v10,v11=>X15 (Xl n) v10 v11
def X16(z23:Ab)(z24:Int):Cl:=
 (lmk (w64 z24) 0).bind fun u25=>(lsub u25 0 (u25.length:Int)).bind fun u32=>Xl big ((min z23.length u32.length:Nat):Int) (lcpy u25 0 u32.length z23)
def X17(z7:Ab)(z8:Int):Cl:=
 (X60 (IntKind.u64.wrap (z7.length:Int)) (IntKind.u64.wrap z8)).bind fun u9=>if((0<u9.1)∨(9223372036854775807<u9.2)) then(none) else
(X16 z7 u9.2)
def X12(x0:Ab)(x1:Int):Cl:=
 if(x1<0) then(none) else
(X17 x0 x1)
def X9y(x0:Ay)(x1 x2 x3:Int):Ao:=
 (X5h x0 x1).bind fun u3=>if((!u3)=true) then(none) else
(X8e x3 1 16).bind fun u10=>(if((!u10)=true) then(some true) else(X8e x2 1 1024).bind fun u56=>some (!u56)).bind fun u20=>if(u20=true) then(none) else
(X5z x0 x1 x2).bind fun u28=>if(u28.2≠0) then(none) else
(X12 u28.1 x3).bind fun u45=>some (u45,0)
def X5i(x0:Ay)(x1 x2 x3:Int):Ce:=
 (X9y x0 x1 x2 x3).bind fun u3=>some ((u3.1.length:Int),u3.2)
def X75(x0:Ay)(x1:Int):Aq:=
 some (w64 (x1*x0.2.1))
def X40(x0:Ay)(x1:Int):Aq:=
 (X75 x0 x1).bind fun u2=>some (w64 (2*u2))
def X76(x0:Ay)(x1 x2:Int):Aq:=
 (X75 x0 x2).bind fun u2=>some (w64 (u2*x1))
def X77(x0:Ay)(x1 x2:Int):Aq:=
 (X40 x0 x2).bind fun u2=>(X76 x0 x1 x2).bind fun u6=>some (w64 (u2+u6))
def Xas:Au:=
 (X5i (1,3,0,0) 2 4 2).bind fun u2=>(X40 (1,3,0,0) 1).bind fun u6=>(if(u6=6) then((X76 (1,3,0,0) 2 1).bind fun u47=>some (decide (u47=6))) else some false).bind fun u16=>(if(u16=true) then((X77 (1,3,0,0) 2 1).bind fun u41=>some (decide (u41=12))) else some false).bind fun u27=>some (decide (((u27=true)∧(u2.2=0))∧(u2.1=16)))
def X8i(v11:Ab):Ao:=
 some (v11,0)
def Xbi(x0:Ab):Ao:=
 if(300<(x0.length:Int)) then((lsub x0 0 300).bind fun u21=>X8i u21) else
 X8i x0
def X4(x0:Ag)(x1:Int):Option Dt:=
 if((x0.1.length:Int)≤x0.2) then(some (0,x0)) else
(lidx x0.1 (w64 ((w64 (x0.2+1))-1))).bind fun u4=>(nz x1).bind fun _=>some ((Int.tmod (w64 u4) x1),(x0.1,(w64 (x0.2+1))))
def X3d(x0:Ag):Option (Ay×Ag):=
 (X4 x0 4).bind fun u2=>(X4 u2.2 3).bind fun u9=>if(u9.1=0) then(some ((1,(w64 (3+u2.1)),0,0),u9.2)) else
 if(u9.1=1) then((X4 u9.2 2).bind fun u21=>some ((2,(w64 (3+u2.1)),(w64 (1+u21.1)),0),u21.2)) else
(if((w64 (3+u2.1))<4) then(some (true,u9.2.1,u9.2.2)) else(X4 u9.2 2).bind fun u59=>some ((decide (u59.1=0)),u59.2.1,u59.2.2)).bind fun u39=>if(u39.1=true) then((X4 u39.2 2).bind fun u49=>some ((3,(w64 (3+u2.1)),(w64 (1+u49.1)),1),u49.2)) else
 some ((3,(w64 (3+u2.1)),1,2),u39.2)
def X41(x0:Ag):Option Dt:=
 (X4 x0 4).bind fun u5=>(lidx ([7,11,13,257]:List Int) u5.1).bind fun u12=>some (u12,u5.2)
def X13(z90 z91:Int)(rec75:Bw)(v76:Ab)(v82:Int)(v83:Ab)(v87:Int):Cu:=
 if(v82<z90) then((X4 (v83,v87) 256).bind fun u96=>(X4 u96.2 2).bind fun u10=>(nz z91).bind fun _=>(lapp v76 ([(Int.tmod (w64 (u96.1+(w64 (u10.1*128)))) z91)]:List Int)).bind fun u11=>rec75 u11 (w64 (v82+1)) u10.2.1 u10.2.2) else
 some (v76,(v83,v87))
def Xm(z90 z91:Int):Nat→Bw
 |0,_,_,_,_=>none
 |n+1,v76,v82,v83,v87=>X13 z90 z91 (Xm z90 z91 n) v76 v82 v83 v87
def X3v(x0:Ag)(x1 x2:Int):Cu:=
 Xm x2 x1 big ([]:List Int) 0 x0.1 x0.2
def X2q(z96 z97 z98:Int)(rec77:Dp)(v82:Ah)(v88:Int)(v89:Ab)(v93:Int):Db:=
 if(v88<z96) then((X3v (v89,v93) z98 z97).bind fun u10=>(lapp v82 ([u10.1]:List (List Int))).bind fun u11=>rec77 u11 (w64 (v88+1)) u10.2.1 u10.2.2) else
 some (v82,(v89,v93))
def Xy(z96 z97 z98:Int):Nat→Dp
 |0,_,_,_,_=>none
 |n+1,v82,v88,v89,v93=>X2q z96 z97 z98 (Xy z96 z97 z98 n) v82 v88 v89 v93
def X6v(x0:Ag)(x1 x2 x3:Int):Db:=
 Xy x2 x3 x1 big ([]:List (List Int)) 0 x0.1 x0.2
def X42(x0:Ag)(x1:Int):Option (Ak×Ag):=
 (X4 x0 3).bind fun u3=>(X4 u3.2 3).bind fun u10=>(X4 u10.2 5).bind fun u17=>(X6v u17.2 x1 (w64 (1+u17.1)) (w64 (1+u3.1))).bind fun u24=>some (((w64 (1+u10.1)),x1,(w64 (1+u3.1)),u24.1),u24.2)
def X5j(x0:Int):Au:=
 some (decide ((1≤x0)∧(x0<2147483647)))
def X9b(rec10:Aq)(z11:Int)(rec12:Aq)(x13:Af):Aq:=
 if(x13.2=z11) then(none) else
 rec12
def X4s(rec10:Aq)(z11:Int):An→Aq
 | []=>rec10
 |x12::xs=>X9b rec10 z11 (X4s rec10 z11 xs) x12
def X9c(z10:An)(rec11:Aq)(x12:Af)(i11:Nat):Aq:=
 (X5j x12.1).bind fun u13=>(if((!u13)=true) then(some true) else(X5j x12.2).bind fun u14=>some (!u14)).bind fun u15=>if(u15=true) then(none) else
(if(0<(i11:Int)) then((lidx z10 (w64 ((i11:Int)-1))).bind fun u16=>some (decide (x12.1≤u16.1))) else some false).bind fun u17=>if(u17=true) then(none) else
(lsub z10 0 (i11:Int)).bind fun u18=>X4s rec11 x12.2 u18
def X1j(z10:An):An→Nat→Aq
 | [],i11=>some 0
 |x12::xs,i11=>X9c z10 (X1j z10 xs (i11+1)) x12 i11
def X8j(x0:An):Aq:=
 if(16<(x0.length:Int)) then(none) else
 X1j x0 x0 0
def X9d(z25:Int)(rec21:Ci)(v22:Int):Aq:=
 if((w64 (v22*v22))≤z25) then((nz v22).bind fun _=>if((Int.tmod z25 v22)=0) then(none) else
 rec21 (w64 (v22+1))) else
 some 0
def X6w(z25:Int):Nat→Ci
 |0,_=>none
 |n+1,v22=>X9d z25 (X6w z25 n) v22
def X1m(x0:Int):Aq:=
 if((x0<2)∨(65521<x0)) then(none) else
 X6w x0 big 2
def X8k(z35:Int)(rec27:Au)(x37:Int):Au:=
 if((x37<0)∨(z35≤x37)) then(some false) else
 rec27
def X43(z35:Int):Ab→Au
 | []=>some true
 |x37::xs=>X8k z35 (X43 z35 xs) x37
def X4l(x0:Int)(x1:Ab):Au:=
 (X1m x0).bind fun u2=>if(u2≠0) then(some false) else
 X43 x0 x1
def X4t(z61 z62:Int)(rec52:Aq)(x64:Ab):Aq:=
 if((x64.length:Int)≠z62) then(none) else
(X4l z61 x64).bind fun u75=>if((!u75)=true) then(none) else
 rec52
def X25(z61 z62:Int):Ah→Aq
 | []=>some 0
 |x64::xs=>X4t z61 z62 (X25 z61 z62 xs) x64
def X2z(x0:Ak):Aq:=
 if((x0.1<1)∨(2147483647≤x0.1)) then(none) else
(X1m x0.2.1).bind fun u9=>if(u9≠0) then(none) else
 if((x0.2.2.1<1)∨(64<x0.2.2.1)) then(none) else
 if(1024<(x0.2.2.2.length:Int)) then(none) else
 X25 x0.2.1 x0.2.2.1 x0.2.2.2
def X30(x0:Ay):Au:=
 if((x0.2.1<2)∨(10<x0.2.1)) then(none) else
 if(x0.1=1) then(some (decide ((x0.2.2.1=0)∧(x0.2.2.2=0)))) else
 if(x0.1=2) then(some (decide (((1≤x0.2.2.1)∧(x0.2.2.1≤(w64 (x0.2.1-1))))∧(x0.2.2.2=0)))) else
 if(x0.1=3) then(some (decide (((((1≤x0.2.2.1)∧(1≤x0.2.2.2))∧(x0.2.2.1≤10))∧(x0.2.2.2≤10))∧((w64 ((w64 ((w64 (2*x0.2.2.2))+x0.2.2.1))-1))≤x0.2.1)))) else
 none
def X19(x0:Ay)(x1:Int):Au:=
 (X30 x0).bind fun u3=>(if(u3=true) then((X1m x1).bind fun u31=>some (decide (u31=0))) else some false).bind fun u13=>some (decide ((u13=true)∧((x0.1=1)∨(x0.2.1<x1))))
def X4m(v44 v45:Int):Cd:=
 some ((0,0),false)
def X9z(kx46:Int→Int→Cd)(z71:Int)(rec65:Cd)(x75:Af):Cd:=
 if(x75.1=z71) then(some (x75,true)) else
 rec65
def X61(kx46:Int→Int→Cd)(z71:Int):An→Cd
 | []=>kx46 0 0
 |x75::xs=>X9z kx46 z71 (X61 kx46 z71 xs) x75
def X83(x0:An)(x1:Int):Cd:=
 (X8j x0).bind fun u2=>if(u2≠0) then(none) else
 X61 X4m x1 x0
def Xbj(x0:Int):Option (Cm×Int):=
 if((x0<1)∨(2147483646<x0)) then(none) else
 some ((x0,0,([]:List (Int×Int×Int×Int×Int))),0)
def Xbk(x0:Ak):Option (Bp×Int):=
 (X2z x0).bind fun u3=>if(u3≠0) then(none) else
 some (([x0]:List (Int×Int×Int×(List (List Int)))),0)
def Xbl(x0:Int):Option (Df×Int):=
 if((x0<1)∨(2147483646<x0)) then(none) else
 some ((([]:List (Int×Int)),([x0]:List Int)),0)
def Xah(x0:Int)(x1:Ay):Bf:=
 (X30 x1).bind fun u3=>if((!u3)=true) then(none) else
 if((x0<1)∨(x1.2.1<x0)) then(none) else
 some ((x0,(x1.1,x1.2.1,x1.2.2.1,x1.2.2.2),true,([]:List ((Int×Int×Int×Int×Int)×(List (List Int)))),([]:List (Int×Int×Int×(List Int)×(List Int)))),0)
def X78(x0:Int):Aq:=
 some (Int.tmod (w64 ((Int.tmod x0 2147483647)+2147483647)) 2147483647)
def X44(rec16:Ci)(x26 v20:Int):Aq:=
 (X78 x26).bind fun u31=>rec16 (Int.tmod (w64 ((w64 ((w64 (v20*1000003))+u31))+1)) 2147483647)
def X1u:Ab→Ci
 | [],v20=>some v20
 |x26::xs,v20=>X44 (X1u xs) x26 v20
def X9h(x0:Ab):Aq:=
 X1u x0 2
def X3e(rec74:Du)(x92 v78:Ab):Ao:=
 (X9h x92).bind fun u10=>(lapp v78 ([u10]:List Int)).bind fun u12=>rec74 u12
def X1a:Ah→Du
 | [],v78=>some (v78,0)
 |x92::xs,v78=>X3e (X1a xs) x92 v78
def X7r(x0:Ak):Ao:=
 (X2z x0).bind fun u2=>if(u2≠0) then(none) else
 X1a x0.2.2.2 ([]:List Int)
def X62(rec21:Aq)(x30:Int):Aq:=
 if((x30<0)∨(2147483647≤x30)) then(none) else
 rec21
def X31:Ab→Aq
 | []=>some 0
 |x30::xs=>X62 (X31 xs) x30
def Xat(x0:Ab):Aq:=
 if(1024<(x0.length:Int)) then(none) else
 X31 x0
def X9i(x0 x1:Int):Aq:=
 (X78 x0).bind fun u1=>(X78 x1).bind fun u5=>some (Int.tmod (w64 ((w64 ((w64 (u1*1000003))+u5))+3)) 2147483647)
def X8l(z10:Ab)(rec13:Ab→Int→Cl)(v14:Ab)(v15:Int):Cl:=
 if(v15<(z10.length:Int)) then(if((w64 (v15+1))<(z10.length:Int)) then((lidx z10 v15).bind fun u16=>(lidx z10 (w64 (v15+1))).bind fun u17=>(X9i u16 u17).bind fun u18=>(lapp v14 ([u18]:List Int)).bind fun u19=>rec13 u19 (w64 (v15+2))) else
(lidx z10 v15).bind fun u20=>(lapp v14 ([u20]:List Int)).bind fun u21=>rec13 u21 (w64 (v15+2))) else
 some v14
def X5c(z10:Ab):Nat→Ab→Int→Cl
 |0,_,_=>none
 |n+1,v11,v13=>X8l z10 (X5c z10 n) v11 v13
def Xcf(x0:Ab):Cl:=
 X5c x0 big ([]:List Int) 0
def X1v(v62:Ab):Ce:=
 (lidx v62 0).bind fun u68=>some (u68,0)
def X7s(kx66 rec91:Ab→Ce)(v96:Ab):Ce:=
 if(1<(v96.length:Int)) then((Xcf v96).bind fun u10=>rec91 u10) else
 kx66 v96
def X4n(kx66:Ab→Ce):Nat→Ab→Ce
 |0,_=>none
 |n+1,v96=>X7s kx66 (X4n kx66 n) v96
def Xau(x0:Ab):Ce:=
 (Xat x0).bind fun u1=>if(u1≠0) then(none) else
 if((x0.length:Int)=0) then(none) else
 X4n X1v big x0
def X2r(x0:Ak):Option (Ai×Int):=
 (X7r x0).bind fun u3=>if(u3.2≠0) then(none) else
(Xau u3.1).bind fun u20=>some ((x0.1,x0.2.1,(x0.2.2.2.length:Int),x0.2.2.1,u20.1),0)
def X63(z28:Int)(z35:Bc)(rec25:Aq):Aq:=
 if(0<(z35.length:Int)) then((lidx z35 0).bind fun u41=>if(u41.1.1=z28) then(some 0) else
 none) else
 some (-1)
def X4o(z28:Int)(z35:Bc):Nat→Aq
 |0=>none
 |n+1=>X63 z28 z35 (X4o z28 z35 n)
def X5k(x0:Ac)(x1:Int):Aq:=
 X4o x1 x0.2.2.2.1 big
def X1w(x0:Ay):Option Bz:=
 some x0.2
def X6q(x0:Int)(x1:Bz):Aq:=
 (X1m x0).bind fun u3=>if(u3≠0) then(none) else
 if((((((((x1.1<2)∨(10<x1.1))∨(x0≤x1.1))∨(x1.2.1<1))∨(x1.1<x1.2.1))∨(x1.2.2<1))∨(x1.1<x1.2.2))∨(x1.1<(w64 ((w64 ((w64 (2*x1.2.2))+x1.2.1))-1)))) then(none) else
 some 0
def X79(x0:Bz)(x1:Int):Ce:=
 if(((x0.2.2<1)∨(x1<0))∨(1024<x1)) then(none) else
(nz x0.2.2).bind fun _=>(nz x0.2.2).bind fun _=>if(0<(Int.tmod x1 x0.2.2)) then(some ((w64 ((w64 (Int.tdiv x1 x0.2.2))+1)),0)) else
 some ((w64 (Int.tdiv x1 x0.2.2)),0)
def X5l(rec33:Ec)(z53 z54 z55 v50:Int):Aq:=
 (nz z55).bind fun _=>rec33 (Int.tmod (w64 (z53*z53)) z55) (z54/2) v50
def X91(z39:Int)(rec33:Ec)(v34 v35 v36:Int):Aq:=
 if(0<v35) then(if((andI .i64 v35 1)=1) then((nz z39).bind fun _=>(X5l rec33 v34 v35 z39) (Int.tmod (w64 (v36*v34)) z39)) else
(X5l rec33 v34 v35 z39) v36) else
 some v36
def X2u(z39:Int):Nat→Ec
 |0,_,_,_=>none
 |n+1,v34,v35,v36=>X91 z39 (X2u z39 n) v34 v35 v36
def Xai(x0 x1 x2:Int):Aq:=
 (nz x0).bind fun _=>X2u x0 big x1 x2 (Int.tmod 1 x0)
def Xp(rec10:Dm)(z11:Int)(z12:Ah)(v13:Ab)(v14 v15 v16 v17:Int):Bk:=
 (lapp z12 ([v13]:List (List Int))).bind fun u19=>rec10 u19 (w64 (z11+1)) v14 v15 v16 v17
def X64(rec10:Dc)(z11 z12 z13 z14 z15 z16:Int)(rec17:Ab→Bk)(x19:Int)(i17:Nat)(v20:Ab):Bk:=
 (lidx v20 (i17:Int)).bind fun u21=>(nz z16).bind fun _=>(lidx v20 (i17:Int)).bind fun u22=>(lupd v20 (i17:Int) (Int.tmod (w64 (u21+(w64 (z12*x19)))) z16)).bind fun u23=>rec17 u23
def X1x(rec10:Dc)(z11 z12 z13 z14 z15 z16:Int):Ab→Nat→Ab→Bk
 | [],i17,v19=>rec10 (w64 (z11+1)) v19 z13 z14 z15 z16
 |x20::xs,i17,v19=>X64 rec10 z11 z12 z13 z14 z15 z16 (X1x rec10 z11 z12 z13 z14 z15 z16 xs (i17+1)) x20 i17 v19
def X65(kx10:Ab→At)(z11:Int)(z12:Ah)(z13:Int)(rec14:Dc)(v15:Int)(v16:Ab)(v17 v19 v20 v21:Int):Bk:=
 if((v15<v20)∧((w64 ((w64 (z11*v20))+v15))<(z12.length:Int))) then((Xai v21 z13 v15).bind fun u22=>(lidx z12 (w64 ((w64 (z11*v20))+v15))).bind fun u23=>X1x rec14 v15 u22 v17 v19 v20 v21 u23 0 v16) else
 kx10 v16 v17 v19 v20 v21
def Xq(kx10:Ab→At)(z11:Int)(z12:Ah)(z13:Int):Nat→Dc
 |0,_,_,_,_,_,_=>none
 |n+1,v14,v15,v16,v17,v19,v20=>X65 kx10 z11 z12 z13 (Xq kx10 z11 z12 z13 n) v14 v15 v16 v17 v19 v20
def X66(z10:Int)(z11:Ah)(z12 z13:Int)(rec14:Dm)(v15:Ah)(v16 v17 v19 v20 v21:Int):Bk:=
 if(v16<z13) then((lmk z10 0).bind fun u22=>Xq (Xp rec14 v16 v15) v16 z11 z12 big 0 u22 v17 v19 v20 v21) else
 some (v15,0)
def Xg(z10:Int)(z11:Ah)(z12 z13:Int):Nat→Dm
 |0,_,_,_,_,_,_=>none
 |n+1,v14,v15,v16,v17,v19,v20=>X66 z10 z11 z12 z13 (Xg z10 z11 z12 z13 n) v14 v15 v16 v17 v19 v20
def X32(z94:Int)(z95:Ah)(z96 v88 v89 v90 v91:Int):Bk:=
 (X79 (v88,v89,v90) (z95.length:Int)).bind fun u97=>Xg z94 z95 z96 u97.1 big ([]:List (List Int)) 0 v88 v89 v90 v91
def X67(kx92:At)(z10 z11 z12 z13 z14:Int)(rec15:Bk)(x16:Ab):Bk:=
 if((x16.length:Int)≠z10) then(none) else
(X4l z14 x16).bind fun u17=>if((!u17)=true) then(none) else
 rec15
def X33(kx92:At)(z10 z11 z12 z13 z14:Int):Ah→Bk
 | []=>kx92 z11 z12 z13 z14
 |x15::xs=>X67 kx92 z10 z11 z12 z13 z14 (X33 kx92 z10 z11 z12 z13 z14 xs) x15
def X9j(x0:Int)(x1:Bz)(x2:Int)(x3:Ah)(x4:Int):Bk:=
 (X6q x0 x1).bind fun u3=>if(u3≠0) then(none) else
 if((x4<1)∨(x1.1<x4)) then(none) else
 if(((x2<0)∨(64<x2))∨(1024<(x3.length:Int))) then(none) else
 X33 (X32 x2 x3 x4) x2 x1.1 x1.2.1 x1.2.2 x0 x3
def X68(z10:Ah)(rec11:Ah→Ed)(v12:Ah)(v13:Int):Bk:=
 if(v13<(z10.length:Int)) then((lidx z10 v13).bind fun u14=>(lapp ([]:List Int) u14).bind fun u15=>(lapp v12 ([u15]:List (List Int))).bind fun u16=>rec11 u16 (w64 (v13+1))) else
 some (v12,0)
def X34(z10:Ah):Nat→Ah→Ed
 |0,_,_=>none
 |n+1,v11,v12=>X68 z10 (X34 z10 n) v11 v12
def X5m(x0:Ay)(x1:Ak)(x2:Int):Bk:=
 (X2z x1).bind fun u3=>if(u3≠0) then(none) else
(X19 x0 x1.2.1).bind fun u10=>if((!u10)=true) then(none) else
 if((x2<1)∨(x0.2.1<x2)) then(none) else
 if(x0.1=3) then((X1w x0).bind fun u26=>(X9j x1.2.1 u26 x1.2.2.1 x1.2.2.2 x2).bind fun u30=>some (u30.1,u30.2)) else
 X34 x1.2.2.2 big ([]:List (List Int)) 0
def X7t(z10 z11 z12 z13 z14 z15:Int)(z16:Bool)(z17:Bc)(z18:Ar)(v19:Bc):Bf:=
 (lsub z17 z10 (z17.length:Int)).bind fun u20=>(lapp v19 u20).bind fun u21=>some ((z11,(z12,z13,z14,z15),z16,u21,z18),0)
def X35(z10:Bc)(z11:Ar)(z12:Ah)(v13 v14 v15 v16 v17 v18 v19 v20 v21 v22 v23:Int)(v24:Bool)(v25 v26 v27 v28 v29 v31 v32 v33:Int)(v34:Bool):Bf:=
 (lsub z10 0 v13).bind fun u35=>(lapp ([]:List ((Int×Int×Int×Int×Int)×(List (List Int)))) u35).bind fun u36=>(lapp u36 ([((v14,v15,v16,v17,v18),z12)]:List ((Int×Int×Int×Int×Int)×(List (List Int))))).bind fun u37=>(X7t v13 v28 v29 v31 v32 v33 v34 z10 z11) u37
def X7u(kx10:Bs)(z11 z12 z13 z14 z15 z16 z17 z18 z19 z20 z21 z22 z23:Int)(z24:Bool)(z25:Bc)(rec26:Bf):Bf:=
 (if(0<(z25.length:Int)) then((lidx z25 0).bind fun u27=>some (decide (u27.1.1<z16))) else some false).bind fun u28=>if(u28=true) then(none) else
 kx10 0 z11 z12 z13 z14 z15 0 0 0 0 0 false z16 z17 z18 z19 z20 z21 z22 z23 z24
def X69(kx10:Bs)(z11 z12 z13 z14 z15 z16 z17 z18 z19 z20 z21 z22 z23:Int)(z24:Bool)(z25:Bc):Nat→Bf
 |0=>none
 |n+1=>X7u kx10 z11 z12 z13 z14 z15 z16 z17 z18 z19 z20 z21 z22 z23 z24 z25 (X69 kx10 z11 z12 z13 z14 z15 z16 z17 z18 z19 z20 z21 z22 z23 z24 z25 n)
def X9k(x0:Ac)(x1:Ak):Bf:=
 if((!x0.2.2.1)=true) then(none) else
(X2r x1).bind fun u7=>if(u7.2≠0) then(none) else
(X19 x0.2.1 x1.2.1).bind fun u15=>if((!u15)=true) then(none) else
 if((x1.2.2.2.length:Int)=0) then(none) else
(X5k x0 x1.1).bind fun u25=>if(0≤u25) then(none) else
 if(16≤(x0.2.2.2.1.length:Int)) then(none) else
(X5m x0.2.1 x1 x0.1).bind fun u35=>X69 (X35 x0.2.2.2.1 x0.2.2.2.2 u35.1) u7.1.1 u7.1.2.1 u7.1.2.2.1 u7.1.2.2.2.1 u7.1.2.2.2.2 x1.1 x1.2.1 x1.2.2.1 x0.1 x0.2.1.1 x0.2.1.2.1 x0.2.1.2.2.1 x0.2.1.2.2.2 x0.2.2.1 x0.2.2.2.1 big
def X45(z10:Bp)(z11:Bj)(z12:An)(z13:Ab)(z14:An)(z15:Ab)(v16 v17 v18 v19:Int)(v20:Bq)(v21 v22 v23 v24 v25 v26 v27 v28 v29 v30 v31 v32 v33 v34 v35 v36 v37:Int):As:=
 some (((v16,v17,v18,v19),z14,z10,v20,([]:List (Int×Int×Int×Int×Int×(List Int)×(List Int)×Int)),([]:List (Int×(Int×Int×Int×Int)×(Int×Int×Int×Int×Int)×(List Int)×(List (List (List Int)))×(List (List (Bool×(List Int))))×(List (List Int))×Bool)),(v21,v22,z11),(z12,z13),z15,([]:List (Int×Int×(List (Int×(List Int)×(List Int)))×(List (Int×Int×Int×Int×Int×(List Int)×(List Int)×Int))))),0)
def X7a(kx10:Cs)(z11 z12 z13 z14 z15 z16 z17 z18 z19 z20 z21 z22 z23 z24 z25 z26 z27:Int)(z28:Ah)(z29 z31 z32 z33:Int)(z34:Ab)(rec35:Int→Bq→As)(v36:Int)(v37:Bq):As:=
 if(v36≤z31) then((Xah v36 (z29,z31,z32,z33)).bind fun u38=>(X9k u38.1 (z25,z26,z27,z28)).bind fun u39=>(lapp v37 ([u39.1]:List (Int×(Int×Int×Int×Int)×Bool×(List ((Int×Int×Int×Int×Int)×(List (List Int))))×(List (Int×Int×Int×(List Int)×(List Int)))))).bind fun u41=>if((z34.length:Int)<v36) then(none) else
 rec35 (w64 (v36+1)) u41) else
 kx10 z11 z12 z13 z14 v37 z15 z16 z17 z18 z19 z20 z21 z22 z23 z24 z25 z26 z27 z29 z31 z32 z33
def X46(kx10:Cs)(z11 z12 z13 z14 z15 z16 z17 z18 z19 z20 z21 z22 z23 z24 z25 z26 z27:Int)(z28:Ah)(z29 z30 z31 z32:Int)(z33:Ab):Nat→Int→Bq→As
 |0,_,_=>none
 |n+1,v34,v35=>X7a kx10 z11 z12 z13 z14 z15 z16 z17 z18 z19 z20 z21 z22 z23 z24 z25 z26 z27 z28 z29 z30 z31 z32 z33 (X46 kx10 z11 z12 z13 z14 z15 z16 z17 z18 z19 z20 z21 z22 z23 z24 z25 z26 z27 z28 z29 z30 z31 z32 z33 n) v34 v35
def X92(z10 z11 z12 z13 z14 z15 z16 z17 z18 z19 z20:Int)(z21:Ah)(z22 z23 z24 z25 v26 v27 v28 v29:Int)(v30:An)(v31 v32:Int)(v33:Bj)(v34:Ab):As:=
 (Xbk (z18,z19,z20,z21)).bind fun u35=>(Xbl z18).bind fun u36=>X46 (X45 u35.1 v33 u36.1.1 u36.1.2 v30 v34) v26 v27 v28 v29 v31 v32 z10 z11 z12 z13 z14 z15 z16 z17 z18 z19 z20 z21 z22 z23 z24 z25 v34 big 1 ([]:List (Int×(Int×Int×Int×Int)×Bool×(List ((Int×Int×Int×Int×Int)×(List (List Int))))×(List (Int×Int×Int×(List Int)×(List Int)))))
def X2v(z10:An)(z11:Int)(z12:Ab)(z13:Ah)(v14 v15 v16 v17 v18 v19 v20 v21 v22 v23 v24 v25 v26:Int):As:=
 (Xbj z11).bind fun u27=>if(u27.2≠0) then(none) else
(lapp ([]:List (Int×Int)) z10).bind fun u28=>(lapp ([]:List Int) z12).bind fun u29=>(X92 u27.1.1 u27.1.2.1 v14 v15 v16 v17 v18 v19 v20 v21 v22 z13 v23 v24 v25 v26) v23 v24 v25 v26 u28 u27.1.1 u27.1.2.1 u27.1.2.2 u29
def X7b(kx10:Am)(z11:Ab)(z12 z13 z14 z15 z16 z17 z18 z19 z20 z21 z22 z23 z24:Int)(rec25:Cw)(v26:Int):As:=
 if(v26<(z11.length:Int)) then((lidx z11 v26).bind fun u27=>(if(u27<0) then(some true) else(lidx z11 v26).bind fun u28=>some (decide (z19≤u28))).bind fun u29=>if(u29=true) then(none) else
 rec25 (w64 (v26+1))) else
 kx10 z12 z13 z14 z15 z16 z17 z18 z19 z20 z21 z22 z23 z24
def X47(kx10:Am)(z11:Ab)(z12 z13 z14 z15 z16 z17 z18 z19 z20 z21 z22 z23 z24:Int):Nat→Cw
 |0,_=>none
 |n+1,v25=>X7b kx10 z11 z12 z13 z14 z15 z16 z17 z18 z19 z20 z21 z22 z23 z24 (X47 kx10 z11 z12 z13 z14 z15 z16 z17 z18 z19 z20 z21 z22 z23 z24 n) v25
def X2w(z98:An)(z99:Int)(z10:Ab)(z11:Ah)(v83 v84 v85 v86 v87 v88 v89 v90 v91 v92 v93 v94 v95:Int):As:=
 if(v93<(z10.length:Int)) then(none) else
 X47 (X2v z98 z99 z10 z11) z10 v83 v84 v85 v86 v87 v88 v89 v90 v91 v92 v93 v94 v95 big 0
def X7c(kx96:Am)(z10:An)(z11 z12 z13 z14 z15 z16 z17:Int)(rec18:Cw)(v19:Int):As:=
 if(v19≤z15) then((X83 z10 v19).bind fun u20=>if((!u20.2)=true) then(none) else
 rec18 (w64 (v19+1))) else
 kx96 0 0 0 0 0 0 z11 z12 z13 z14 z15 z16 z17
def X48(kx96:Am)(z10:An)(z11 z12 z13 z14 z15 z16 z17:Int):Nat→Cw
 |0,_=>none
 |n+1,v18=>X7c kx96 z10 z11 z12 z13 z14 z15 z16 z17 (X48 kx96 z10 z11 z12 z13 z14 z15 z16 z17 n) v18
def Xaj(x0:Ay)(x1:An)(x2:Ak)(x3:Int)(x4:Ab):As:=
 (X8j x1).bind fun u4=>if(u4≠0) then(none) else
(X2z x2).bind fun u11=>if(u11≠0) then(none) else
(X19 x0 x2.2.1).bind fun u18=>if((!u18)=true) then(none) else
 if((x2.2.2.2.length:Int)=0) then(none) else
 X48 (X2w x1 x3 x4 x2.2.2.2) x1 x2.1 x2.2.1 x2.2.2.1 x0.1 x0.2.1 x0.2.2.1 x0.2.2.2 big 1
def X9e(rec38:An→Int→Dv)(v39:An)(v45:Int):Dv:=
 if(v45≤10) then((lapp v39 ([(v45,(w64 (1000+v45)))]:List (Int×Int))).bind fun u59=>rec38 u59 (w64 (v45+1))) else
 some v39
def X6x:Nat→An→Int→Dv
 |0,_,_=>none
 |n+1,v39,v45=>X9e (X6x n) v39 v45
def X5d:Dv:=
 X6x big ([]:List (Int×Int)) 1
def X3w(v10 v11 v12 v13:Int)(v14:An)(v15:Bp)(v16:Bq)(v17:Bg)(v18:Bx)(v19 v20:Int)(v21:Bj)(v22:An)(v23 v24:Ab)(v25:Aj)(v26:Ab)(v27:Int):Bt:=
 some (((v10,v11,v12,v13),v14,v15,v16,v17,v18,(v19,v20,v21),(v22,v23),v24,v25),(v26,v27))
def Xj(z10:Ah)(v11:Ab)(v12 v13 v14:Int)(v15:Ab)(v16 v17 v18 v19 v20 v21 v22 v23 v24 v25 v26:Int):Bt:=
 (X5d).bind fun u27=>(X4 (v15,v16) 250).bind fun u28=>(Xaj (v17,v18,v19,v20) u27 (v12,v13,v14,z10) (w64 (1+u28.1)) v11).bind fun u29=>X3w u29.1.1.1 u29.1.1.2.1 u29.1.1.2.2.1 u29.1.1.2.2.2 u29.1.2.1 u29.1.2.2.1 u29.1.2.2.2.1 u29.1.2.2.2.2.1 u29.1.2.2.2.2.2.1 u29.1.2.2.2.2.2.2.1.1 u29.1.2.2.2.2.2.2.1.2.1 u29.1.2.2.2.2.2.2.1.2.2 u29.1.2.2.2.2.2.2.2.1.1 u29.1.2.2.2.2.2.2.2.1.2 u29.1.2.2.2.2.2.2.2.2.1 u29.1.2.2.2.2.2.2.2.2.2 u28.2.1 u28.2.2
def X18(rec10:Cp)(z11:Int)(z12:Ab)(v13 v14:Int)(v15:Ab)(v16:Int):Bt:=
 (lapp z12 ([v14]:List Int)).bind fun u17=>rec10 v13 u17 (w64 (z11+1)) v15 v16
def X1y(kx10:Cb)(z11 z12 z13 z14 z15 z16 z17:Int)(rec18:Cp)(v19:Int)(v20:Ab)(v21:Int)(v22:Ab)(v23:Int):Bt:=
 if(v21<z15) then((if(0<v19) then((X4 (v22,v23) 3).bind fun u24=>some ((decide (u24.1=0)),u24.2.1,u24.2.2)) else some (false,v22,v23)).bind fun u25=>if(u25.1=true) then((X4 u25.2 (w64 (z12-1))).bind fun u26=>(X18 rec18 v21 v20) (w64 (v19-1)) (w64 (1+u26.1)) u26.2.1 u26.2.2) else
(X18 rec18 v21 v20) v19 0 u25.2.1 u25.2.2) else
 kx10 v20 z11 z12 z13 v22 v23 z14 z15 z16 z17 0 0 0 0 0 0
def Xk(kx10:Cb)(z11 z12 z13 z14 z15 z16 z17:Int):Nat→Cp
 |0,_,_,_,_,_=>none
 |n+1,v18,v19,v20,v21,v22=>X1y kx10 z11 z12 z13 z14 z15 z16 z17 (Xk kx10 z11 z12 z13 z14 z15 z16 z17 n) v18 v19 v20 v21 v22
def X49(x0:Ag)(x1:Int):Bt:=
 (X3d x0).bind fun u2=>(X41 u2.2).bind fun u10=>(X42 u10.2 u10.1).bind fun u17=>Xk (Xj u17.1.2.2.2) u17.1.1 u17.1.2.1 u17.1.2.2.1 u2.1.1 u2.1.2.1 u2.1.2.2.1 u2.1.2.2.2 big x1 ([]:List Int) 0 u17.2.1 u17.2.2
def X26(z10:Bp):Au:=
 some (decide ((1≤(z10.length:Int))∧((z10.length:Int)≤16)))
def X4u(kx10:Au)(z11:Bp)(rec12:Cr)(v13:Int):Au:=
 if(v13<(z11.length:Int)) then((lidx z11 v13).bind fun u15=>(X2z u15).bind fun u16=>(if(u16≠0) then(some true) else(lidx z11 0).bind fun u17=>some (decide (u15.2.1≠u17.2.1))).bind fun u18=>(if(u18=true) then(some true) else(lidx z11 0).bind fun u19=>some (decide (u15.2.2.1≠u19.2.2.1))).bind fun u20=>(if(u20=true) then(some true) else(if(0<v13) then((lidx z11 (w64 (v13-1))).bind fun u21=>some (decide (u15.1≤u21.1))) else some false).bind fun u22=>some u22).bind fun u23=>if(u23=true) then(none) else
 rec12 (w64 (v13+1))) else
 kx10
def X3r(kx10:Au)(z11:Bp):Dq
 |0,_=>none
 |n+1,v12=>X4u kx10 z11 (X3r kx10 z11 n) v12
def Xa0(x0:Bp):Au:=
 X3r (X26 x0) x0 big 0
def X5n(x0:Bp):Option (Ak×Int):=
 (Xa0 x0).bind fun u3=>if((!u3)=true) then(none) else
(lidx x0 (w64 ((x0.length:Int)-1))).bind fun u10=>some (u10,0)
def X2s(z76:Int)(rec61:Bw)(v62:Ab)(v68:Int)(v69:Ab)(v73:Int):Cu:=
 if(0<v68) then((X4 (v69,v73) (w64 (z76+1))).bind fun u81=>(lapp v62 ([(w64 (u81.1-1))]:List Int)).bind fun u95=>rec61 u95 (w64 (v68-1)) u81.2.1 u81.2.2) else
 some (v62,(v69,v73))
def Xz(z76:Int):Nat→Bw
 |0,_,_,_,_=>none
 |n+1,v62,v68,v69,v73=>X2s z76 (Xz z76 n) v62 v68 v69 v73
def X4v(x0:Ag)(x1:Int):Cu:=
 (X4 x0 3).bind fun u1=>Xz x1 big ([]:List Int) (w64 (1+u1.1)) u1.2.1 u1.2.2
def X84(x0:Aa):Option Aa:=
 (lapp ([]:List (Int×(Int×Int×Int×Int)×Bool×(List ((Int×Int×Int×Int×Int)×(List (List Int))))×(List (Int×Int×Int×(List Int)×(List Int))))) x0.2.2.2.1).bind fun u10=>(lapp ([]:List (Int×(Int×Int×Int×Int)×(Int×Int×Int×Int×Int)×(List Int)×(List (List (List Int)))×(List (List (Bool×(List Int))))×(List (List Int))×Bool)) x0.2.2.2.2.2.1).bind fun u20=>(lapp ([]:List (Int×Int×(List (Int×(List Int)×(List Int)))×(List (Int×Int×Int×Int×Int×(List Int)×(List Int)×Int)))) x0.2.2.2.2.2.2.2.2.2).bind fun u30=>some ((x0.1.1,x0.1.2.1,x0.1.2.2.1,x0.1.2.2.2),x0.2.1,x0.2.2.1,u10,x0.2.2.2.2.1,u20,(x0.2.2.2.2.2.2.1.1,x0.2.2.2.2.2.2.1.2.1,x0.2.2.2.2.2.2.1.2.2),(x0.2.2.2.2.2.2.2.1.1,x0.2.2.2.2.2.2.2.1.2),x0.2.2.2.2.2.2.2.2.1,u30)
def X8m(z73 z74:Int)(rec63:Bh)(v64:Ab)(v70:Int):Ao:=
 if(v70<z73) then((lapp v64 ([z74]:List Int)).bind fun u86=>rec63 u86 (w64 (v70+1))) else
 some (v64,0)
def X4a(z73 z74:Int):Co
 |0,_,_=>none
 |n+1,v64,v70=>X8m z73 z74 (X4a z73 z74 n) v64 v70
def X5o(x0 x1 x2:Int):Ao:=
 (X1m x0).bind fun u2=>if(u2≠0) then(none) else
 if((((x2<2)∨(10<x2))∨(x1<1))∨(1024<x1)) then(none) else
 X4a (w64 (x1*(w64 (x2-1)))) x0 big ([]:List Int) 0
def X8n(x0:Int)(x1:Af):Aq:=
 (X1m x0).bind fun u3=>if(u3≠0) then(none) else
 if(((((x1.1<2)∨(10<x1.1))∨(x0≤x1.1))∨(x1.2<1))∨((w64 (x1.1-1))<x1.2)) then(none) else
 some 0
def X8o(z70 z73:Int)(rec60:Bh)(v61:Ab)(v67:Int):Ao:=
 if(v67<z70) then((lapp v61 ([z73]:List Int)).bind fun u85=>rec60 u85 (w64 (v67+1))) else
 some (v61,0)
def X4b(z70 z73:Int):Co
 |0,_,_=>none
 |n+1,v61,v67=>X8o z70 z73 (X4b z70 z73 n) v61 v67
def X5p(x0:Int)(x1:Af)(x2:Int):Ao:=
 (X8n x0 x1).bind fun u3=>if(u3≠0) then(none) else
 if((x2<1)∨(1024<x2)) then(none) else
 X4b (w64 (x2*x1.2)) x0 big ([]:List Int) 0
def X85(x0:Ay):Ce:=
 some (x0.2.1,x0.2.2.1)
def X8p(z72 z76:Int)(rec62:Bh)(v63:Ab)(v69:Int):Ao:=
 if(v69<z72) then((lapp v63 ([z76]:List Int)).bind fun u88=>rec62 u88 (w64 (v69+1))) else
 some (v63,0)
def X4c(z72 z76:Int):Co
 |0,_,_=>none
 |n+1,v63,v69=>X8p z72 z76 (X4c z72 z76 n) v63 v69
def X5q(x0:Int)(x1:Bz)(x2:Int):Ao:=
 (X6q x0 x1).bind fun u3=>if(u3≠0) then(none) else
 if((x2<1)∨(1024<x2)) then(none) else
 X4c (w64 (x2*x1.2.1)) x0 big ([]:List Int) 0
def X6r(x0:Ay)(x1:Int):Aq:=
 (X30 x0).bind fun u2=>if((((!u2)=true)∨(x1<1))∨(1024<x1)) then(none) else
 if(x0.1=3) then((nz x0.2.2.2).bind fun _=>some (w64 (Int.tdiv (w64 ((w64 (x1+x0.2.2.2))-1)) x0.2.2.2))) else
 none
def X7d(x0:Ay)(x1 x2:Int):Ao:=
 (X19 x0 x1).bind fun u3=>if((!u3)=true) then(none) else
 if((x2<1)∨(1024<x2)) then(none) else
 if(x0.1=1) then((X5o x1 x2 x0.2.1).bind fun u19=>some (u19.1,u19.2)) else
 if(x0.1=2) then((X85 x0).bind fun u31=>(X5p x1 u31 x2).bind fun u35=>some (u35.1,u35.2)) else
(X1w x0).bind fun u45=>(X6r x0 x2).bind fun u49=>(X5q x1 u45 u49).bind fun u53=>some (u53.1,u53.2)
def X4d(z10 z11 z12 z13 z14 z15 z16:Int)(rec90:Bh)(v91:Ab)(v97:Int):Ao:=
 if(v97<z11) then((X7d (z13,z14,z15,z16) z12 z10).bind fun u17=>if(u17.2≠0) then(none) else
(lapp v91 u17.1).bind fun u18=>rec90 u18 (w64 (v97+1))) else
 some (v91,0)
def X1n(z10 z11 z12 z13 z14 z15 z16:Int):Co
 |0,_,_=>none
 |n+1,v91,v97=>X4d z10 z11 z12 z13 z14 z15 z16 (X1n z10 z11 z12 z13 z14 z15 z16 n) v91 v97
def X7e(x0:Ay)(x1 x2 x3:Int):Ao:=
 (X19 x0 x1).bind fun u3=>if((!u3)=true) then(none) else
 if((((x3<1)∨(16<x3))∨(x2<1))∨(1024<x2)) then(none) else
 X1n x2 x3 x1 x0.1 x0.2.1 x0.2.2.1 x0.2.2.2 big ([]:List Int) 0
def X4w(z53:Ab)(z54:Int)(rec49:Cr)(v50:Int):Au:=
 if(v50<(z53.length:Int)) then((lidx z53 v50).bind fun u59=>(if(u59<(-1)) then(some true) else(lidx z53 v50).bind fun u81=>some (decide (z54≤u81))).bind fun u71=>if(u71=true) then(none) else
 rec49 (w64 (v50+1))) else
 some true
def X27(z53:Ab)(z54:Int):Dq
 |0,_=>none
 |n+1,v50=>X4w z53 z54 (X27 z53 z54 n) v50
def X5e(x0:Ab)(x1:Int):Au:=
 if(((((x0.length:Int)<1)∨(16<(x0.length:Int)))∨(x1<1))∨(1024<x1)) then(none) else
 X27 x0 x1 big 0
def X6y(z10:An)(rec11:Au):Au:=
 if(0<(z10.length:Int)) then(none) else
 some true
def X4x(z10:An):Nat→Au
 |0=>none
 |n+1=>X6y z10 (X4x z10 n)
def X28(z10:An):Au:=
 X4x z10 big
def X4y(kx10:Au)(z11:Ab)(rec12:Cr)(v13:Int):Au:=
 if(v13<(z11.length:Int)) then((lidx z11 v13).bind fun u14=>(if(u14<1) then(some true) else(lidx z11 v13).bind fun u15=>some (decide (2147483646<u15))).bind fun u16=>(if(u16=true) then(some true) else(if(0<v13) then((lidx z11 (w64 (v13-1))).bind fun u17=>(lidx z11 v13).bind fun u18=>some (decide (u18≤u17))) else some false).bind fun u19=>some u19).bind fun u20=>if(u20=true) then(none) else
 rec12 (w64 (v13+1))) else
 kx10
def X3s(kx10:Au)(z11:Ab):Dq
 |0,_=>none
 |n+1,v12=>X4y kx10 z11 (X3s kx10 z11 n) v12
def Xa1(x0:Df):Au:=
 if((((x0.2.length:Int)<1)∨(16<(x0.2.length:Int)))∨(64<(x0.1.length:Int))) then(none) else
 X3s (X28 x0.1) x0.2 big 0
def X36(z71:Int)(z72:An)(z73:Ab)(v68:Int):Bu:=
 (if(v68<(z72.length:Int)) then((lidx z72 v68).bind fun u10=>some (decide (u10.1=z71))) else some false).bind fun u81=>if(u81=true) then(none) else
 if(64≤(z72.length:Int)) then(none) else
(lidx z73 (w64 ((z73.length:Int)-1))).bind fun u92=>(lsub z72 0 v68).bind fun u97=>(lapp ([]:List (Int×Int)) u97).bind fun u11=>(lapp u11 ([(z71,u92)]:List (Int×Int))).bind fun u12=>(lsub z72 v68 (z72.length:Int)).bind fun u13=>(lapp u12 u13).bind fun u14=>some ((u14,z73),u92,0)
def X7v(kx69:Int→Bu)(z10:Int)(z11:An)(rec12:Bu):Bu:=
 (if(0<(z11.length:Int)) then((lidx z11 0).bind fun u13=>some (decide (u13.1<z10))) else some false).bind fun u14=>if(u14=true) then(none) else
 kx69 0
def X6a(kx69:Int→Bu)(z10:Int)(z11:An):Nat→Bu
 |0=>none
 |n+1=>X7v kx69 z10 z11 (X6a kx69 z10 z11 n)
def X9l(x0:Df)(x1:Int):Bu:=
 (Xa1 x0).bind fun u3=>if((!u3)=true) then(none) else
 if(x1<0) then(none) else
 X6a (X36 x1 x0.1 x0.2) x1 x0.1 big
def X6z(z34:Bj)(rec29:Au):Au:=
 if(0<(z34.length:Int)) then(none) else
 some true
def X4z(z34:Bj):Nat→Au
 |0=>none
 |n+1=>X6z z34 (X4z z34 n)
def Xa2(x0:Cm):Au:=
 if(((((x0.1<1)∨(2147483646<x0.1))∨(x0.2.1<0))∨(16384<x0.2.1))∨(64<(x0.2.2.length:Int))) then(none) else
 X4z x0.2.2 big
def X1o(v10:Ab)(v11 v12:Int):Cf:=
 some ((v10,v11),0)
def X4e(kx10:Ab→Int→Dr)(z11:Int)(rec12:Int→Ab→Cf)(x13 v14:Int)(v15:Ab):Cf:=
 (nz x13).bind fun _=>(lapp v15 ([(Int.tmod (Int.tmod (w64 (v14*48271)) 2147483647) x13)]:List Int)).bind fun u16=>rec12 (Int.tmod (w64 (v14*48271)) 2147483647) u16
def X1p(kx10:Ab→Int→Dr)(z11:Int):Ab→Int→Ab→Cf
 | [],v12,v13=>kx10 v13 0 z11
 |x14::xs,v12,v13=>X4e kx10 z11 (X1p kx10 z11 xs) x14 v12 v13
def X1q(z55:Int)(z56:Ab)(v52:Int):Cf:=
 X1p X1o v52 z56 z55 ([]:List Int)
def X4f(kx53:Dr)(rec10:Cf)(x11:Int):Cf:=
 if((x11<1)∨(2147483647<x11)) then(none) else
 rec10
def X1r(kx53:Dr):Ab→Cf
 | []=>kx53 0
 |x10::xs=>X4f kx53 (X1r kx53 xs) x10
def X7f(x0:Int)(x1:Ab):Cf:=
 if((x0<1)∨(2147483647≤x0)) then(none) else
 if(16384<(x1.length:Int)) then(none) else
 X1r (X1q x0 x1) x1
def X7w(v10:Ab):Ao:=
 some (v10,0)
def X1z(z10:Int)(v11:Ab)(v12 v13 v14 v15 v16 v17:Int):Ao:=
 (X7f z10 v11).bind fun u18=>if(v16≤(u18.1.1.length:Int)) then((lsub u18.1.1 v16 (u18.1.1.length:Int)).bind fun u19=>(lapp ([]:List Int) u19).bind fun u20=>X7w u20) else
 none
def X6b(kx10:Ab→Bv)(z11 z12 z13 z14 z15 z16:Int)(rec17:Bh)(v18:Ab)(v19:Int):Ao:=
 if(v19<z16) then((lapp v18 ([z14]:List Int)).bind fun u20=>rec17 u20 (w64 (v19+1))) else
 kx10 v18 z11 z12 z13 z14 z15 z16
def X37(kx10:Ab→Bv)(z11 z12 z13 z14 z15 z16:Int):Co
 |0,_,_=>none
 |n+1,v17,v18=>X6b kx10 z11 z12 z13 z14 z15 z16 (X37 kx10 z11 z12 z13 z14 z15 z16 n) v17 v18
def X38(z37 v29 v30 v31 v32 v33 v34:Int):Ao:=
 X37 (X1z z37) v29 v30 v31 v32 v33 v34 big ([]:List Int) 0
def X7x(kx35:Bv)(z10 z11 z12 z13 z14:Int)(rec15:Ao):Ao:=
 if(0<z13) then(none) else
 kx35 0 z10 z11 z12 z13 z14
def X6c(kx35:Bv)(z10 z11 z12 z13 z14:Int):Nat→Ao
 |0=>none
 |n+1=>X7x kx35 z10 z11 z12 z13 z14 (X6c kx35 z10 z11 z12 z13 z14 n)
def X9m(x0:Int)(x1:Ai):Ao:=
 X6c (X38 x0) x1.1 x1.2.1 x1.2.2.1 x1.2.2.2.1 x1.2.2.2.2 big
def X70(z10 z11 z12 z13 z14 z15 z16:Int)(z17 v18:Bj):Bo:=
 (lsub z17 z10 (z17.length:Int)).bind fun u19=>(lapp v18 u19).bind fun u20=>(X9m z16 (z12,z13,z14,z15,z11)).bind fun u21=>some ((z16,(w64 (z15+z11)),u20),u21,0)
def X29(z10 z11 z12 z13:Int)(z14:Bj)(v98 v99 v15 v16 v17 v18:Int):Bo:=
 (if(v98<(z14.length:Int)) then((lidx z14 v98).bind fun u19=>some (decide (u19.1=z10))) else some false).bind fun u20=>if(u20=true) then(none) else
 if((64≤(z14.length:Int))∨((w64 (16384-v18))<z13)) then(none) else
(lsub z14 0 v98).bind fun u21=>(lapp ([]:List (Int×Int×Int×Int×Int)) u21).bind fun u22=>(lapp u22 ([(z10,z11,z12,v18,z13)]:List (Int×Int×Int×Int×Int))).bind fun u23=>(X70 v98 z13 z10 z11 z12 v18 v17 z14) u23
def X71(kx10:De)(z11 z12 z13:Int)(z14:Bj)(rec15:Bo):Bo:=
 (if(0<(z14.length:Int)) then((lidx z14 0).bind fun u16=>some (decide (u16.1<z11))) else some false).bind fun u17=>if(u17=true) then(none) else
 kx10 0 0 0 0 z12 z13
def X50(kx10:De)(z11 z12 z13:Int)(z14:Bj):Nat→Bo
 |0=>none
 |n+1=>X71 kx10 z11 z12 z13 z14 (X50 kx10 z11 z12 z13 z14 n)
def X8q(x0:Cm)(x1 x2 x3 x4:Int):Bo:=
 (Xa2 x0).bind fun u4=>if((!u4)=true) then(none) else
 if((((((x1<0)∨(x2<1))∨(2147483646<x2))∨(x3<2))∨(65521<x3))∨(x4<0)) then(none) else
 X50 (X29 x1 x2 x3 x4 x0.2.2) x1 x0.1 x0.2.1 x0.2.2 big
def Xa3(x0:Ag):Au:=
 some (decide ((((x0.1.length:Int)≤16384)∧(0≤x0.2))∧(x0.2≤(x0.1.length:Int))))
def Xav(x0:Ag):Ao:=
 (lapp ([]:List Int) x0.1).bind fun u8=>some (u8,x0.2)
def X2a(z10 v11:Ab)(v12 v13:Int):Dd:=
 some ((z10,v13),v11,0)
def X51(kx10:Cc)(z11 z12:Int)(z13:Ab)(rec14:Cc)(v15:Ab)(v16 v17:Int):Dd:=
 if(v16<z12) then(if(v17=(z13.length:Int)) then(none) else
(lidx z13 v17).bind fun u18=>if((u18<0)∨(z11≤u18)) then(none) else
(lapp v15 ([u18]:List Int)).bind fun u19=>rec14 u19 (w64 (v16+1)) (w64 (v17+1))) else
 kx10 v15 0 v17
def X2b(kx10:Cc)(z11 z12:Int)(z13:Ab):Nat→Cc
 |0,_,_,_=>none
 |n+1,v14,v15,v16=>X51 kx10 z11 z12 z13 (X2b kx10 z11 z12 z13 n) v14 v15 v16
def X5f(x0:Ag)(x1 x2:Int):Dd:=
 (Xa3 x0).bind fun u3=>if((!u3)=true) then(none) else
 if(((x1<1)∨(2147483647<x1))∨(x2<0)) then(none) else
(Xav x0).bind fun u21=>X2b (X2a u21.1) x1 x2 u21.1 big ([]:List Int) 0 u21.2
def Xd(z10 v11:Ab)(v12:Ah)(v13 v14 v15:Int):Bb:=
 (lapp v12 ([v11]:List (List Int))).bind fun u17=>some (u17,(z10,v14),0)
def Xs(rec10:Dg)(z11:Int)(z12:Ab)(z13:Ah)(v14:Ab)(v15 v17 v18:Int):Bb:=
 (lapp z13 ([z12]:List (List Int))).bind fun u19=>rec10 u19 (w64 (z11+1)) v14 v15 v17 v18
def X3f(kx10:Ab→Al)(z11 z12 z13:Int)(rec14:Ab→Bb)(x15:Int)(i14:Nat)(v17:Ab):Bb:=
 (lidx v17 (i14:Int)).bind fun u18=>(nz z13).bind fun _=>(lidx v17 (i14:Int)).bind fun u19=>(lupd v17 (i14:Int) (Int.tmod (w64 ((w64 (u18+z13))-x15)) z13)).bind fun u20=>rec14 u20
def Xt(kx10:Ab→Al)(z11 z12 z13:Int):Ab→Nat→Ab→Bb
 | [],i14,v15=>kx10 v15 z11 z12 z13
 |x17::xs,i14,v15=>X3f kx10 z11 z12 z13 (Xt kx10 z11 z12 z13 xs (i14+1)) x17 i14 v15
def X3g(kx10:Ab→Ah→Al)(z11 z12:Int)(z13:Ab)(rec14:Dg)(v15:Ah)(v17:Int)(v18:Ab)(v19 v20 v21:Int):Bb:=
 if(v17<(w64 (z12-1))) then((lsub z13 (w64 (v17*z11)) (w64 ((w64 (v17+1))*z11))).bind fun u22=>(lapp ([]:List Int) u22).bind fun u23=>Xt (Xs rec14 v17 u23 v15) v19 v20 v21 u23 0 v18) else
 kx10 v18 v15 v19 v20 v21
def Xe(kx10:Ab→Ah→Al)(z11 z12:Int)(z13:Ab):Nat→Dg
 |0,_,_,_,_,_,_=>none
 |n+1,v14,v15,v17,v18,v19,v20=>X3g kx10 z11 z12 z13 (Xe kx10 z11 z12 z13 n) v14 v15 v17 v18 v19 v20
def X6d(x0 x1 x2 x3:Int)(x4:Ag):Bb:=
 (X5o x0 x1 x2).bind fun u4=>if(u4.2≠0) then(none) else
 if((x3<0)∨(x1≤x3)) then(none) else
(X5f x4 x0 (w64 (x1*(w64 (x2-1))))).bind fun u23=>if(u23.2.2≠0) then(none) else
(lmk x1 0).bind fun u42=>(lidx u42 x3).bind fun u48=>(lupd u42 x3 1).bind fun u53=>Xe (Xd u23.1.1) x1 x2 u23.2.1 big ([]:List (List Int)) 0 u53 0 u23.1.2 x0
def X52(rec76:Aq)(x86:Ab):Aq:=
 if(512<(x86.length:Int)) then(none) else
 rec76
def X2c:Ah→Aq
 | []=>some 0
 |x86::xs=>X52 (X2c xs) x86
def X2d(z58:Ah)(v55:Int):Aq:=
 X2c z58
def X53(kx56:Ci)(z10:Int)(rec11:Aq)(x12:Ab):Aq:=
 (X4l z10 x12).bind fun u13=>if((!u13)=true) then(none) else
 rec11
def X2e(kx56:Ci)(z10:Int):Ah→Aq
 | []=>kx56 z10
 |x11::xs=>X53 kx56 z10 (X2e kx56 z10 xs) x11
def X8r(x0:Int)(x1:Ah):Aq:=
 (X1m x0).bind fun u2=>if(u2≠0) then(none) else
 X2e (X2d x1) x0 x1
def X54(z22:Ab)(z23 z24:Int)(rec17:Di)(v18 v19:Int):Aq:=
 if(0≤v19) then((lidx z22 v19).bind fun u29=>(nz z24).bind fun _=>rec17 (Int.tmod (w64 ((w64 (v18*z23))+u29)) z24) (w64 (v19-1))) else
 some v18
def X2f(z22:Ab)(z23 z24:Int):Nat→Di
 |0,_,_=>none
 |n+1,v18,v19=>X54 z22 z23 z24 (X2f z22 z23 z24 n) v18 v19
def X8s(x0:Int)(x1:Ab)(x2:Int):Aq:=
 X2f x1 x2 x0 big 0 (w64 ((x1.length:Int)-1))
def X6s(x0:Int)(x1:Ab)(x2:Int):Ce:=
 (X4l x0 ([x2]:List Int)).bind fun u10=>if((!u10)=true) then(none) else
(X8r x0 ([x1]:List (List Int))).bind fun u25=>if(u25≠0) then(none) else
(X8s x0 x1 x2).bind fun u32=>some (u32,0)
def X2g(z10:Ab)(v11:An)(v12 v13 v14:Int):Cj:=
 some (v11,(z10,v13),0)
def X55(kx10:Dn)(z11:Int)(z12:Ab)(z13 z14:Int)(rec15:An→Ee)(v16:An)(v17:Int):Cj:=
 if(v17≤z11) then((X6s z14 z12 v17).bind fun u18=>(lapp v16 ([(v17,u18.1)]:List (Int×Int))).bind fun u19=>rec15 u19 (w64 (v17+1))) else
 kx10 v16 0 z13 z14
def X2h(kx10:Dn)(z11:Int)(z12:Ab)(z13 z14:Int):Nat→An→Ee
 |0,_,_=>none
 |n+1,v15,v16=>X55 kx10 z11 z12 z13 z14 (X2h kx10 z11 z12 z13 z14 n) v15 v16
def X8t(x0 x1 x2 x3:Int)(x4:Ag):Cj:=
 (X4l x0 ([x1]:List Int)).bind fun u12=>if((!u12)=true) then(none) else
 if(((((x2<0)∨(9<x2))∨(x3<1))∨((w64 (x0-1))<x3))∨(512<x3)) then(none) else
(X5f x4 x0 x2).bind fun u38=>if(u38.2.2≠0) then(none) else
(lapp ([x1]:List Int) u38.2.1).bind fun u64=>X2h (X2g u38.1.1) x3 u64 u38.1.2 x0 big ([]:List (Int×Int)) 1
def X9(v10:Ah)(v11:Int)(v12:Ab)(v13 v14 v15 v16:Int):Bb:=
 some (v10,(v12,v13),0)
def X3h(rec10:Dj)(z11:Int)(z12:Ab)(z13 z14 z15 z16 z18:Int)(rec19:Dw)(x20:Af)(i19:Nat)(v21:Ah):Bb:=
 (lidx v21 (i19:Int)).bind fun u22=>(lapp u22 ([x20.2]:List Int)).bind fun u23=>(lidx v21 (i19:Int)).bind fun u24=>(lupd v21 (i19:Int) u23).bind fun u25=>rec19 u25
def X1b(rec10:Dj)(z11:Int)(z12:Ab)(z13 z14 z15 z16 z18:Int):An→Nat→Dw
 | [],i19,v20=>rec10 (w64 (z11+1)) v20 z14 z12 z13 z15 z16 z18
 |x21::xs,i19,v20=>X3h rec10 z11 z12 z13 z14 z15 z16 z18 (X1b rec10 z11 z12 z13 z14 z15 z16 z18 xs (i19+1)) x21 i19 v20
def X1s(rec10:Dj)(z11 z12:Int)(z13:Ab)(z14 z15 z16 z18:Int)(z19:Ah)(v20:Int):Bb:=
 (X8t z18 v20 z16 z15 (z13,z14)).bind fun u21=>if(u21.2.2≠0) then(none) else
 X1b rec10 z11 u21.2.1.1 u21.2.1.2 z12 z15 z16 z18 u21.1 0 z19
def X3i(kx10:Br)(z11 z12:Int)(rec13:Dj)(v14:Int)(v15:Ah)(v16:Int)(v18:Ab)(v19 v20 v21 v22:Int):Bb:=
 if(v14<z11) then(if(v14=z12) then((X1s rec13 v14 v16 v18 v19 v20 v21 v22 v15) 1) else
(X1s rec13 v14 v16 v18 v19 v20 v21 v22 v15) 0) else
 kx10 v15 v16 v18 v19 v20 v21 v22
def Xa(kx10:Br)(z11 z12:Int):Nat→Dj
 |0,_,_,_,_,_,_,_,_=>none
 |n+1,v13,v14,v15,v16,v18,v19,v20,v21=>X3i kx10 z11 z12 (Xa kx10 z11 z12 n) v13 v14 v15 v16 v18 v19 v20 v21
def X6e(x0:Int)(x1:Af)(x2 x3:Int)(x4:Ag):Bb:=
 (X5p x0 x1 x2).bind fun u5=>if(u5.2≠0) then(none) else
 if((x3<0)∨(x2≤x3)) then(none) else
(lmk x1.1 ([]:List Int)).bind fun u24=>Xa X9 x2 x3 big 0 u24 0 x4.1 x4.2 x1.1 x1.2 x0
def Xb(v10:Ah)(v11:Int)(v12:Ab)(v13 v14 v15 v16 v17:Int):Bb:=
 some (v10,(v12,v13),0)
def X3j(rec10:Dl)(z11:Ab)(z12:Int)(z13:Ab)(z14 z15 z16 z17 z19 z20:Int)(rec21:Int→Dw)(v22:Int)(v23:Ah):Bb:=
 if(v22≤z16) then((X6s z20 z11 v22).bind fun u24=>(lidx v23 (w64 (v22-1))).bind fun u25=>(lapp u25 ([u24.1]:List Int)).bind fun u26=>(lidx v23 (w64 (v22-1))).bind fun u27=>(lupd v23 (w64 (v22-1)) u26).bind fun u28=>rec21 (w64 (v22+1)) u28) else
 rec10 (w64 (z12+1)) v23 z15 z13 z14 z16 z17 z19 z20
def X1c(rec10:Dl)(z11:Ab)(z12:Int)(z13:Ab)(z14 z15 z16 z17 z19 z20:Int):Nat→Int→Dw
 |0,_,_=>none
 |n+1,v21,v22=>X3j rec10 z11 z12 z13 z14 z15 z16 z17 z19 z20 (X1c rec10 z11 z12 z13 z14 z15 z16 z17 z19 z20 n) v21 v22
def X1t(rec10:Dl)(z11:Int)(z12:Ab)(z13 z14 z15 z16 z17 z19:Int)(z20:Ah)(v21:Ab):Bb:=
 X1c rec10 v21 z11 z12 z13 z14 z15 z16 z17 z19 big 1 z20
def X3k(kx10:Bm)(z11 z12:Int)(rec13:Dl)(v14:Int)(v15:Ah)(v16:Int)(v17:Ab)(v19 v20 v21 v22 v23:Int):Bb:=
 if(v14<z11) then((X5f (v17,v19) v23 v21).bind fun u24=>if(u24.2.2≠0) then(none) else
(lmk v22 0).bind fun u25=>(lapp u25 u24.2.1).bind fun u26=>if(v14=z12) then((lidx u26 0).bind fun u27=>(lupd u26 0 1).bind fun u28=>(X1t rec13 v14 u24.1.1 u24.1.2 v16 v20 v21 v22 v23 v15) u28) else
(X1t rec13 v14 u24.1.1 u24.1.2 v16 v20 v21 v22 v23 v15) u26) else
 kx10 v15 v16 v17 v19 v20 v21 v22 v23
def Xc(kx10:Bm)(z11 z12:Int):Nat→Dl
 |0,_,_,_,_,_,_,_,_,_=>none
 |n+1,v13,v14,v15,v16,v17,v19,v20,v21,v22=>X3k kx10 z11 z12 (Xc kx10 z11 z12 n) v13 v14 v15 v16 v17 v19 v20 v21 v22
def X6f(x0:Int)(x1:Bz)(x2 x3:Int)(x4:Ag):Bb:=
 (X5q x0 x1 x2).bind fun u5=>if(u5.2≠0) then(none) else
 if((x3<0)∨(x2≤x3)) then(none) else
(lmk x1.1 ([]:List Int)).bind fun u24=>Xc Xb x2 x3 big 0 u24 0 x4.1 x4.2 x1.1 x1.2.1 x1.2.2 x0
def X6g(x0:Ay)(x1 x2 x3:Int)(x4:Ag):Bb:=
 (X19 x0 x1).bind fun u5=>if((!u5)=true) then(none) else
 if((x2<1)∨(1024<x2)) then(none) else
 if((x3<0)∨(x2≤x3)) then(none) else
 if(x0.1=1) then((X6d x1 x2 x0.2.1 x3 x4).bind fun u28=>some (u28.1,u28.2.1,u28.2.2)) else
 if(x0.1=2) then((X85 x0).bind fun u52=>(X6e x1 u52 x2 x3 x4).bind fun u56=>some (u56.1,u56.2.1,u56.2.2)) else
(nz x0.2.2.2).bind fun _=>(X1w x0).bind fun u73=>(X6r x0 x2).bind fun u77=>(X6f x1 u73 u77 (w64 (Int.tdiv x3 x0.2.2.2)) x4).bind fun u81=>some (u81.1,u81.2.1,u81.2.2)
def Xu(v10:Bn)(v11:Int)(v12:Ab)(v13 v14 v15 v16 v17 v18:Int):By:=
 some (v10,(v12,v13),0)
def X5a(rec10:Cy)(z11:Int)(z12:Bn)(v13:Ab)(v14:Int)(v15:Ah)(v16:Int):By:=
 if(v16≠0) then(none) else
(lapp z12 ([v15]:List (List (List Int)))).bind fun u17=>rec10 u17 (w64 (z11+1)) v13 v14
def X3l(kx10:Ct)(z11:Int)(z12:Ab)(z13 z14 z15 z16 z17:Int)(rec18:Cy)(v19:Bn)(v20:Int)(v21:Ab)(v22:Int):By:=
 if(v20<(z12.length:Int)) then((lidx z12 v20).bind fun u25=>(X6g (z14,z15,z16,z17) z13 z11 (max u25 0) (v21,v22)).bind fun u26=>(X5a rec18 v20 v19) u26.2.1.1 u26.2.1.2 u26.1 u26.2.2) else
 kx10 v19 0 v21 v22 z13 z14 z15 z16 z17
def Xv(kx10:Ct)(z11:Int)(z12:Ab)(z13 z14 z15 z16 z17:Int):Nat→Cy
 |0,_,_,_,_=>none
 |n+1,v18,v19,v20,v21=>X3l kx10 z11 z12 z13 z14 z15 z16 z17 (Xv kx10 z11 z12 z13 z14 z15 z16 z17 n) v18 v19 v20 v21
def X6h(x0:Ay)(x1 x2:Int)(x3:Ab)(x4:Ag):By:=
 (X19 x0 x1).bind fun u5=>if((!u5)=true) then(none) else
(X5e x3 x2).bind fun u12=>if((!u12)=true) then(none) else
 Xv Xu x2 x3 x1 x0.1 x0.2.1 x0.2.2.1 x0.2.2.2 big ([]:List (List (List Int))) 0 x4.1 x4.2
def X2i(z10:Bn)(z11 z12:Ab)(v13 v14 v15 v16 v17 v18 v19 v20 v21 v22:Int)(v23:Aw)(v24:Ah)(v25:Bool)(v26 v27 v28 v29 v30 v31 v33 v34 v35 v36 v37 v38 v39:Int)(v40:Bool)(v41 v42 v43 v44 v45 v46 v47 v48 v49 v50:Int):Ck:=
 some ((v13,(v14,v15,v16,v17),(v18,v19,v20,v21,v22),z12,z10,v23,v24,v25),(z11,v26),0)
def X56(kx10:Bi)(z11:Ab)(z12 z13 z14 z15 z16 z17 z18 z19 z20 z21:Int)(z22:Bool)(z23 z24 z25 z26 z27 z28 z29 z30 z31 z33 z34:Int)(rec35:Dz)(v36:Int)(v37:Aw)(v38:Ah):Ck:=
 if(v36<(z11.length:Int)) then((lmk z31 (false,([]:List Int))).bind fun u39=>(lapp v37 ([u39]:List (List (Bool×(List Int))))).bind fun u40=>(lmk z31 0).bind fun u41=>(lapp v38 ([u41]:List (List Int))).bind fun u42=>rec35 (w64 (v36+1)) u40 u42) else
 kx10 z12 z13 z14 z15 z16 z17 z18 z19 z20 z21 v37 v38 z22 z23 z24 0 0 0 0 0 0 0 0 0 0 0 false z25 z26 z24 z27 z28 z29 z30 z31 z33 z34
def X2j(kx10:Bi)(z11:Ab)(z12 z13 z14 z15 z16 z17 z18 z19 z20 z21:Int)(z22:Bool)(z23 z24 z25 z26 z27 z28 z29 z30 z31 z33 z34:Int):Nat→Dz
 |0,_,_,_=>none
 |n+1,v35,v36,v37=>X56 kx10 z11 z12 z13 z14 z15 z16 z17 z18 z19 z20 z21 z22 z23 z24 z25 z26 z27 z28 z29 z30 z31 z33 z34 (X2j kx10 z11 z12 z13 z14 z15 z16 z17 z18 z19 z20 z21 z22 z23 z24 z25 z26 z27 z28 z29 z30 z31 z33 z34 n) v35 v36 v37
def X72(z10 z11:Ab)(z12 z13 z14 z15 z16 z17 z18 z19 z20 z21 z22 v23 v24 v25 v26 v27 v28 v29 v30 v31 v33:Int)(v34:Ab)(v35:Bn)(v36:Bool):Ck:=
 X2j (X2i v35 z11 v34) z10 v23 v24 v25 v26 v27 v28 v29 v30 v31 v33 v36 z12 z13 z14 z15 z16 z17 z18 z19 z20 z21 z22 big 0 ([]:List (List (Bool×(List Int)))) ([]:List (List Int))
def X8u(x0:Int)(x1:Ay)(x2:Ai)(x3:Ab)(x4:Ag):Ck:=
 if(x0<0) then(none) else
(X19 x1 x2.2.1).bind fun u10=>if((!u10)=true) then(none) else
(X5e x3 x2.2.2.1).bind fun u17=>if((((!u17)=true)∨(x2.2.2.2.1<1))∨(64<x2.2.2.2.1)) then(none) else
(X6h x1 x2.2.1 x2.2.2.1 x3 x4).bind fun u32=>if(u32.2.2≠0) then(none) else
(lapp ([]:List Int) x3).bind fun u11=>(X72 x3 u32.2.1.1 u32.2.1.2 x2.2.1 x4.2 x2.1 x2.2.2.1 x2.2.2.2.1 x2.2.2.2.2 x1.1 x1.2.1 x1.2.2.1 x1.2.2.2) x0 x1.1 x1.2.1 x1.2.2.1 x1.2.2.2 x2.1 x2.2.1 x2.2.2.1 x2.2.2.2.1 x2.2.2.2.2 u11 u32.1 false
def X86(x0 x1:Bg):Option (Bg×Int):=
 if(256<(w64 ((x0.length:Int)+(x1.length:Int)))) then(none) else
(lapp ([]:List (Int×Int×Int×Int×Int×(List Int)×(List Int)×Int)) x0).bind fun u11=>(lapp u11 x1).bind fun u18=>some (u18,0)
def X57(rec10:Ba)(z11 z12 z13 z14 z15 z16 z17 z18 z19 z20 z21:Int)(z22:Bn)(z23:Bool)(rec24:Bg→Int→Dh)(v25:Bg)(v26:Int):Dh:=
 (lidx z22 z11).bind fun u27=>if(v26<(u27.length:Int)) then((lidx z22 z11).bind fun u28=>(lidx u28 v26).bind fun u29=>(lapp ([]:List Int) u29).bind fun u30=>(lapp v25 ([(1,z12,z11,(w64 (v26+1)),z17,u30,([]:List Int),0)]:List (Int×Int×Int×Int×Int×(List Int)×(List Int)×Int))).bind fun u31=>rec24 u31 (w64 (v26+1))) else
 rec10 v25 (w64 (z11+1)) z12 z13 z14 z15 z16 z17 z18 z19 z20 z21 z23
def X2k(rec10:Ba)(z11 z12 z13 z14 z15 z16 z17 z18 z19 z20 z21:Int)(z22:Bn)(z23:Bool):Nat→Bg→Int→Dh
 |0,_,_=>none
 |n+1,v24,v25=>X57 rec10 z11 z12 z13 z14 z15 z16 z17 z18 z19 z20 z21 z22 z23 (X2k rec10 z11 z12 z13 z14 z15 z16 z17 z18 z19 z20 z21 z22 z23 n) v24 v25
def X58(z10:Bn)(rec11:Ba)(v12:Bg)(v13 v14 v15 v16 v17 v18 v19 v20 v21 v22 v23:Int)(v24:Bool):Dh:=
 if(v13<(z10.length:Int)) then(X2k rec11 v13 v14 v15 v16 v17 v18 v19 v20 v21 v22 v23 z10 v24 big v12 0) else
 some v12
def Xo(z10:Bn):Nat→Ba
 |0,_,_,_,_,_,_,_,_,_,_,_,_,_=>none
 |n+1,v11,v12,v13,v14,v15,v16,v17,v18,v19,v20,v21,v22,v23=>X58 z10 (Xo z10 n) v11 v12 v13 v14 v15 v16 v17 v18 v19 v20 v21 v22 v23
def X8v(x0:Ad):Dh:=
 Xo x0.2.2.2.2.1 big ([]:List (Int×Int×Int×Int×Int×(List Int)×(List Int)×Int)) 0 x0.1 x0.2.1.1 x0.2.1.2.1 x0.2.1.2.2.1 x0.2.1.2.2.2 x0.2.2.1.1 x0.2.2.1.2.1 x0.2.2.1.2.2.1 x0.2.2.1.2.2.2.1 x0.2.2.1.2.2.2.2 x0.2.2.2.2.2.2.2
def X73(z10 z11 z12 z13 z14 z15 z16 z17 z18 z19:Int)(z20:Ab)(z21:Bn)(z22:Aw)(z23:Ah)(z24:Bool)(z25 z26:Int)(z27:Bj)(z28:An)(z29:Ab)(z30 z31 z32 z33:Int)(z34:An)(z35:Bp)(z36:Ab)(z37:Aj)(z38:Bq)(z39:Bx)(v41:Bg)(v42:Int):As:=
 if(v42≠0) then(none) else
(lapp z39 ([(z10,(z11,z12,z13,z14),(z15,z16,z17,z18,z19),z20,z21,z22,z23,z24)]:List (Int×(Int×Int×Int×Int)×(Int×Int×Int×Int×Int)×(List Int)×(List (List (List Int)))×(List (List (Bool×(List Int))))×(List (List Int))×Bool))).bind fun u43=>some (((z30,z31,z32,z33),z34,z35,z38,v41,u43,(z25,z26,z27),(z28,z29),z36,z37),0)
def Xa4(x0:Aa)(x1:Ab):As:=
 if(64≤(x0.2.2.2.2.2.1.length:Int)) then(none) else
(X5n x0.2.2.1).bind fun u8=>(X2r u8.1).bind fun u16=>(X5e x1 u16.1.2.2.1).bind fun u21=>if((!u21)=true) then(none) else
(X9l x0.2.2.2.2.2.2.2.1 (x0.2.2.2.2.2.1.length:Int)).bind fun u28=>if(u28.2.2≠0) then(none) else
(X7e x0.1 u8.1.2.1 u16.1.2.2.1 (x1.length:Int)).bind fun u46=>if(u46.2≠0) then(none) else
(X8q x0.2.2.2.2.2.2.1 (x0.2.2.2.2.2.1.length:Int) u8.1.1 u16.1.2.1 (u46.1.length:Int)).bind fun u58=>if(u58.2.2≠0) then(none) else
(X8u (x0.2.2.2.2.2.1.length:Int) x0.1 u16.1 x1 u58.2.1).bind fun u77=>if(u77.2.2≠0) then(none) else
(X8v u77.1).bind fun u10=>(X86 x0.2.2.2.2.1 u10).bind fun u11=>(X73 u77.1.1 u77.1.2.1.1 u77.1.2.1.2.1 u77.1.2.1.2.2.1 u77.1.2.1.2.2.2 u77.1.2.2.1.1 u77.1.2.2.1.2.1 u77.1.2.2.1.2.2.1 u77.1.2.2.1.2.2.2.1 u77.1.2.2.1.2.2.2.2 u77.1.2.2.2.1 u77.1.2.2.2.2.1 u77.1.2.2.2.2.2.1 u77.1.2.2.2.2.2.2.1 u77.1.2.2.2.2.2.2.2 u58.1.1 u58.1.2.1 u58.1.2.2 u28.1.1 u28.1.2 x0.1.1 x0.1.2.1 x0.1.2.2.1 x0.1.2.2.2 x0.2.1 x0.2.2.1 x0.2.2.2.2.2.2.2.2.1 x0.2.2.2.2.2.2.2.2.2 x0.2.2.2.1 x0.2.2.2.2.2.1) u11.1 u11.2
def X5r(x0:Bg)(x1:Int):Option Dx:=
 if((x1<0)∨((x0.length:Int)≤x1)) then(none) else
(lidx x0 x1).bind fun u10=>some (u10,0)
def X9n(x0:Bg)(x1:Int):Option (Bg×Dx):=
 (X5r x0 x1).bind fun u4=>if(u4.2≠0) then(none) else
(lsub x0 0 x1).bind fun u18=>(lsub x0 (w64 (x1+1)) (x0.length:Int)).bind fun u24=>(lapp ([]:List (Int×Int×Int×Int×Int×(List Int)×(List Int)×Int)) u18).bind fun u35=>(lapp u35 u24).bind fun u42=>some (u42,u4.1,0)
def X5s(x0:Aa)(x1:Int):Aq:=
 if((x1<1)∨((x0.2.2.2.1.length:Int)<x1)) then(none) else
 some (w64 (x1-1))
def Xak(z10 z11 z12 z13 z14:Int)(z15:Bool)(z16:Bc)(v17:Ar):Bf:=
 some ((z10,(z11,z12,z13,z14),z15,z16,v17),0)
def X4g(z10:Ab)(z11:Bc)(z12:Ar)(v13 v14 v15 v16 v17:Int)(v18:Bool)(v19 v20 v21 v22 v23 v24 v25 v26 v27 v28 v29:Int)(v31:Bool):Bf:=
 if(32≤(z12.length:Int)) then(none) else
(lapp ([]:List (Int×Int×Int×(List Int)×(List Int))) z12).bind fun u32=>(lapp ([]:List Int) z10).bind fun u33=>(lapp u32 ([(v20,v21,v23,u33,([]:List Int))]:List (Int×Int×Int×(List Int)×(List Int)))).bind fun u34=>(Xak v25 v26 v27 v28 v29 v31 z11) u34
def X93(kx10:Av)(z11 z12 z13 z14 z15:Int)(z16:Bool)(z17 z18 z19 z20 z21 z22 z23 z24 z25 z26 z27:Int)(z28:Bool)(z29:Ar)(rec31:Bf):Bf:=
 if(0<(z29.length:Int)) then(none) else
 kx10 z11 z12 z13 z14 z15 z16 z17 z18 z19 z20 z21 z22 z23 z24 z25 z26 z27 z28
def X7g(kx10:Av)(z11 z12 z13 z14 z15:Int)(z16:Bool)(z17 z18 z19 z20 z21 z22 z23 z24 z25 z26 z27:Int)(z28:Bool)(z29:Ar):Nat→Bf
 |0=>none
 |n+1=>X93 kx10 z11 z12 z13 z14 z15 z16 z17 z18 z19 z20 z21 z22 z23 z24 z25 z26 z27 z28 z29 (X7g kx10 z11 z12 z13 z14 z15 z16 z17 z18 z19 z20 z21 z22 z23 z24 z25 z26 z27 z28 z29 n)
def X2x(z10:Ab)(z11:Bc)(z12:Ar)(v13 v14 v15 v16 v17:Int)(v18:Bool)(v19 v20 v21 v22 v23 v24 v25 v26 v27 v28 v29:Int)(v31:Bool):Bf:=
 X7g (X4g z10 z11 z12) v13 v14 v15 v16 v17 v18 v19 v20 v21 v22 v23 v24 v25 v26 v27 v28 v29 v31 z12 big
def X7h(kx10:Av)(z11 z12 z13 z14 z15 z16:Int)(z17:Ab)(z18 z19 z20 z21 z22 z23:Int)(z24:Bool)(z25:Bc)(rec26:Int→Bf)(v27:Int):Bf:=
 if(v27<(z17.length:Int)) then((lidx z17 v27).bind fun u28=>(if(u28<0) then(some true) else(lidx z17 v27).bind fun u29=>(lidx z25 z11).bind fun u31=>some (decide (u31.1.2.1≤u29))).bind fun u32=>if(u32=true) then(none) else
 rec26 (w64 (v27+1))) else
 kx10 0 0 0 0 0 false z12 z13 z14 z15 z16 z18 z19 z20 z21 z22 z23 z24
def X4h(kx10:Av)(z11 z12 z13 z14 z15 z16:Int)(z17:Ab)(z18 z19 z20 z21 z22 z23:Int)(z24:Bool)(z25:Bc):Nat→Int→Bf
 |0,_=>none
 |n+1,v26=>X7h kx10 z11 z12 z13 z14 z15 z16 z17 z18 z19 z20 z21 z22 z23 z24 z25 (X4h kx10 z11 z12 z13 z14 z15 z16 z17 z18 z19 z20 z21 z22 z23 z24 z25 n) v26
def Xal(x0:Ac)(x1:Ae):Bf:=
 if((!x0.2.2.1)=true) then(none) else
 if((x1.1≠1)∨(x1.2.2.2.1≠x0.1)) then(none) else
(X5k x0 x1.2.2.2.2.1).bind fun u14=>if(u14<0) then(none) else
(lidx x0.2.2.2.1 u14).bind fun u21=>if((x1.2.2.2.2.2.1.length:Int)≠(u21.2.length:Int)) then(none) else
 X4h (X2x x1.2.2.2.2.2.1 x0.2.2.2.1 x0.2.2.2.2) u14 x1.1 x1.2.1 x1.2.2.1 x1.2.2.2.1 x1.2.2.2.2.1 x1.2.2.2.2.2.1 x1.2.2.2.2.2.2.2 x0.1 x0.2.1.1 x0.2.1.2.1 x0.2.1.2.2.1 x0.2.1.2.2.2 x0.2.2.1 x0.2.2.2.1 big 0
def X5b(z10 v11:Ab):Cl:=
 (lapp v11 z10).bind fun u12=>some u12
def X4p(x0:Ae):Cl:=
 (lapp ([x0.1,x0.2.1,x0.2.2.1,x0.2.2.2.1,x0.2.2.2.2.1,(x0.2.2.2.2.2.1.length:Int)]:List Int) x0.2.2.2.2.2.1).bind fun u10=>(lapp u10 ([(x0.2.2.2.2.2.2.1.length:Int)]:List Int)).bind fun u11=>(X5b x0.2.2.2.2.2.2.1) u11
def X87(x0:Int)(x1:Ab):Ce:=
 (X5j x0).bind fun u1=>if((!u1)=true) then(none) else
 if(16384<(x1.length:Int)) then(none) else
(lapp ([x0]:List Int) x1).bind fun u18=>(X9h u18).bind fun u26=>some (u26,0)
def X7i(x0:An)(x1:Int)(x2:Ab)(x3:Int):Au:=
 (X83 x0 x1).bind fun u1=>if((!u1.2)=true) then(none) else
(X87 u1.1.2 x2).bind fun u9=>some (decide ((u9.2=0)∧(u9.1=x3)))
def X6i(z27 z28:Ab)(rec23:Cr)(v24:Int):Au:=
 if(v24<(z27.length:Int)) then((lidx z27 v24).bind fun u33=>(lidx z28 v24).bind fun u38=>if(u33≠u38) then(none) else
 rec23 (w64 (v24+1))) else
 some true
def X39(z27 z28:Ab):Dq
 |0,_=>none
 |n+1,v24=>X6i z27 z28 (X39 z27 z28 n) v24
def X9o(x0 x1:Ab):Au:=
 if((x0.length:Int)≠(x1.length:Int)) then(none) else
 X39 x0 x1 big 0
def X6j(z10 z11:Int)(z12:Ab)(z13 z14 z15 z16 z17 z18 z19 z20 z21 z22 z23:Int)(z24:Ab)(z25:Bn)(z26:Bool)(v27:Aw)(v28:Ah):Ch:=
 (lidx v27 z10).bind fun u29=>(lidx v28 z10).bind fun u30=>(lapp ([]:List (Bool×(List Int))) u29).bind fun u31=>(lapp ([]:List Int) u30).bind fun u33=>(lidx v27 z10).bind fun u34=>(lidx v28 z10).bind fun u35=>(lidx v27 z10).bind fun u36=>(lapp ([]:List Int) z12).bind fun u37=>(lidx u31 (w64 (z11-1))).bind fun u38=>(lupd u31 (w64 (z11-1)) (true,u37)).bind fun u39=>(lidx v28 z10).bind fun u40=>(lidx u33 (w64 (z11-1))).bind fun u41=>(lupd u33 (w64 (z11-1)) z13).bind fun u42=>(lupd v27 z10 u39).bind fun u43=>(lupd v28 z10 u42).bind fun u44=>some ((z14,(z15,z16,z17,z18),(z19,z20,z21,z22,z23),z24,z25,u43,u44,z26),0)
def X11(z10:An)(z11 z12 z13:Ab)(z14:Bn)(z15:Aw)(z16:Ah)(v17 v18 v19 v20 v21 v23 v24 v25 v26 v27:Int)(v28:Bool)(v29 v31 v33 v34 v35 v36 v37 v38 v39 v40 v41 v42 v43 v44 v45 v46:Int)(v47:Bool):Ch:=
 (X4p (v29,v31,v33,v34,v35,z11,z12,v36)).bind fun u48=>(X7i z10 v34 u48 v36).bind fun u49=>if((!u49)=true) then(some ((v37,(v38,v39,v40,v41),(v42,v43,v44,v45,v46),z13,z14,z15,z16,v47),16)) else
(lidx z15 v33).bind fun u50=>(lidx u50 (w64 (v34-1))).bind fun u51=>if(u51.1=true) then(some ((v37,(v38,v39,v40,v41),(v42,v43,v44,v45,v46),z13,z14,z15,z16,v47),7)) else
(lapp ([]:List (List (Bool×(List Int)))) z15).bind fun u52=>(lapp ([]:List (List Int)) z16).bind fun u53=>(X6j v33 v34 z12 v36 v37 v38 v39 v40 v41 v42 v43 v44 v45 v46 z13 z14 v47) u52 u53
def X6k(kx10:Bl)(z11 z12 z13 z14 z15:Int)(z16:Ab)(z17 z18 z19 z20 z21 z22 z23 z24 z25 z26 z27:Int)(z28:Ab)(z29:Bn)(z30:Aw)(z31:Ah)(z33:Bool)(rec34:Int→Ch)(v35:Int):Ch:=
 if(v35<(z16.length:Int)) then((lidx z16 v35).bind fun u36=>(if(u36<0) then(some true) else(lidx z16 v35).bind fun u37=>some (decide (z24≤u37))).bind fun u38=>if(u38=true) then(some ((z18,(z19,z20,z21,z22),(z23,z24,z25,z26,z27),z28,z29,z30,z31,z33),2)) else
 rec34 (w64 (v35+1))) else
 kx10 0 0 0 0 0 0 0 0 0 0 false z11 z12 z13 z14 z15 z17 z18 z19 z20 z21 z22 z23 z24 z25 z26 z27 z33
def X20(kx10:Bl)(z11 z12 z13 z14 z15:Int)(z16:Ab)(z17 z18 z19 z20 z21 z22 z23 z24 z25 z26 z27:Int)(z28:Ab)(z29:Bn)(z30:Aw)(z31:Ah)(z33:Bool):Nat→Int→Ch
 |0,_=>none
 |n+1,v34=>X6k kx10 z11 z12 z13 z14 z15 z16 z17 z18 z19 z20 z21 z22 z23 z24 z25 z26 z27 z28 z29 z30 z31 z33 (X20 kx10 z11 z12 z13 z14 z15 z16 z17 z18 z19 z20 z21 z22 z23 z24 z25 z26 z27 z28 z29 z30 z31 z33 n) v34
def X9p(x0:Ad)(x1:An)(x2:Ae):Ch:=
 if(x0.2.2.2.2.2.2.2=true) then(some (x0,46)) else
(if(((((((x2.1≠2)∨(x2.2.1≠x0.1))∨(x2.2.2.2.2.1≠x0.2.2.1.1))∨(x2.2.2.1<0))∨((x0.2.2.2.2.1.length:Int)≤x2.2.2.1))∨(x2.2.2.2.1<1))∨(x0.2.1.2.1<x2.2.2.2.1)) then(some true) else(lidx x0.2.2.2.2.1 x2.2.2.1).bind fun u10=>(lidx u10 (w64 (x2.2.2.2.1-1))).bind fun u11=>(X9o x2.2.2.2.2.2.1 u11).bind fun u12=>some (!u12)).bind fun u53=>if((u53=true)∨((x2.2.2.2.2.2.2.1.length:Int)≠x0.2.2.1.2.2.2.1)) then(some (x0,2)) else
 X20 (X11 x1 x2.2.2.2.2.2.1 x2.2.2.2.2.2.2.1 x0.2.2.2.1 x0.2.2.2.2.1 x0.2.2.2.2.2.1 x0.2.2.2.2.2.2.1) x2.1 x2.2.1 x2.2.2.1 x2.2.2.2.1 x2.2.2.2.2.1 x2.2.2.2.2.2.2.1 x2.2.2.2.2.2.2.2 x0.1 x0.2.1.1 x0.2.1.2.1 x0.2.1.2.2.1 x0.2.1.2.2.2 x0.2.2.1.1 x0.2.2.1.2.1 x0.2.2.1.2.2.1 x0.2.2.1.2.2.2.1 x0.2.2.1.2.2.2.2 x0.2.2.2.1 x0.2.2.2.2.1 x0.2.2.2.2.2.1 x0.2.2.2.2.2.2.1 x0.2.2.2.2.2.2.2 big 0
def X7y(z10 z11 z12 z13 z14:Int)(z15:An)(z16:Bp)(z17:Bg)(z18 z19:Int)(z20:Bj)(z21:An)(z22 z23:Ab)(z24:Aj)(z25:Bq)(z26:Bx)(v27 v28 v29 v30 v31:Int)(v32:Bool)(v33:Bc)(v34:Ar)(v35:Int):As:=
 (lidx z25 z10).bind fun u36=>(lupd z25 z10 (v27,(v28,v29,v30,v31),v32,v33,v34)).bind fun u37=>some (((z11,z12,z13,z14),z15,z16,u37,z17,z26,(z18,z19,z20),(z21,z22),z23,z24),v35)
def X7z(z10 z11 z12 z13 z14:Int)(z15:An)(z16:Bp)(z17:Bg)(z18 z19:Int)(z20:Bj)(z21:An)(z22 z23:Ab)(z24:Aj)(z25:Bq)(z26:Bx)(v27 v28 v29 v30 v31 v32 v33 v34 v35 v36:Int)(v37:Ab)(v38:Bn)(v39:Aw)(v41:Ah)(v42:Bool)(v43:Int):As:=
 (lidx z26 z10).bind fun u44=>(lupd z26 z10 (v27,(v28,v29,v30,v31),(v32,v33,v34,v35,v36),v37,v38,v39,v41,v42)).bind fun u45=>some (((z11,z12,z13,z14),z15,z16,z25,z17,u45,(z18,z19,z20),(z21,z22),z23,z24),v43)
def X9q(x0:Aa)(x1:Ae):As:=
 if(x1.1=1) then((X5s x0 x1.2.2.2.1).bind fun u8=>if(u8<0) then(none) else
(lidx x0.2.2.2.1 u8).bind fun u10=>(Xal u10 x1).bind fun u11=>(X7y u8 x0.1.1 x0.1.2.1 x0.1.2.2.1 x0.1.2.2.2 x0.2.1 x0.2.2.1 x0.2.2.2.2.1 x0.2.2.2.2.2.2.1.1 x0.2.2.2.2.2.2.1.2.1 x0.2.2.2.2.2.2.1.2.2 x0.2.2.2.2.2.2.2.1.1 x0.2.2.2.2.2.2.2.1.2 x0.2.2.2.2.2.2.2.2.1 x0.2.2.2.2.2.2.2.2.2 x0.2.2.2.1 x0.2.2.2.2.2.1) u11.1.1 u11.1.2.1.1 u11.1.2.1.2.1 u11.1.2.1.2.2.1 u11.1.2.1.2.2.2 u11.1.2.2.1 u11.1.2.2.2.1 u11.1.2.2.2.2 u11.2) else
 if((x1.2.1<0)∨((x0.2.2.2.2.2.1.length:Int)≤x1.2.1)) then(none) else
(lidx x0.2.2.2.2.2.1 x1.2.1).bind fun u12=>(X9p u12 x0.2.1 x1).bind fun u13=>(X7z x1.2.1 x0.1.1 x0.1.2.1 x0.1.2.2.1 x0.1.2.2.2 x0.2.1 x0.2.2.1 x0.2.2.2.2.1 x0.2.2.2.2.2.2.1.1 x0.2.2.2.2.2.2.1.2.1 x0.2.2.2.2.2.2.1.2.2 x0.2.2.2.2.2.2.2.1.1 x0.2.2.2.2.2.2.2.1.2 x0.2.2.2.2.2.2.2.2.1 x0.2.2.2.2.2.2.2.2.2 x0.2.2.2.1 x0.2.2.2.2.2.1) u13.1.1 u13.1.2.1.1 u13.1.2.1.2.1 u13.1.2.1.2.2.1 u13.1.2.1.2.2.2 u13.1.2.2.1.1 u13.1.2.2.1.2.1 u13.1.2.2.1.2.2.1 u13.1.2.2.1.2.2.2.1 u13.1.2.2.1.2.2.2.2 u13.1.2.2.2.1 u13.1.2.2.2.2.1 u13.1.2.2.2.2.2.1 u13.1.2.2.2.2.2.2.1 u13.1.2.2.2.2.2.2.2 u13.2
def X3m(z37 z38 z39 z40:Int)(z41:An)(z42:Bp)(z43 z44:Int)(z45:Bj)(z46:An)(z47 z48:Ab)(z49:Aj)(z50 z51 z52 z53 z54:Int)(z55 z56:Ab)(z57:Int)(z59:Bq)(z60:Bx)(v31:Bg):As:=
 (X9q ((z37,z38,z39,z40),z41,z42,z59,v31,z60,(z43,z44,z45),(z46,z47),z48,z49) (z50,z51,z52,z53,z54,z55,z56,z57)).bind fun u61=>some (u61.1,u61.2)
def X6l(x0:Aa)(x1:Int)(x2:Bool):As:=
 (X9n x0.2.2.2.2.1 x1).bind fun u5=>if(u5.2.2≠0) then(none) else
 if(x2=true) then((X3m x0.1.1 x0.1.2.1 x0.1.2.2.1 x0.1.2.2.2 x0.2.1 x0.2.2.1 x0.2.2.2.2.2.2.1.1 x0.2.2.2.2.2.2.1.2.1 x0.2.2.2.2.2.2.1.2.2 x0.2.2.2.2.2.2.2.1.1 x0.2.2.2.2.2.2.2.1.2 x0.2.2.2.2.2.2.2.2.1 x0.2.2.2.2.2.2.2.2.2 u5.2.1.1 u5.2.1.2.1 u5.2.1.2.2.1 u5.2.1.2.2.2.1 u5.2.1.2.2.2.2.1 u5.2.1.2.2.2.2.2.1 u5.2.1.2.2.2.2.2.2.1 u5.2.1.2.2.2.2.2.2.2 x0.2.2.2.1 x0.2.2.2.2.2.1) u5.1) else
 none
def X3n(rec10:Bh)(z11:Int)(z12:Ab)(z13:Int)(rec14:Du)(x15:Int)(i14:Nat)(v16:Ab):Ao:=
 (lidx z12 z11).bind fun u17=>(lidx v16 (i14:Int)).bind fun u18=>(nz z13).bind fun _=>(lidx v16 (i14:Int)).bind fun u19=>(lupd v16 (i14:Int) (Int.tmod (w64 (u18+(w64 (u17*x15)))) z13)).bind fun u20=>rec14 u20
def Xw(rec10:Bh)(z11:Int)(z12:Ab)(z13:Int):Ab→Nat→Du
 | [],i14,v15=>rec10 v15 z13
 |x16::xs,i14,v15=>X3n rec10 z11 z12 z13 (Xw rec10 z11 z12 z13 xs (i14+1)) x16 i14 v15
def X3o(z10:Ab)(rec11:Bh)(x12:Ab)(i11:Nat)(v13:Ab)(v14:Int):Ao:=
 Xw rec11 (i11:Int) z10 v14 x12 0 v13
def Xh(z10:Ab):Ah→Co
 | [],i11,v12,v13=>some (v12,0)
 |x14::xs,i11,v12,v13=>X3o z10 (Xh z10 xs (i11+1)) x14 i11 v12 v13
def X1d(z10:Ab)(z11:Ah)(z12 v13:Int):Ao:=
 (lmk z12 0).bind fun u14=>Xh z10 z11 0 u14 v13
def X3p(kx10:Cz)(z11:Int)(rec12:Ao)(x13:Ab):Ao:=
 (X4l z11 x13).bind fun u14=>if((!u14)=true) then(none) else
 rec12
def X1e(kx10:Cz)(z11:Int):Ah→Ao
 | []=>kx10 z11
 |x12::xs=>X3p kx10 z11 (X1e kx10 z11 xs) x12
def X1f(z62:Ab)(z63:Ah)(z64 v59:Int):Ao:=
 (X4l v59 z62).bind fun u65=>if((!u65)=true) then(none) else
 X1e (X1d z62 z63 z64) v59 z63
def X3q(kx60:Cz)(z10 z11:Int)(rec12:Ao)(x13:Ab):Ao:=
 if((x13.length:Int)≠z10) then(none) else
 rec12
def X1g(kx60:Cz)(z10 z11:Int):Ah→Ao
 | []=>kx60 z11
 |x12::xs=>X3q kx60 z10 z11 (X1g kx60 z10 z11 xs) x12
def X80(x0:Int)(x1:Ab)(x2:Ah)(x3:Int):Ao:=
 (X1m x0).bind fun u2=>if(u2≠0) then(none) else
 if((x3<0)∨(64<x3)) then(none) else
 if((x1.length:Int)≠(x2.length:Int)) then(none) else
 X1g (X1f x1 x2 x3) x3 x0 x2
def X94(x0 x1:Int)(x2:Ah)(x3:Ab):Ao:=
 (X80 x0 x3 x2 x1).bind fun u2=>some (u2.1,u2.2)
def X7j(x0 x1:Int)(x2:Ah)(x3:Ab):Ao:=
 (X94 x0 x1 x2 x3).bind fun u2=>some (u2.1,u2.2)
def X81(z10 z11 z12 z13 z14 z15:Int)(z16:Bool)(z17:Bc)(z18:Ar)(v19 v20 v21 v23 v24:Int)(v25 v26:Ab)(v27:Int):Cn:=
 (X4p (v19,v20,v21,v23,v24,v25,v26,v27)).bind fun u28=>(X87 z10 u28).bind fun u29=>if(u29.2≠0) then(none) else
(lsub z18 1 (z18.length:Int)).bind fun u31=>(lapp ([]:List (Int×Int×Int×(List Int)×(List Int))) u31).bind fun u32=>some ((z11,(z12,z13,z14,z15),z16,z17,u32),(v19,v20,v21,v23,v24,v25,v26,u29.1),true,0)
def X3a(z10 z11 z12 z13:Int)(z14 z15:Ab)(z16 z17 z18 z19 z20 z21:Int)(z22:Bool)(z23:Bc)(z24:Ar)(v25:Int):Cn:=
 (lapp ([]:List Int) z15).bind fun u26=>(lapp u26 ([v25]:List Int)).bind fun u27=>if((u27.length:Int)<z10) then((lsub z24 1 (z24.length:Int)).bind fun u28=>(lapp ([]:List (Int×Int×Int×(List Int)×(List Int))) ([(z11,z12,z13,z14,u27)]:List (Int×Int×Int×(List Int)×(List Int)))).bind fun u29=>(lapp u29 u28).bind fun u31=>some ((z17,(z18,z19,z20,z21),z22,z23,u31),(0,0,0,0,0,([]:List Int),([]:List Int),0),false,0)) else
(lapp ([]:List Int) z14).bind fun u32=>(X81 z16 z17 z18 z19 z20 z21 z22 z23 z24) 2 z11 z12 z17 z13 u32 u27 0
def X82(z10 z11 z12 z13:Int)(z14 z15:Ab)(z16 z17 z18 z19 z20 z21:Int)(z22:Bool)(z24:Bc)(z25:Ar)(v26 v27 v28 v29 v31:Int)(v32:Ah):Cn:=
 (X7j v27 v29 v32 z14).bind fun u33=>(lidx u33.1 (z15.length:Int)).bind fun u34=>if((z15.length:Int)=0) then((nz v27).bind fun _=>(nz v27).bind fun _=>(nz v27).bind fun _=>(X3a v29 z11 z12 z13 z14 z15 z16 z17 z18 z19 z20 z21 z22 z24 z25) (Int.tmod (w64 (u34+(Int.tmod (w64 ((Int.tmod z10 v27)+v27)) v27))) v27)) else
(X3a v29 z11 z12 z13 z14 z15 z16 z17 z18 z19 z20 z21 z22 z24 z25) u34
def X5t(x0:Ac)(x1:Af)(x2:Int):Cn:=
 if((!x0.2.2.1)=true) then(none) else
 if((x0.2.2.2.2.length:Int)=0) then(none) else
(lidx x0.2.2.2.2 0).bind fun u11=>(X5k x0 u11.2.2.1).bind fun u10=>(lidx x0.2.2.2.1 u10).bind fun u12=>(X82 x2 u11.1 u11.2.1 u11.2.2.1 u11.2.2.2.1 u11.2.2.2.2 x1.2 x0.1 x0.2.1.1 x0.2.1.2.1 x0.2.1.2.2.1 x0.2.1.2.2.2 x0.2.2.1 x0.2.2.2.1 x0.2.2.2.2) u12.1.1 u12.1.2.1 u12.1.2.2.1 u12.1.2.2.2.1 u12.1.2.2.2.2 u12.2
def X4q(z10 z11 z12 z13 z14:Int)(z15:An)(z16:Bp)(z17 z18:Int)(z19:Bj)(z20:An)(z21 z22:Ab)(z23:Aj)(z24 z25 z26 z27 z28:Int)(z29:Bool)(z30:Bc)(z31:Ar)(z32:Bq)(z33:Bx)(v34:Bg):As:=
 (lidx z32 z10).bind fun u35=>(lupd z32 z10 (z24,(z25,z26,z27,z28),z29,z30,z31)).bind fun u36=>some (((z11,z12,z13,z14),z15,z16,u36,v34,z33,(z17,z18,z19),(z20,z21),z22,z23),0)
def X4r(z10 z11 z12 z13 z14:Int)(z15:An)(z16:Bp)(z17:Bg)(z18 z19:Int)(z20:Bj)(z21:An)(z22 z23:Ab)(z24:Aj)(z25:Bq)(z26:Bx)(v27 v28 v29 v30 v32:Int)(v33:Bool)(v34:Bc)(v35:Ar)(v36 v37 v38 v39 v41:Int)(v42 v43:Ab)(v44:Int)(v45:Bool)(v46:Int):As:=
 if(v46≠0) then(none) else
 if(v45=true) then((X86 z17 ([(v36,v37,v38,v39,v41,v42,v43,v44)]:List (Int×Int×Int×Int×Int×(List Int)×(List Int)×Int))).bind fun u47=>if(u47.2≠0) then(none) else
(X4q z10 z11 z12 z13 z14 z15 z16 z18 z19 z20 z21 z22 z23 z24 v27 v28 v29 v30 v32 v33 v34 v35 z25 z26) u47.1) else
(X4q z10 z11 z12 z13 z14 z15 z16 z18 z19 z20 z21 z22 z23 z24 v27 v28 v29 v30 v32 v33 v34 v35 z25 z26) z17
def X88(x0:Aa)(x1:Int):As:=
 (X5s x0 x1).bind fun u5=>if(u5<0) then(none) else
(X83 x0.2.1 x1).bind fun u12=>(lidx x0.2.2.2.1 u5).bind fun u10=>(lidx x0.2.2.2.2.2.2.2.2.1 u5).bind fun u11=>(X5t u10 u12.1 u11).bind fun u13=>(X4r u5 x0.1.1 x0.1.2.1 x0.1.2.2.1 x0.1.2.2.2 x0.2.1 x0.2.2.1 x0.2.2.2.2.1 x0.2.2.2.2.2.2.1.1 x0.2.2.2.2.2.2.1.2.1 x0.2.2.2.2.2.2.1.2.2 x0.2.2.2.2.2.2.2.1.1 x0.2.2.2.2.2.2.2.1.2 x0.2.2.2.2.2.2.2.2.1 x0.2.2.2.2.2.2.2.2.2 x0.2.2.2.1 x0.2.2.2.2.2.1) u13.1.1 u13.1.2.1.1 u13.1.2.1.2.1 u13.1.2.1.2.2.1 u13.1.2.1.2.2.2 u13.1.2.2.1 u13.1.2.2.2.1 u13.1.2.2.2.2 u13.2.1.1 u13.2.1.2.1 u13.2.1.2.2.1 u13.2.1.2.2.2.1 u13.2.1.2.2.2.2.1 u13.2.1.2.2.2.2.2.1 u13.2.1.2.2.2.2.2.2.1 u13.2.1.2.2.2.2.2.2.2 u13.2.2.1 u13.2.2.2
def X8w(v10 v11 v12 v13 v14:Int)(v15:An)(v16:Bp)(v17:Bq)(v18:Bg)(v19:Bx)(v20 v21:Int)(v22:Bj)(v23:An)(v24 v25:Ab)(v26:Aj):As:=
 if(v10≠0) then(none) else
 some (((v11,v12,v13,v14),v15,v16,v17,v18,v19,(v20,v21,v22),(v23,v24),v25,v26),0)
def X21(x0:Aa)(x1:Int×Int×Ab×Int×Int×Int×List (Int×Ab)):As:=
 (X84 x0).bind fun u4=>if(x1.1=1) then((Xa4 u4 x1.2.2.1).bind fun u10=>X8w u10.2 u10.1.1.1 u10.1.1.2.1 u10.1.1.2.2.1 u10.1.1.2.2.2 u10.1.2.1 u10.1.2.2.1 u10.1.2.2.2.1 u10.1.2.2.2.2.1 u10.1.2.2.2.2.2.1 u10.1.2.2.2.2.2.2.1.1 u10.1.2.2.2.2.2.2.1.2.1 u10.1.2.2.2.2.2.2.1.2.2 u10.1.2.2.2.2.2.2.2.1.1 u10.1.2.2.2.2.2.2.2.1.2 u10.1.2.2.2.2.2.2.2.2.1 u10.1.2.2.2.2.2.2.2.2.2) else
 if(x1.1=2) then((X5r u4.2.2.2.2.1 x1.2.1).bind fun u11=>if(u11.2≠0) then(none) else
(X6l u4 x1.2.1 true).bind fun u12=>some (u12.1,u12.2)) else
 if(x1.1=3) then(none) else
 if(x1.1=4) then(none) else
 if(x1.1=5) then((X88 u4 x1.2.1).bind fun u13=>X8w u13.2 u13.1.1.1 u13.1.1.2.1 u13.1.1.2.2.1 u13.1.1.2.2.2 u13.1.2.1 u13.1.2.2.1 u13.1.2.2.2.1 u13.1.2.2.2.2.1 u13.1.2.2.2.2.2.1 u13.1.2.2.2.2.2.2.1.1 u13.1.2.2.2.2.2.2.1.2.1 u13.1.2.2.2.2.2.2.1.2.2 u13.1.2.2.2.2.2.2.2.1.1 u13.1.2.2.2.2.2.2.2.1.2 u13.1.2.2.2.2.2.2.2.2.1 u13.1.2.2.2.2.2.2.2.2.2) else
 none
def Xi(rec10:Az)(z11:Int)(z12:An)(z13:Bp)(z14:Bq)(z15:Bg)(z16:Bx)(z17:Bj)(z18:An)(z19 z20:Ab)(z21:Aj)(v22 v23 v24 v25 v26 v27 v28 v29 v30 v31 v32 v33 v34:Int):As:=
 if(0<v22) then((X21 ((v29,v30,v31,v32),z12,z13,z14,z15,z16,(v33,v34,z17),(z18,z19),z20,z21) (5,v22,([]:List Int),(0,0,0,([]:List (Int×(List Int)))))).bind fun u35=>rec10 (w64 (z11+1)) v23 v24 v25 v26 v27 v28 u35.1.1.1 u35.1.1.2.1 u35.1.1.2.2.1 u35.1.1.2.2.2 u35.1.2.1 u35.1.2.2.1 u35.1.2.2.2.1 u35.1.2.2.2.2.1 u35.1.2.2.2.2.2.1 u35.1.2.2.2.2.2.2.1.1 u35.1.2.2.2.2.2.2.1.2.1 u35.1.2.2.2.2.2.2.1.2.2 u35.1.2.2.2.2.2.2.2.1.1 u35.1.2.2.2.2.2.2.2.1.2 u35.1.2.2.2.2.2.2.2.2.1 u35.1.2.2.2.2.2.2.2.2.2) else
 if(0<(z15.length:Int)) then((X21 ((v29,v30,v31,v32),z12,z13,z14,z15,z16,(v33,v34,z17),(z18,z19),z20,z21) (2,0,([]:List Int),(0,0,0,([]:List (Int×(List Int)))))).bind fun u36=>rec10 (w64 (z11+1)) v23 v24 v25 v26 v27 v28 u36.1.1.1 u36.1.1.2.1 u36.1.1.2.2.1 u36.1.1.2.2.2 u36.1.2.1 u36.1.2.2.1 u36.1.2.2.2.1 u36.1.2.2.2.2.1 u36.1.2.2.2.2.2.1 u36.1.2.2.2.2.2.2.1.1 u36.1.2.2.2.2.2.2.1.2.1 u36.1.2.2.2.2.2.2.1.2.2 u36.1.2.2.2.2.2.2.2.1.1 u36.1.2.2.2.2.2.2.2.1.2 u36.1.2.2.2.2.2.2.2.2.1 u36.1.2.2.2.2.2.2.2.2.2) else
 some (((v29,v30,v31,v32),z12,z13,z14,z15,z16,(v33,v34,z17),(z18,z19),z20,z21),z11)
def Xr(kx10:Am)(z11 z12 z13 z14 z15 z16 z17 z18 z19 z20:Int)(z21:Bq)(z22 z23:Int)(rec24:Ef)(v25 v26:Int):As:=
 if(v26<(z21.length:Int)) then((if(v25=0) then((lidx z21 v26).bind fun u27=>some u27.2.2.1) else some false).bind fun u28=>(if(u28=true) then((lidx z21 v26).bind fun u29=>some (decide (0<(u29.2.2.2.2.length:Int)))) else some false).bind fun u30=>if(u30=true) then(rec24 (w64 (v26+1)) (w64 (v26+1))) else
 rec24 v25 (w64 (v26+1))) else
 kx10 v25 z11 z12 z13 z14 z15 z16 z17 z18 z19 z20 z22 z23
def Xf(kx10:Am)(z11 z12 z13 z14 z15 z16 z17 z18 z19 z20:Int)(z21:Bq)(z22 z23:Int):Nat→Ef
 |0,_,_=>none
 |n+1,v24,v25=>Xr kx10 z11 z12 z13 z14 z15 z16 z17 z18 z19 z20 z21 z22 z23 (Xf kx10 z11 z12 z13 z14 z15 z16 z17 z18 z19 z20 z21 z22 z23 n) v24 v25
def X2t(z10:Int)(rec11:Az)(v12 v13 v14 v15 v16 v17 v18 v19 v20 v21 v22:Int)(v23:An)(v24:Bp)(v25:Bq)(v26:Bg)(v27:Bx)(v28 v29:Int)(v30:Bj)(v31:An)(v32 v33:Ab)(v34:Aj):As:=
 if(v12<z10) then(Xf (Xi rec11 v12 v23 v24 v25 v26 v27 v30 v31 v32 v33 v34) v13 v14 v15 v16 v17 v18 v19 v20 v21 v22 v25 v28 v29 big 0 0) else
 none
def X8(z10:Int):Nat→Az
 |0,_,_,_,_,_,_,_,_,_,_,_,_,_,_,_,_,_,_,_,_,_,_,_=>none
 |n+1,v11,v12,v13,v14,v15,v16,v17,v18,v19,v20,v21,v22,v23,v24,v25,v26,v27,v28,v29,v30,v31,v32,v33=>X2t z10 (X8 z10 n) v11 v12 v13 v14 v15 v16 v17 v18 v19 v20 v21 v22 v23 v24 v25 v26 v27 v28 v29 v30 v31 v32 v33
def X95(x0:Aa)(x1:Int):As:=
 X8 x1 big 0 0 0 0 0 0 0 x0.1.1 x0.1.2.1 x0.1.2.2.1 x0.1.2.2.2 x0.2.1 x0.2.2.1 x0.2.2.2.1 x0.2.2.2.2.1 x0.2.2.2.2.2.1 x0.2.2.2.2.2.2.1.1 x0.2.2.2.2.2.2.1.2.1 x0.2.2.2.2.2.2.1.2.2 x0.2.2.2.2.2.2.2.1.1 x0.2.2.2.2.2.2.2.1.2 x0.2.2.2.2.2.2.2.2.1 x0.2.2.2.2.2.2.2.2.2
def X3b(x0:Ab):Au:=
 (Xas).bind fun u1=>if((!u1)=true) then(none) else
(Xbi x0).bind fun u8=>(X49 u8 1).bind fun u16=>(X5n u16.1.2.2.1).bind fun u58=>(X4v u16.2 (u58.1.2.2.2.length:Int)).bind fun u66=>(X21 u16.1 (1,0,u66.1,(0,0,0,([]:List (Int×(List Int)))))).bind fun u83=>(X5i u83.1.1 u58.1.2.1 (u58.1.2.2.2.length:Int) (u66.1.length:Int)).bind fun u10=>(X95 u83.1 5000).bind fun u11=>(if(((u83.2≠0)∨(u10.2≠0))∨(u83.1.2.2.2.2.2.2.1.2.1≠u10.1)) then(some true) else(X40 u83.1.1 (u66.1.length:Int)).bind fun u12=>some (decide ((w64 ((u83.1.2.2.2.2.1.length:Int)*2))≠u12))).bind fun u13=>if(u13=true) then(none) else
(X77 u83.1.1 u58.1.2.2.1 (u66.1.length:Int)).bind fun u14=>some (decide ((u11.2=u14)∧((u11.1.2.2.2.2.1.length:Int)=0)))
end Go.Proofs.YtnfalgmfmiolbaaGreat
end

section
namespace Go.Proofs.YtnfalgmfmiolbaaGreat
open Go.RowKit
section
variable{P:Program}{c:Cx}{R:Value→World→Prop}{nt:Nat}{w0:World}{S0:List Nat}{df:List Deferred}{ρ ρ':Env}{Fs Fs' Fin B:List Hp}{bl bl':Blks}{sl sl':List OwnS}
 {K K':Act→World→Prop} {k:List Item} {ty:TypeId} {G:Hp} {α:Type}
theorem QOp.cap{t el:TypeId}{x:Operand}{a:Option Addr}{n m:Nat}(hx:ev ρ x=some (.slice a n m))(ht:slOf P t=some el):QOp P ρ Fs bl sl (.call ⟨.builtin .cap,#[x],#[t]⟩) ty (.int .i64 m):= .of fun e he w _=>by
 refine X6o (X89 ?_)
 have hu:=X5x ht
 simp [Builtin.cap_,he x _ hx,run_underlying hu,goInt]
end
end Go.Proofs.YtnfalgmfmiolbaaGreat
end

section
namespace Go.Proofs.YtnfalgmfmiolbaaGreat
open Go.RowKit
def YieldsX(P:Program)(y:Value)(V:Nat→List Value→Prop)(Fs:List Hp)(𝒢 :Nat→Guest→Prop)(ℰ :Guest→Prop):Prop:=
 ∃l,y= .func (.yield l) #[] #[]∧∀(i:Nat)(v:List Value),V i v→∀R, 𝒢 i R→∀w,(∀G∈Fs,HpIn G w)→R.holds w→
  ∃f tmps as1 body,(Instr.yield l v.toArray).run P w= .ok (.round l f tmps as1 body) w∧
   RoundV P l f tmps as1 body w fun r w'=>∃R',((r= .bool true∧ 𝒢 (i+1) R')∨(r= .bool false∧ ℰ R'))∧R'.holds w'∧Keep w R.blks w'∧∀b∈R'.blks,b∈R.blks∨w.heap.size≤b
def IterX(P:Program)(f:FuncId)(cap:List Value)(Fs:List Hp)(N:Nat)(V:Nat→List Value→Prop):Prop:=
 ∀(y:Value)(𝒢 :Nat→Guest→Prop)(ℰ :Guest→Prop)(R0:Guest),YieldsX P y V Fs 𝒢 ℰ → 𝒢 0 R0→RetG P f (y::cap).toArray Fs [] [.g R0] fun _ _ bl sl=>bl=[]∧∃R,(𝒢 N R∨ ℰ R)∧sl=[.g R]
def IterRX(P:Program){α:Type}(Y:Yr α)(f:FuncId)(cap:List Value)(G:Hp)(l:List α):Prop:=
 ∀Fs G1,HpLe G G1→G1∈Fs→IterX P f cap Fs l.length (fun i v=>∃x,l[i]?=some x∧Y.r G1 v x)
theorem IterRX.mono{P:Program}{α:Type}{Y:Yr α}{f:FuncId}{cap:List Value}{G G':Hp}{l:List α}(hg:HpLe G G')(h:IterRX P Y f cap G l):IterRX P Y f cap G' l:=fun Fs G1 h1 h2=>h Fs G1 (hg.trans h1) h2
end Go.Proofs.YtnfalgmfmiolbaaGreat
end

section
namespace Go.Proofs.YtnfalgmfmiolbaaGreat
open Go.RowKit
def VA(a:Option Addr)(b:Option Nat)(n k:Nat)(pre cs:List Value):Prop:=n≤k∧(cs≠[]→∃g,b=some g∧a=some ⟨g,pre.length,none⟩)
theorem Xe2{sz:Nat}:∀{xs:List (List Value)},(∀x∈xs,x.length=sz)→xs.flatten.length=xs.length*sz
 | [],_=>by simp
 |x::xs,h=>by simp only [List.flatten_cons,List.length_append,List.length_cons,Nat.add_mul];rw[h x List.mem_cons_self,Xe2 fun y hy=>h y (List.mem_cons_of_mem _ hy)];omega
theorem OL.clen{α:Type}{Q:Rep α}{G:Hp}{cs:List Value}{l:List α}(h:OL Q G cs l):cs.length=l.length*Q.sz:=by
 obtain⟨_,xs,rfl,h3,h4⟩:=h
 rw[Xe2 h3,h4.1]
theorem VA.len{a:Option Addr}{b:Option Nat}{n n' k:Nat}{pre cs cs':List Value}(h:VA a b n k pre cs)(hn:n'=n)(hc:cs'.length=cs.length):VA a b n' k pre cs':=
 ⟨hn▸h.1,fun hne=>h.2 fun e=>hne (by rw[e] at hc;exact List.eq_nil_of_length_eq_zero hc)⟩
theorem VA.call{α:Type}{Q:Rep α}{G G':Hp}{a:Option Addr}{b:Option Nat}{k:Nat}{pre cs cs':List Value}{l l':List α}(h:VA a b l.length k pre cs)(ho:OL Q G cs l)(ho':OL Q G' cs' l')(hl:l'.length=l.length):VA a b l'.length k pre cs':=
 h.len hl (by rw[ho.clen,ho'.clen,hl])
def Rd(s:OwnS)(G:Hp):Prop:=∃w,s.holds w∧∀b∈s.blocks,G b=w.heap[b]?
def Rep.flat{α:Type}(Q:Rep α):Prop:=∀(G G':Hp)(c:List Value)(x:α),Q.r G c x→Q.r G' c x
theorem Rep.flat_int(k:IntKind):(Rep.int k).flat:=fun _ _ _ _ h=>h
theorem OL.flat{α:Type}{Q:Rep α}(hf:Q.flat){G G':Hp}{cs:List Value}{l:List α}(h:OL Q G' cs l):OL Q G cs l:=by
 obtain⟨hb,xs,h1,h3,h4,h5⟩:=h
 exact⟨hb,xs,h1,h3,h4,fun i c x hc hx=>hf _ _ _ _ (h5 i c x hc hx)⟩
section
variable{P:Program}{c:Cx}{R:Value→World→Prop}{nt:Nat}{w0:World}{S0:List Nat}{df:List Deferred}{ρ ρ':Env}{Fs Fs' Fin B:List Hp}{bl bl':Blks}{sl sl':List OwnS}
 {K K':Act→World→Prop} {k:List Item} {ty:TypeId} {α:Type} {G:Hp}
theorem SlR.rd{Q:Rep α}{G':Hp}{a:Option Addr}{m T sz:Nat}{l:List α}{cs:List Value}(ho:OL Q G cs l)(hn:sz=Q.sz)(hle:HpLe G G')(h:Rd (.s (.slice a l.length m) T sz l.length cs) G'):SlR Q G' a m l:=by
 obtain⟨w,hh,hb⟩:=h
 have hown:w.ownsRow 0 T sz (.slice a l.length m) l.length cs:=hh
 have hlb:=ho.1
 obtain⟨_,xs,rfl,h3,h4⟩:=ho
 have e1:xs.length=l.length:=h4.1
 refine⟨by omega,xs,⟨a,m,by rw[e1],?_,fun x hx=>h3 x hx,fun hne=>?_⟩,h4.mono hle⟩
 ·rw[e1]
  rcases hown.2 with ⟨hv,h0⟩ | ⟨g,cap,cur,hv,_,hg,hnc,hm2,hcs,htk⟩
  ·simp only [Value.slice.injEq] at hv;omega
  ·simp only [Value.slice.injEq] at hv;omega
 ·rcases hown.2 with ⟨hv,h0⟩ | ⟨g,cap,cur,hv,_,hg,hnc,hm2,hcs,htk⟩
  ·rw[h0] at e1;exact absurd (List.eq_nil_of_length_eq_zero e1) hne
  ·cases hv
   refine⟨g,0,rfl,fun i x hx j v hj=>?_⟩
   have:=hb g (by simp [OwnS.blocks,Value.ownBlock])
   unfold rcell
   rw[this,hg]
   have hfl:=X2y xs i x j v h3 hx hj
   have hlt:i*Q.sz+j<l.length*Q.sz:=by
    have hi:i<xs.length:=(List.getElem?_eq_some_iff.1 hx).1
    have hj':j<Q.sz:=by rw[← h3 x (List.mem_of_getElem? hx)];exact(List.getElem?_eq_some_iff.1 hj).1
    have:(i+1)*Q.sz≤l.length*Q.sz:=Nat.mul_le_mul_right _ (by omega)
    rw[Nat.add_mul] at this
    omega
   rw[← htk,hn,List.getElem?_take_of_lt hlt] at hfl
   simpa using hfl
theorem RetW.flat{f:FuncId}{args:Array Value}{bin:Blks}{sin:List OwnS}{Q:Value→Blks→List OwnS→Hp→Prop}(h:RetW P f args Fs bin sin Q):RetG P f args Fs bin sin fun v _ bo so=>∃G2,Q v bo so G2:=
 fun w h1 h2 h3 h4 h5=>(h w h1 h2 h3 h4 h5).mono fun _ w' ⟨Fr,bo,so,a,b,d⟩=>⟨Fr,bo,so,a,b,whole w',d _ fun F hF x o hx=>b.mem.fs F hF x o hx⟩
theorem Inv.lendB{w:World}{s1 sB s2:List OwnS}(hi:Inv w0 S0 (G::B) bl (s1++(sB++s2)) w):∃G',HpLe G G'∧(∀s∈sB,Rd s G')∧Inv w0 S0 (G'::G::B) bl (s1++s2) w∧(∀Fin,Bd w0 S0 Fin G→Bd w0 S0 Fin G')∧
  ∀w' Fs2 bo so,Inv w0 S0 (Fs2++G'::G::B) bo (so++s2) w'→Inv w0 S0 (G::B) bo (so++(sB++s2)) w':=by
 classical
 let G':Hp:=fun b=>if b∈sB.flatMap OwnS.blocks then w.heap[b]? else G b
 have hblk:∀b,b∈blks bl (s1++(sB++s2))↔b∈blks bl (s1++s2)∨b∈sB.flatMap OwnS.blocks:=fun b=>by
  simp only [blks,List.flatMap_append,List.mem_append]
  constructor
  ·rintro(h |h |h |h)<;>simp [h]
  ·rintro((h |h |h) |h)<;>simp [h]
 have hperm:(blks bl (s1++(sB++s2))).Perm (sB.flatMap OwnS.blocks++blks bl (s1++s2)):=by
  simp only [blks,List.flatMap_append]
  have e1:(s1.flatMap OwnS.blocks++(sB.flatMap OwnS.blocks++s2.flatMap OwnS.blocks)).Perm (sB.flatMap OwnS.blocks++(s1.flatMap OwnS.blocks++s2.flatMap OwnS.blocks)):=by
   rw[← List.append_assoc, ← List.append_assoc];exact List.perm_append_comm.append_right _
  exact(e1.append_left _).trans (List.perm_append_comm_assoc _ _ _)
 have hnd:=List.nodup_append.1 (hperm.nodup_iff.1 hi.nodup)
 have hmine:∀b∈sB.flatMap OwnS.blocks,b∈blks bl (s1++(sB++s2)):=fun b hb=>(hblk b).2 (.inr hb)
 have hapG:∀b∈sB.flatMap OwnS.blocks,∀F∈G::B,F b=none:=fun b hb F hF=>hi.apart b (hmine b hb) F hF
 have hle:HpLe G G':=fun b o hb=>by
  show(if _ then _ else _)=_
  rw[if_neg fun h=>by rw[hapG b h G List.mem_cons_self] at hb;cases hb];exact hb
 have hG'w:HpIn G' w:=fun b o hb=>by
  have hb':(if b∈sB.flatMap OwnS.blocks then w.heap[b]? else G b)=some o:=hb
  split at hb'
  ·exact hb'
  ·exact hi.mem.fs G List.mem_cons_self b o hb'
 have hval:∀b∈sB.flatMap OwnS.blocks,G' b=w.heap[b]?:=fun b hb=>by show(if _ then _ else _)=_;rw[if_pos hb]
 have hhold:∀s∈sB,s.holds w:=fun s hs=>hi.mem.slh s (List.mem_append_right _ (List.mem_append_left _ hs))
 refine⟨G',hle,fun s hs=>⟨w,hhold s hs,fun b hb=>hval b (List.mem_flatMap.2 ⟨s,hs,hb⟩)⟩,?_,fun Fin hbd b o hb=>?_,?_⟩
 ·refine hi.change [] (by simp) (Keep.refl w []) (fun F hF=>?_) hi.mem.own (fun s hs=>hi.mem.slh s ?_) hnd.2.1 (fun b hb=> .inl ((hblk b).2 (.inl hb)))
  ·rcases List.mem_cons.1 hF with rfl |hF
   ·refine .inr ⟨hG'w,fun b hb=>?_⟩
    have hn:b ∉ sB.flatMap OwnS.blocks:=fun h=>hnd.2.2 b h b hb rfl
    show(if _ then _ else _)=_
    rw[if_neg hn]
    exact hi.apart b ((hblk b).2 (.inl hb)) G List.mem_cons_self
   ·exact .inl hF
  ·rcases List.mem_append.1 hs with h |h
   ·exact List.mem_append_left _ h
   ·exact List.mem_append_right _ (List.mem_append_right _ h)
 ·by_cases hm:b∈sB.flatMap OwnS.blocks
  ·rcases hi.mine b (hmine b hm) with h |h
   ·exact .inr (.inl h)
   ·exact .inl h
  ·refine hbd b o ?_
   have hb':(if b∈sB.flatMap OwnS.blocks then w.heap[b]? else G b)=some o:=hb
   rwa [if_neg hm] at hb'
 ·intro w' Fs2 bo so hi'
  have hG'm:G'∈Fs2++G'::G::B:=List.mem_append_right _ List.mem_cons_self
  have hblk':∀b,b∈blks bo (so++(sB++s2))↔b∈blks bo (so++s2)∨b∈sB.flatMap OwnS.blocks:=fun b=>by
   simp only [blks,List.flatMap_append,List.mem_append]
   constructor
   ·rintro(h |h |h |h)<;>simp [h]
   ·rintro((h |h |h) |h)<;>simp [h]
  have hperm':(blks bo (so++(sB++s2))).Perm (sB.flatMap OwnS.blocks++blks bo (so++s2)):=by
   simp only [blks,List.flatMap_append]
   have e1:(so.flatMap OwnS.blocks++(sB.flatMap OwnS.blocks++s2.flatMap OwnS.blocks)).Perm (sB.flatMap OwnS.blocks++(so.flatMap OwnS.blocks++s2.flatMap OwnS.blocks)):=by
    rw[← List.append_assoc, ← List.append_assoc];exact List.perm_append_comm.append_right _
   exact(e1.append_left _).trans (List.perm_append_comm_assoc _ _ _)
  have hlt:∀b∈sB.flatMap OwnS.blocks,∃o,w.heap[b]?=some o:=fun b hb=>by
   obtain⟨s,hs,hb⟩:=List.mem_flatMap.1 hb
   exact⟨_,Array.getElem?_eq_getElem (OwnS.lt (hhold s hs) b hb)⟩
  have hsame:∀b∈sB.flatMap OwnS.blocks,w'.heap[b]?=w.heap[b]?:=fun b hb=>by
   obtain⟨o,ho⟩:=hlt b hb
   rw[ho];exact hi'.mem.fs G' hG'm b o (by rw[hval b hb];exact ho)
  refine⟨⟨fun F hF=>hi'.mem.fs F (List.mem_append_right _ (List.mem_cons_of_mem _ hF)),hi'.mem.own,fun s hs=>?_⟩,hi'.keep,?_,fun b hb=>?_,fun b hb F hF=>?_⟩
  ·rcases List.mem_append.1 hs with h |h
   ·exact hi'.mem.slh s (List.mem_append_left _ h)
   ·rcases List.mem_append.1 h with h |h
    ·exact OwnS.same (hhold s h) fun b hb=>hsame b (List.mem_flatMap.2 ⟨s,h,hb⟩)
    ·exact hi'.mem.slh s (List.mem_append_right _ h)
  ·rw[hperm'.nodup_iff,List.nodup_append]
   refine⟨hnd.1,hi'.nodup,fun a ha b hb e=>?_⟩
   subst e
   have h1:=hi'.apart a hb G' hG'm
   obtain⟨o,ho⟩:=hlt a ha
   rw[hval a ha,ho] at h1
   cases h1
  ·rcases(hblk' b).1 hb with h |h
   ·exact hi'.mine b h
   ·exact hi.mine b (hmine b h)
  ·rcases(hblk' b).1 hb with h |h
   ·exact hi'.apart b h F (List.mem_append_right _ (List.mem_cons_of_mem _ hF))
   ·exact hapG b h F hF
theorem Cov.callB{b1 b2:Blks}{s1 sB s2:List OwnS}(vs cap:List Value){d:Nat}{f:FuncId}{fop:Operand}{args:Array Operand}{ts:Array TypeId}{Q:Value→Blks→List OwnS→Prop}(hs:Stp P K' ⟨some d, .call ⟨.value fop,args,ts⟩,ty,none⟩ K)
  (hf:ev ρ fop=some (.func (.func f) #[] cap.toArray)) (ha:args.toList.map (ev ρ)=vs.map some) (hcall:∀args w,(callFunc f args).run P w= .ok (.enter f args) w) (hbl:bl=b1++b2) (hsl:sl=s1++(sB++s2))
  (hr:∀Fs' G',HpLe G G'→(∀s∈sB,Rd s G')→G'∈Fs'→RetG P f (vs++cap).toArray Fs' b1 s1 (fun v _ bo so=>Q v bo so)) (hd:Nat.blt d nt=true)
  (hk:∀v bo so,Q v bo so→Cov nt w0 S0 df ((d,v)::ρ) (G::B) (bo++b2) (so++(sB++s2)) K):Cov nt w0 S0 df ρ (G::B) bl sl K':=fun a w hfi hi=>by
 subst hsl
 obtain⟨G',hle,hrd,hi2,_,hback⟩:=hi.lendB
 exact Cov.callg vs cap hs hf ha hcall hbl rfl (hr (G'::G::B) G' hle hrd List.mem_cons_self) hd (fun v Fr bo so _ hq a' w' hf' hi'=>hk v bo so hq a' w' hf' (hback w' [Fr] _ _ hi')) a w hfi hi2
end
end Go.Proofs.YtnfalgmfmiolbaaGreat
end

section
namespace Go.Proofs.YtnfalgmfmiolbaaGreat
open Go.RowKit
structure NE where
 a:Option Addr
 n:Nat
 k:Nat
 cs:List Value
def NE.nil:NE:=⟨none,0,0,[]⟩
def NE.h(e:NE):Option Addr×Nat×Nat:=(e.a,e.n,e.k)
def NE.s(T:TypeId)(m:Nat)(e:NE):OwnS:= .s (.slice e.a e.n e.k) T m e.n e.cs
def nblks(T:TypeId)(m:Nat)(es:List NE):List Nat:=es.flatMap fun e=>(e.s T m).blocks
def packG(T:TypeId)(m:Nat)(es:List NE):Guest where
 blks:=if(nblks T m es).Nodup then nblks T m es else []
 nodup:=by split;assumption;simp
 holds w:=(nblks T m es).Nodup∧∀e∈es,(e.s T m).holds w
 lt w h b hb:=by
  rw[if_pos h.1] at hb
  obtain⟨e,he,hb⟩:=List.mem_flatMap.1 hb
  exact OwnS.lt (h.2 e he) b hb
 same w w' h hs:=⟨h.1,fun e he=>OwnS.same (h.2 e he) fun b hb=>hs b (by rw[if_pos h.1];exact List.mem_flatMap.2 ⟨e,he,hb⟩)⟩
def Rep.hdr:Rep (Option Addr×Nat×Nat) where
 sz:=1
 r _ c x:=c=[.slice x.1 x.2.1 x.2.2]
 len h:=by rw[h];rfl
 mono _ h:=h
 one h:=by rw[h];rfl
def NL{α:Type}(Q:Rep α)(G:Hp)(es:List NE)(cs:List Value)(x:List (List α)):Prop:=
 OL Rep.hdr G cs (es.map NE.h)∧es.length=x.length∧∀(i:Nat)(e:NE)(y:List α),es[i]?=some e→x[i]?=some y→e.n=y.length∧OL Q G e.cs y
theorem NL.mono{α:Type}{Q:Rep α}{G G':Hp}{es:List NE}{cs:List Value}{x:List (List α)}(hg:HpLe G G')(h:NL Q G es cs x):NL Q G' es cs x:=
 ⟨h.1.mono hg,h.2.1,fun i e y h1 h2=>⟨(h.2.2 i e y h1 h2).1,(h.2.2 i e y h1 h2).2.mono hg⟩⟩
theorem Rep.flat_hdr:Rep.hdr.flat:=fun _ _ _ _ h=>h
theorem NL.flat{α:Type}{Q:Rep α}(hf:Q.flat){G G':Hp}{es:List NE}{cs:List Value}{x:List (List α)}(h:NL Q G' es cs x):NL Q G es cs x:=
 ⟨OL.flat Rep.flat_hdr h.1,h.2.1,fun i e y h1 h2=>⟨(h.2.2 i e y h1 h2).1,OL.flat hf (h.2.2 i e y h1 h2).2⟩⟩
theorem NL.len'{α:Type}{Q:Rep α}{G:Hp}{es:List NE}{cs:List Value}{x:List (List α)}(h:NL Q G es cs x):x.length≤9223372036854775807:=by
 have:=h.1.len';rw[List.length_map,h.2.1] at this;exact this
theorem NL.get{α:Type}{Q:Rep α}{G:Hp}{es:List NE}{cs:List Value}{x:List (List α)}(h:NL Q G es cs x){i:Int}{y:List α}(hx:lidx x i=some y):
  ∃e,es[i.toNat]?=some e∧e.n=y.length∧OL Q G e.cs y∧Elem 1 cs i.toNat [.slice e.a y.length e.k]:=by
 obtain⟨h3,h4,h5⟩:=X5y hx
 have hlt:i.toNat<es.length:=by rw[h.2.1];omega
 have he:es[i.toNat]?=some es[i.toNat]:=List.getElem?_eq_getElem hlt
 obtain⟨hn,ho⟩:=h.2.2 _ _ _ he h5
 refine⟨es[i.toNat],he,hn,ho,?_⟩
 obtain⟨c,hc1,hc2⟩:=h.1.get (i:=i) (x:=es[i.toNat].h) (by
  unfold lidx
  rw[if_pos h3,List.getElem?_map,he];rfl)
 have:c=[.slice es[i.toNat].a es[i.toNat].n es[i.toNat].k]:=hc2
 rw[this,hn] at hc1
 exact hc1
section
variable{P:Program}{c:Cx}{R:Value→World→Prop}{nt:Nat}{w0:World}{S0:List Nat}{df:List Deferred}{ρ ρ':Env}{Fs Fs' Fin B:List Hp}{bl bl':Blks}{sl sl':List OwnS}
 {K K':Act→World→Prop} {k:List Item} {ty:TypeId} {α:Type} {G:Hp}
theorem Xjv(T:TypeId)(m:Nat):(NE.nil.s T m).blocks=[]:=rfl
theorem Xf5(w:World)(T:TypeId)(m:Nat):(NE.nil.s T m).holds w:=World.ownsRow_nil w 0 T m
theorem Xcs(T:TypeId)(m:Nat):∀(es:List NE)(i:Nat)(e e':NE),es[i]?=some e→((nblks T m (es.set i e'))++(e.s T m).blocks).Perm ((e'.s T m).blocks++nblks T m es)
 | [],i,e,e',h=>by simp at h
 |x::es,0,e,e',h=>by
  simp at h;subst h
  simp only [List.set_cons_zero,nblks,List.flatMap_cons]
  rw[List.append_assoc]
  exact List.Perm.append_left _ List.perm_append_comm
 |x::es,i+1,e,e',h=>by
  have ih:=Xcs T m es i e e' (by simpa using h)
  simp only [List.set_cons_succ,nblks,List.flatMap_cons] at ih ⊢
  rw[List.append_assoc]
  exact(ih.append_left _).trans (List.perm_append_comm_assoc _ _ _)
theorem Cov.takeN(q:Nat){T:TypeId}{m:Nat}{es:List NE}{i:Nat}{e:NE}{n:Nat}(hs:sl[q]?=some (.g (packG T m es)))(he:es[i]?=some e)(hn:e.n=n)
  (h:Cov nt w0 S0 df ρ Fs bl (.s (.slice e.a n e.k) T m n e.cs::sl.set q (.g (packG T m (es.set i NE.nil)))) K):Cov nt w0 S0 df ρ Fs bl sl K:=fun aa w hf hi=>by
 subst hn
 have hh:(packG T m es).holds w:=hi.mem.slh _ (List.mem_of_getElem? hs)
 have hp:=Xcs T m es i e NE.nil he
 rw[Xjv,List.nil_append] at hp
 have hnd:=hp.nodup_iff.2 hh.1
 have hnd2:=List.nodup_append.1 hnd
 have hb1:(packG T m es).blks=nblks T m es:=if_pos hh.1
 have hb2:(packG T m (es.set i NE.nil)).blks=nblks T m (es.set i NE.nil):=if_pos hnd2.1
 have hp1:(blks bl sl).Perm ((packG T m es).blks++blks bl (sl.eraseIdx q)):=by
  have h1:=((X6p sl q _ hs).flatMap_right OwnS.blocks).append_left (bl.map (·.1))
  refine h1.trans ?_
  simp only [List.flatMap_cons,blks]
  exact List.perm_append_comm_assoc _ _ _
 have hp2:(blks bl (.s (.slice e.a e.n e.k) T m e.n e.cs::sl.set q (.g (packG T m (es.set i NE.nil))))).Perm (blks bl sl):=by
  refine List.Perm.trans ?_ hp1.symm
  simp only [blks,List.flatMap_cons]
  have h1:=(X7n OwnS.blocks sl q _ (.g (packG T m (es.set i NE.nil))) hs).append_left ((e.s T m).blocks)
  have h2:((e.s T m).blocks++(OwnS.blocks (.g (packG T m (es.set i NE.nil)))++(sl.eraseIdx q).flatMap OwnS.blocks)).Perm ((packG T m es).blks++(sl.eraseIdx q).flatMap OwnS.blocks):=by
   rw[← List.append_assoc]
   refine List.Perm.append_right _ ?_
   show((e.s T m).blocks++(packG T m (es.set i NE.nil)).blks).Perm _
   rw[hb1,hb2]
   exact List.perm_append_comm.trans hp
  exact((h1.trans h2).append_left _).trans (List.perm_append_comm_assoc _ _ _)
 refine h aa w hf (hi.change [] (by simp) (Keep.refl w []) (fun G hG=> .inl hG) hi.mem.own (fun s hs'=>?_) (hp2.nodup_iff.2 hi.nodup) (fun b hb=> .inl (hp2.mem_iff.1 hb)))
 rcases List.mem_cons.1 hs' with rfl |hs'
 ·exact hh.2 e (List.mem_of_getElem? he)
 ·obtain⟨j,hj,rfl⟩:=List.getElem_of_mem hs'
  rw[List.getElem_set]
  split
  ·refine⟨hnd2.1,fun x hx=>?_⟩
   rcases List.mem_or_eq_of_mem_set hx with hx |rfl
   ·exact hh.2 x hx
   ·exact Xf5 w T m
  ·exact hi.mem.slh _ (List.getElem_mem (by simpa using hj))
theorem Cov.putN(q:Nat){T:TypeId}{m:Nat}{es:List NE}{i:Nat}{a:Option Addr}{n kk:Nat}{cs:List Value}{s2:List OwnS}(hsl:sl= .s (.slice a n kk) T m n cs::s2)(hs:s2[q]?=some (.g (packG T m es)))(he:es[i]?=some NE.nil)
  (h:Cov nt w0 S0 df ρ Fs bl (s2.set q (.g (packG T m (es.set i ⟨a,n,kk,cs⟩)))) K):Cov nt w0 S0 df ρ Fs bl sl K:=fun aa w hf hi=>by
 subst hsl
 have hh:(packG T m es).holds w:=hi.mem.slh _ (List.mem_cons_of_mem _ (List.mem_of_getElem? hs))
 have ho:(OwnS.s (.slice a n kk) T m n cs).holds w:=hi.mem.slh _ List.mem_cons_self
 have hp:=Xcs T m es i NE.nil ⟨a,n,kk,cs⟩ he
 rw[Xjv,List.append_nil] at hp
 have hb1:(packG T m es).blks=nblks T m es:=if_pos hh.1
 have hq:(blks bl (.s (.slice a n kk) T m n cs::s2)).Perm (nblks T m (es.set i ⟨a,n,kk,cs⟩)++blks bl (s2.eraseIdx q)):=by
  simp only [blks,List.flatMap_cons]
  have h1:=((X6p s2 q _ hs).flatMap_right OwnS.blocks).append_left ((OwnS.s (.slice a n kk) T m n cs).blocks)
  simp only [List.flatMap_cons] at h1
  rw[← List.append_assoc (OwnS.blocks _) (OwnS.blocks (.g (packG T m es)))] at h1
  have h2:((OwnS.s (.slice a n kk) T m n cs).blocks++OwnS.blocks (.g (packG T m es))).Perm (nblks T m (es.set i ⟨a,n,kk,cs⟩)):=by
   show(_++(packG T m es).blks).Perm _
   rw[hb1];exact hp.symm
  exact((h1.trans (h2.append_right _)).append_left _).trans (List.perm_append_comm_assoc _ _ _)
 have hnd:=hq.nodup_iff.1 hi.nodup
 have hnd1:=(List.nodup_append.1 hnd).1
 have hb2:(packG T m (es.set i ⟨a,n,kk,cs⟩)).blks=nblks T m (es.set i ⟨a,n,kk,cs⟩):=if_pos hnd1
 have hp2:(blks bl (s2.set q (.g (packG T m (es.set i ⟨a,n,kk,cs⟩))))).Perm (blks bl (.s (.slice a n kk) T m n cs::s2)):=by
  refine List.Perm.trans ?_ hq.symm
  simp only [blks]
  have h1:=(X7n OwnS.blocks s2 q _ (.g (packG T m (es.set i ⟨a,n,kk,cs⟩))) hs)
  have h2:OwnS.blocks (.g (packG T m (es.set i ⟨a,n,kk,cs⟩)))=nblks T m (es.set i ⟨a,n,kk,cs⟩):=hb2
  rw[h2] at h1
  exact(h1.append_left _).trans (List.perm_append_comm_assoc _ _ _)
 refine h aa w hf (hi.change [] (by simp) (Keep.refl w []) (fun G hG=> .inl hG) hi.mem.own (fun s hs'=>?_) (hp2.nodup_iff.2 hi.nodup) (fun b hb=> .inl (hp2.mem_iff.1 hb)))
 obtain⟨j,hj,rfl⟩:=List.getElem_of_mem hs'
 rw[List.getElem_set]
 split
 ·refine⟨hnd1,fun x hx=>?_⟩
  rcases List.mem_or_eq_of_mem_set hx with hx |rfl
  ·exact hh.2 x hx
  ·exact ho
 ·exact hi.mem.slh _ (List.mem_cons_of_mem _ (List.getElem_mem (by simpa using hj)))
theorem Xf6(T:TypeId)(m:Nat):∀n,nblks T m (List.replicate n NE.nil)=[]
 |0=>rfl
 |n+1=>by
  have:=Xf6 T m n
  unfold nblks at this ⊢
  rw[List.replicate_succ,List.flatMap_cons,Xjv,List.nil_append];exact this
theorem Cov.pack0(T:TypeId)(m n:Nat)(h:Cov nt w0 S0 df ρ Fs bl (.g (packG T m (List.replicate n NE.nil))::sl) K):Cov nt w0 S0 df ρ Fs bl sl K:=fun aa w hf hi=>by
 have hb0:=Xf6 T m n
 have hb:blks bl (.g (packG T m (List.replicate n NE.nil))::sl)=blks bl sl:=by
  have:(packG T m (List.replicate n NE.nil)).blks=[]:=by show(if _ then _ else _)=_;rw[hb0];simp
  simp only [blks,List.flatMap_cons,OwnS.blocks,this,List.nil_append]
 refine h aa w hf (hi.change [] (by simp) (Keep.refl w []) (fun G hG=> .inl hG) hi.mem.own (fun s hs=>?_) (by rw[hb];exact hi.nodup) (fun b hx=> .inl (by rwa [hb] at hx)))
 rcases List.mem_cons.1 hs with rfl |hs
 ·refine⟨by rw[hb0];simp,fun e he=>?_⟩
  rw[(List.mem_replicate.1 he).2];exact Xf5 w T m
 ·exact hi.mem.slh s hs
theorem Cov.makeN{Q:Rep α}(T:TypeId)(m:Nat){d:Nat}{t el:TypeId}{x y:Operand}{n:Int}{agg:Bool}{bytes:Nat}{l:List (List α)}(hs:Stp P K' ⟨some d, .makeSlice t x y,ty,none⟩ K)(ht:slOf P t=some el)(hel:TyI P el agg 1 bytes [.slice none 0 0])
  (hx:ev ρ x=some (.int .i64 n)) (hy:ev ρ y=some (.int .i64 n)) (hl:lmk n ([]:List α)=some l) (hby:Nat.ble bytes 8388608=true) (hd:Nat.blt d nt=true)
  (hk:∀b es cs,w0.heap.size≤b→NL Q G es cs l→Cov nt w0 S0 df ((d, .slice (some ⟨b,0,none⟩) l.length l.length)::ρ) Fs bl (.s (.slice (some ⟨b,0,none⟩) l.length l.length) el 1 l.length cs:: .g (packG T m es)::sl) K):Cov nt w0 S0 df ρ Fs bl sl K':=by
 obtain⟨h0,h1,rfl⟩:=Xge hl
 refine Cov.pack0 T m n.toNat ?_
 refine Cov.makeR (G:=G) (Q:=Rep.hdr) (zx:=(none,0,0)) (l:=List.replicate n.toNat (none,0,0)) hs ht hel rfl rfl rfl rfl hx hy ?_ hby hd fun b cs hb ho=>?_
 ·unfold lmk at hl ⊢
  split at hl
  ·rename_i hh;rw[if_pos hh]
  ·cases hl
 ·have hk':=hk b (List.replicate n.toNat NE.nil) cs hb ⟨by rw[List.map_replicate];exact ho,by simp,fun i e z h1 h2=>by
   rw[List.getElem?_replicate] at h1 h2
   split at h1
   ·rename_i hh;rw[if_pos hh] at h2;cases h1;cases h2;exact⟨rfl,OL.nil⟩
   ·cases h1⟩
  simpa using hk'
theorem NL.set{Q:Rep α}{es:List NE}{cs cs':List Value}{x x':List (List α)}{i:Int}{y:List α}{e:NE}(h:NL Q G es cs x)(hl:lupd x i y=some x')(hn:e.n=y.length)(ho:OL Q G e.cs y)(hc:OL Rep.hdr G cs' ((es.map NE.h).set i.toNat e.h)):NL Q G (es.set i.toNat e) cs' x':=by
 obtain⟨hi0,hil,rfl⟩:=X8c hl
 refine⟨by rw[List.map_set];exact hc,by simp [h.2.1],fun j e' y' h1 h2=>?_⟩
 rw[List.getElem?_set] at h1 h2
 by_cases hij:i.toNat=j
 ·subst hij
  have:=h.2.1
  rw[if_pos rfl,if_pos (by omega)] at h1
  rw[if_pos rfl,if_pos (by omega)] at h2
  cases h1;cases h2
  exact⟨hn,ho⟩
 ·rw[if_neg hij] at h1 h2
  exact h.2.2 j e' y' h1 h2
theorem NL.hole{es:List NE}{i:Nat}{e:NE}(he:es[i]?=some e):(es.set i NE.nil)[i]?=some NE.nil:=by
 rw[List.getElem?_set,if_pos rfl,if_pos (List.getElem?_eq_some_iff.1 he).1]
theorem Cov.storeN(q1 q2:Nat){Q:Rep α}{oa:Option Addr}{om T0 T m:Nat}{x x':List (List α)}{es:List NE}{cs ics:List Value}{i:Int}{y:List α}{a:Option Addr}{kk:Nat}{t:TypeId}{px u:Operand}{p:Value}{agg:Bool}{bytes:Nat}{z:List Value}{s2:List OwnS}{e:NE}(hs:Stp P K' ⟨none, .store t px u,ty,none⟩ K)
  (hsl:sl= .s (.slice a y.length kk) T m y.length ics::s2) (h1:s2[q1]?=some (.s (.slice oa x.length om) T0 1 x.length cs)) (h2:s2[q2]?=some (.g (packG T m (es.set i.toNat NE.nil)))) (hN:NL Q G es cs x) (he:es[i.toNat]?=some e) (ho:OL Q G ics y) (hl:lupd x i y=some x')
  (hx:ev ρ px=some p) (hp:PtrO p oa x.length om i.toNat 1 0) (hu:ev ρ u=some (.slice a y.length kk)) (ht:TyI P t agg 1 bytes z) (hq:(q1 == q2)=false)
  (hk:∀es' cs',x'.length=x.length→NL Q G es' cs' x'→Cov nt w0 S0 df ρ Fs bl ((s2.set q1 (.s (.slice oa x'.length om) T0 1 x'.length cs')).set q2 (.g (packG T m es'))) K):Cov nt w0 S0 df ρ Fs bl sl K':=by
 refine Cov.putN q2 hsl h2 (NL.hole he) ?_
 have hq':q1≠q2:=by simpa using hq
 have e1:x.length=(es.map NE.h).length:=by rw[List.length_map,hN.2.1]
 have hlen:x'.length=x.length:=by obtain⟨_,_,rfl⟩:=X8c hl;simp
 obtain⟨hi0,hil,_⟩:=X8c hl
 have hilt:i.toNat<es.length:=by have:=hN.2.1;omega
 have hel:Elem 1 cs i.toNat [.slice e.a e.n e.k]:=by
  obtain⟨c,hc1,hc2⟩:=hN.1.get (i:=i) (x:=e.h) (by
   unfold lidx
   rw[if_pos hi0,List.getElem?_map,he];rfl)
  have:c=[.slice e.a e.n e.k]:=hc2
  rwa [this] at hc1
 refine Cov.storeR q1 0 (Q:=Rep.hdr) (y:=(a,y.length,kk)) (l:=es.map NE.h) (l':=(es.map NE.h).set i.toNat (a,y.length,kk)) (sz:=1) hs (by rw[List.getElem?_set_ne (Ne.symm hq'),h1,e1]) rfl hN.1 ?_ hx (by rw[← e1];exact hp) hu ht hel ?_ rfl rfl fun cs' hll ho'=>?_
 ·unfold lupd
  rw[if_pos ⟨hi0,by rw[← e1];exact hil⟩]
 ·show _=[_]
  simp [cellsL,Value.cells]
 ·have hN':NL Q G (es.set i.toNat ⟨a,y.length,kk,ics⟩) cs' x':=hN.set hl rfl ho (by simpa [NE.h] using ho')
  have hk':=hk _ cs' hlen hN'
  have e2:((es.map NE.h).set i.toNat (a,y.length,kk)).length=x'.length:=by rw[List.length_set, ← e1,hlen]
  rw[e2]
  rw[List.set_set] at*
  rw[List.set_comm _ _ hq'] at hk'
  exact hk'
theorem Rd.entry{T m:Nat}{es:List NE}{G':Hp}(h:Rd (.g (packG T m es)) G'){e:NE}(he:e∈es):Rd (e.s T m) G':=by
 obtain⟨w,hh,hb⟩:=h
 exact⟨w,hh.2 e he,fun b hbe=>hb b (by
  show b∈(if _ then _ else _)
  rw[if_pos hh.1];exact List.mem_flatMap.2 ⟨e,he,hbe⟩)⟩
theorem SlR.rdN{Q:Rep α}{G':Hp}{a:Option Addr}{kk T0 T m:Nat}{x:List (List α)}{es:List NE}{cs:List Value}(hN:NL Q G es cs x)(hm:m=Q.sz)(hle:HpLe G G')(h1:Rd (.s (.slice a x.length kk) T0 1 x.length cs) G')(h2:Rd (.g (packG T m es)) G'):SlR (Rep.sl Q) G' a kk x:=by
 refine SlR.rd (G:=G') (T:=T0) ?_ rfl (HpLe.refl _) h1
 obtain⟨⟨hb,xs,rfl,h3,h4⟩,h5,h6⟩:=hN
 rw[List.length_map] at hb
 refine⟨by omega,xs,rfl,h3,by rw[h4.1,List.length_map,h5],fun i c y hc hy=>?_⟩
 have hlt:i<es.length:=by rw[h5];exact(List.getElem?_eq_some_iff.1 hy).1
 have he:es[i]?=some es[i]:=List.getElem?_eq_getElem hlt
 obtain⟨hn,ho⟩:=h6 i _ y he hy
 have hc':c=[.slice es[i].a es[i].n es[i].k]:=h4.2 i c es[i].h hc (by rw[List.getElem?_map,he];rfl)
 refine⟨es[i].a,es[i].k,by rw[hc',hn],?_⟩
 have hr:=h2.entry (List.getElem_mem hlt)
 unfold NE.s at hr
 rw[hn] at hr
 exact SlR.rd ho hm hle hr
theorem Cov.freezeN{Q:Rep α}{a:Option Addr}{kk T0 T m:Nat}{x:List (List α)}{es:List NE}{cs:List Value}{s2:List OwnS}(hsl:sl= .s (.slice a x.length kk) T0 1 x.length cs:: .g (packG T m es)::s2)(hN:NL Q G es cs x)(hm:m=Q.sz)(hB:Bd w0 S0 B G)
  (hk:∀G',HpLe G G'→Bd w0 S0 B G'→SlR (Rep.sl Q) G' a kk x→Cov nt w0 S0 df ρ (G'::B) bl s2 K):Cov nt w0 S0 df ρ (G::B) bl sl K:=fun aa w hf hi=>by
 subst hsl
 have hi':Inv w0 S0 (G::B) bl ([]++([.s (.slice a x.length kk) T0 1 x.length cs, .g (packG T m es)]++s2)) w:=hi
 obtain⟨G',hle,hrd,hi2,hbd,_⟩:=hi'.lendB
 refine Cov.less (Fs':=G'::B) ?_ (hk G' hle (hbd B hB) (SlR.rdN hN hm hle (hrd _ List.mem_cons_self) (hrd _ (List.mem_cons_of_mem _ List.mem_cons_self)))) aa w hf hi2
 intro F hF
 rcases List.mem_cons.1 hF with rfl |hF
 ·exact List.mem_cons_self
 ·exact List.mem_cons_of_mem _ (List.mem_cons_of_mem _ hF)
end
end Go.Proofs.YtnfalgmfmiolbaaGreat
end

section
namespace Go.Proofs.YtnfalgmfmiolbaaGreat
open Go.RowKit
set_option linter.unusedVariables false
theorem SlR.cells{α:Type}{Q:Rep α}{G:Hp}{a:Option Addr}{k:Nat}{l:List α}(h:SlR Q G a k l):∃xs:List (List Value),(∀x∈xs,x.length=Q.sz)∧RL Q G xs l∧(a=none→l=[])∧
  ∀w,HpIn G w→∀ad,a=some ad→∀(j:Nat) u,xs.flatten[j]?=some u→w.cell? (ad.add j)=some u:=by
 have hnil:a=none→l=[]:=fun e=>h.isnil (by simp [e])
 obtain⟨_,xs,⟨a',cap,hv,hc,hsz,hcc⟩,hrl⟩:=h
 simp only [Value.slice.injEq] at hv
 obtain⟨rfl,hlen,rfl⟩:=hv
 refine⟨xs,hsz,hrl,hnil,fun w hw ad had j u hj=>?_⟩
 have hne:xs≠[]:=by rintro rfl;simp at hj
 obtain⟨b,o,hb,hcell⟩:=hcc hne
 rw[had] at hb
 cases hb
 have hfl:=Xe2 hsz
 have hlt:j<xs.length*Q.sz:=by rw[← hfl];exact(List.getElem?_eq_some_iff.1 hj).1
 have hpos:0<Q.sz:=by
  rcases Nat.eq_zero_or_pos Q.sz with h |h
  ·rw[h] at hlt;omega
  ·exact h
 have hq:j/Q.sz<xs.length:=Nat.div_lt_of_lt_mul (by rw[Nat.mul_comm];exact hlt)
 have hm:j%Q.sz<Q.sz:=Nat.mod_lt _ hpos
 have hxq:xs[j/Q.sz]?=some xs[j/Q.sz]:=List.getElem?_eq_getElem hq
 have hl2:=hsz _ (List.getElem_mem hq)
 have hg:=X2y xs (j/Q.sz) _ (j%Q.sz) ((xs[j/Q.sz])[j%Q.sz]'(by omega)) hsz hxq (List.getElem?_eq_getElem _)
 have hdm:j/Q.sz*Q.sz+j%Q.sz=j:=by rw[Nat.mul_comm];exact Nat.div_add_mod j Q.sz
 rw[hdm] at hg
 rw[hg] at hj
 have:=hcell (j/Q.sz) _ hxq (j%Q.sz) u (by rw[List.getElem?_eq_getElem (by omega)];exact hj)
 rw[Nat.add_assoc,hdm] at this
 rw[X1h]
 exact hw.cell this
end Go.Proofs.YtnfalgmfmiolbaaGreat
end

section
namespace Go.Proofs.YtnfalgmfmiolbaaGreat
open Go.RowKit
variable{P:Program}{ρ:Env}{Fs:List Hp}{bl:Blks}{sl:List OwnS}{ty:TypeId}
theorem QOp.shrw{t u:TypeId}{x y:Operand}{k k':IntKind}{m n:Int}(hx:ev ρ x=some (.int k m))(hy:ev ρ y=some (.int k' n))(hn:0≤n):QOp P ρ Fs bl sl (.binOp .shr t x y u) ty (.int k (shrI k m n)):=
 .bin hx hy fun w=>by
  have h1:(eqGuard .shr t x y (.int k m) (.int k' n)).run P w= .ok () w:=rfl
  rw[Sem.run_bind,h1]
  simp only [Result.andThen_ok]
  have:Op.shift .shr k m k' n=pure (.int k (shrI k m n)):=by
   unfold Op.shift shrI;rw[if_neg (by omega)]
  simp only [binOp]
  rw[this]
  rfl
theorem QOp.andw{t u:TypeId}{x y:Operand}{k:IntKind}{m n:Int}(hx:ev ρ x=some (.int k m))(hy:ev ρ y=some (.int k n)):
  QOp P ρ Fs bl sl (.binOp .and t x y u) ty (.int k (andI k m n)):= .int hx hy fun w=>by simp only [binOp,Op.intBits,ne_eq,not_true_eq_false,if_false];rfl
end Go.Proofs.YtnfalgmfmiolbaaGreat
end

section
namespace Go.Proofs.YtnfalgmfmiolbaaGreat
open Go.RowKit
set_option linter.unusedVariables false
def PartV(a:Option Addr)(sz:Nat)(v:Value)(i len:Nat):Prop:=∃a' c',v= .slice a' len c'∧len≤c'∧(len≠0→∀g o,a=some ⟨g,o,none⟩→a'=some ⟨g,o+i*sz,none⟩)
theorem PartV.whole{a:Option Addr}{sz n m:Nat}(h:n≤m):PartV a sz (.slice a n m) 0 n:=⟨a,m,rfl,h,fun _ g o e=>by rw[e];simp⟩
theorem PartV.sub{a:Option Addr}{sz:Nat}{v:Value}{i len:Nat}(h:PartV a sz v i len){i' j':Nat}(h1:i'≤j')(h2:j'≤len):PartV a sz (subV v i' j' sz) (i+i') (j'-i'):=by
 obtain⟨a',c',rfl,hc,ha⟩:=h
 refine⟨_,_,rfl,by omega,fun hne g o e=>?_⟩
 have:=ha (by omega) g o e
 subst this
 rw[if_neg (by omega)]
 simp [X1h,Nat.add_mul,Nat.add_assoc]
theorem Xf7{P:Program}(w:World)(dT sT ty elem:TypeId)(sz g o dLen dCap sLen:Nat)(s:Value)(cur:Array Value)(t:TypeId)(cs:List Value)
  (hu:P.underlying dT=some (.slice elem)) (hs:szOf P elem=some sz) (hg:w.heap[g]?=some (.cells cur t (0,0))) (hl:(Builtin.lenOf s).run P w= .ok sLen w)
  (hf:(Builtin.firstCells sz (Nat.min sLen dLen) s).run P w= .ok cs.toArray w) (hfit:o+cs.length≤cur.size) (h1:∀v∈cs,v.oneCell'=true):
  (Builtin.copy_ #[dT,sT] ty #[.slice (some ⟨g,o,none⟩) dLen dCap,s]).run P w= .ok (goInt (Nat.min sLen dLen)) (w.setRow g (cur.toList.take o++cs++cur.toList.drop (o+cs.length)).toArray):=by
 have hst:=run_storeCells_at P g o t cs 0 cur w hg (by simpa using hfit) h1
 simp only [Nat.add_zero] at hst
 unfold Builtin.copy_
 simp [run_underlying hu,hl,X1k hs,hf,hst]
theorem Xe3{P:Program}(w:World)(dT sT ty elem:TypeId)(sz dLen dCap sLen:Nat)(d:Option Addr)(s:Value)(hu:P.underlying dT=some (.slice elem))(hs:szOf P elem=some sz)(hl:(Builtin.lenOf s).run P w= .ok sLen w)
  (hf:(Builtin.firstCells sz 0 s).run P w= .ok #[] w) (h0:Nat.min sLen dLen=0):
  (Builtin.copy_ #[dT,sT] ty #[.slice d dLen dCap,s]).run P w= .ok (goInt 0) w:=by
 unfold Builtin.copy_
 cases d<;>simp [run_underlying hu,hl,X1k hs,hf,h0,storeCells]
def SrcV(P:Program)(Fs:List Hp)(bl:Blks)(sl:List OwnS){α:Type}(Q:Rep α)(G:Hp)(s:Value)(ls:List α):Prop:=
 ∀w,Mem Fs bl sl w→(Builtin.lenOf s).run P w= .ok ls.length w∧∀n,n≤ls.length→n≤16777216→∃c:List Value,(Builtin.firstCells Q.sz n s).run P w= .ok c.toArray w∧OL Q G c (ls.take n)
section
variable{α:Type}{Q:Rep α}{G:Hp}
theorem OL.take{cs:List Value}{l:List α}(h:OL Q G cs l)(i:Nat):OL Q G (cs.take (i*Q.sz)) (l.take i):=by
 obtain⟨hb,xs,rfl,h3,h4,h5⟩:=h
 have key:∀(xs:List (List Value))(i:Nat),(∀x∈xs,x.length=Q.sz)→xs.flatten.take (i*Q.sz)=(xs.take i).flatten:=by
  intro xs
  induction xs with
  |nil=>intro i _;simp
  |cons x xs ih=>
   intro i hx
   cases i with
   |zero=>simp
   |succ i=>
    have hl:=hx x List.mem_cons_self
    rw[List.flatten_cons,List.take_succ_cons,List.flatten_cons, ← ih i fun y hy=>hx y (List.mem_cons_of_mem _ hy),Nat.add_mul,List.take_append,hl,List.take_of_length_le (by omega)]
    congr 2;omega
 refine⟨by rw[List.length_take];omega,xs.take i,key xs i h3,fun x hx=>h3 x (List.mem_of_mem_take hx),by rw[List.length_take,List.length_take,h4],fun j c x hc hx=>?_⟩
 have hj:j<i:=by
  rcases Nat.lt_or_ge j i with h |h
  ·exact h
  ·rw[List.getElem?_take_eq_none h] at hx;cases hx
 rw[List.getElem?_take_of_lt hj] at hc hx
 exact h5 j c x hc hx
theorem OL.drop{cs:List Value}{l:List α}(h:OL Q G cs l)(i:Nat):OL Q G (cs.drop (i*Q.sz)) (l.drop i):=by
 obtain⟨hb,xs,rfl,h3,h4,h5⟩:=h
 have key:∀(xs:List (List Value))(i:Nat),(∀x∈xs,x.length=Q.sz)→xs.flatten.drop (i*Q.sz)=(xs.drop i).flatten:=by
  intro xs
  induction xs with
  |nil=>intro i _;simp
  |cons x xs ih=>
   intro i hx
   cases i with
   |zero=>simp
   |succ i=>
    have hl:=hx x List.mem_cons_self
    rw[List.flatten_cons,List.drop_succ_cons, ← ih i fun y hy=>hx y (List.mem_cons_of_mem _ hy),Nat.add_mul,List.drop_append,hl,List.drop_of_length_le (by omega),List.nil_append]
    congr 1;omega
 refine⟨by rw[List.length_drop];omega,xs.drop i,key xs i h3,fun x hx=>h3 x (List.mem_of_mem_drop hx),by rw[List.length_drop,List.length_drop,h4],fun j c x hc hx=>?_⟩
 rw[List.getElem?_drop] at hc hx
 exact h5 _ c x hc hx
theorem OL.append{cs cs':List Value}{l l':List α}(h:OL Q G cs l)(h':OL Q G cs' l')(hb:l.length+l'.length≤16777216):OL Q G (cs++cs') (l++l'):=by
 obtain⟨_,xs,rfl,h3,h4,h5⟩:=h
 obtain⟨_,ys,rfl,k3,k4,k5⟩:=h'
 refine⟨by rw[List.length_append];exact hb,xs++ys,by rw[List.flatten_append],fun x hx=>?_,by rw[List.length_append,List.length_append,h4,k4],fun j c x hc hx=>?_⟩
 ·rcases List.mem_append.1 hx with hx |hx
  ·exact h3 x hx
  ·exact k3 x hx
 ·by_cases hj:j<xs.length
  ·rw[List.getElem?_append_left hj] at hc
   rw[List.getElem?_append_left (by omega)] at hx
   exact h5 j c x hc hx
  ·rw[List.getElem?_append_right (by omega)] at hc
   rw[List.getElem?_append_right (by omega)] at hx
   rw[h4] at hc
   exact k5 _ c x hc hx
theorem OL.ones{cs:List Value}{l:List α}(h:OL Q G cs l):∀v∈cs,v.oneCell'=true:=fun v hv=>by
 obtain⟨_,xs,rfl,h3,h4,h5⟩:=h
 obtain⟨x,hx,hvx⟩:=List.mem_flatten.1 hv
 obtain⟨i,hi,rfl⟩:=List.getElem_of_mem hx
 have:=Q.one (h5 i _ _ (List.getElem?_eq_getElem hi) (List.getElem?_eq_getElem (by omega)))
 exact List.all_eq_true.1 this v hvx
end
section
variable{P:Program}{Fs:List Hp}{bl:Blks}{sl:List OwnS}{α:Type}{Q:Rep α}{G:Hp}
theorem SrcV.nil:SrcV P Fs bl sl Q G (.slice none 0 0) ([]:List α):=fun w _=>⟨rfl,fun n hn _=>by
 obtain rfl:n=0:=by simpa using hn
 exact⟨[],by simp [Builtin.firstCells],OL.nil⟩⟩
theorem SrcV.rd{a:Option Addr}{k:Nat}{l:List α}(h:SlR Q G a k l)(hG:G∈Fs):SrcV P Fs bl sl Q G (.slice a l.length k) l:=fun w hm=>⟨rfl,fun n hn hb=>by
 obtain⟨xs,h1,h2,h3,h4⟩:=h.cells
 have ho:OL Q G (xs.take n).flatten (l.take n):=by
  refine⟨by rw[List.length_take];omega,xs.take n,rfl,fun x hx=>h1 x (List.mem_of_mem_take hx),by rw[List.length_take,List.length_take,h2.1],fun j c x hc hx=>?_⟩
  have hj:j<n:=by
   rcases Nat.lt_or_ge j n with h |h
   ·exact h
   ·rw[List.getElem?_take_eq_none h] at hx;cases hx
  rw[List.getElem?_take_of_lt hj] at hc hx
  exact h2.2 j c x hc hx
 refine⟨_,?_,ho⟩
 have hcl:=ho.clen
 rw[List.length_take,Nat.min_eq_left hn] at hcl
 cases a with
 |none=>
  have:=h3 rfl
  subst this
  obtain rfl:n=0:=by simpa using hn
  simp [Builtin.firstCells]
 |some ad=>
  refine run_firstCells_some _ _ _ _ _ _ _ hcl fun j v hj=>?_
  have hpre:(xs.take n).flatten<+:xs.flatten:=⟨(xs.drop n).flatten,by rw[← List.flatten_append,List.take_append_drop]⟩
  obtain⟨r,hr⟩:=hpre
  refine h4 w (hm.fs G hG) ad rfl j v ?_
  rw[← hr,List.getElem?_append_left (List.getElem?_eq_some_iff.1 hj).1]
  exact hj⟩
theorem SrcV.part(q:Nat){a:Option Addr}{m T:Nat}{l ls:List α}{cs:List Value}{v:Value}{i:Nat}(hs:sl[q]?=some (.s (.slice a l.length m) T Q.sz l.length cs))(ho:OL Q G cs l)(hp:PartV a Q.sz v i ls.length)(hl:ls=(l.drop i).take ls.length):SrcV P Fs bl sl Q G v ls:=fun w hm=>by
 obtain⟨a',c',rfl,hc,ha⟩:=hp
 refine⟨rfl,fun n hn hb=>?_⟩
 by_cases h0:n=0
 ·subst h0
  refine⟨[],?_,by simpa using OL.nil⟩
  cases a' with
  |none=>simp [Builtin.firstCells]
  |some ad=>exact run_firstCells_some (P:=P) (w:=w) (size:=Q.sz) (n:=0) (b:=ad) (len:=ls.length) (cap:=c') (cs:=[]) (by simp) (by simp)
 have hlen:ls.length≤l.length-i:=by
  have:=congrArg List.length hl
  rw[List.length_take,List.length_drop] at this
  omega
 have hown:w.ownsRow 0 T Q.sz (.slice a l.length m) l.length cs:=hm.slh _ (List.mem_of_getElem? hs)
 obtain⟨g,rfl,hcell⟩:=Xcr hown (by omega)
 have:=ha (by omega) g 0 rfl
 rw[Nat.zero_add] at this
 subst this
 have h1:=(ho.drop i).take n
 have e:(l.drop i).take n=ls.take n:=by rw[hl,List.take_take,Nat.min_eq_left hn]
 rw[e] at h1
 refine⟨_,?_,h1⟩
 have hcl:=h1.clen
 have hln:(ls.take n).length=n:=by simp;omega
 rw[hln] at hcl
 refine run_firstCells_some _ _ _ _ _ _ _ hcl fun j u hj=>?_
 have hjl:j<n*Q.sz:=by rw[← hcl];exact(List.getElem?_eq_some_iff.1 hj).1
 rw[List.getElem?_take_of_lt hjl,List.getElem?_drop] at hj
 rw[X1h]
 refine hcell _ _ ?_ hj
 have h2:(i+n)*Q.sz≤l.length*Q.sz:=Nat.mul_le_mul_right _ (by omega)
 rw[Nat.add_mul] at h2
 omega
theorem SrcV.osub(q:Nat){a:Option Addr}{m T:Nat}{l ls:List α}{cs:List Value}{v:Value}{lo hi:Int}(hs:sl[q]?=some (.s (.slice a l.length m) T Q.sz l.length cs))(ho:OL Q G cs l)(hp:PartV a Q.sz v lo.toNat (hi-lo).toNat)(hu:lsub l lo hi=some ls):SrcV P Fs bl sl Q G v ls:=by
 obtain⟨h1,h2,h3,rfl⟩:=Xag hu
 have e:((l.drop lo.toNat).take (hi-lo).toNat).length=(hi-lo).toNat:=by simp only [List.length_take,List.length_drop];omega
 exact SrcV.part q hs ho (by rw[e];exact hp) (by rw[e])
theorem SrcV.own(q:Nat){a:Option Addr}{m T:Nat}{l:List α}{cs:List Value}(hs:sl[q]?=some (.s (.slice a l.length m) T Q.sz l.length cs))(ho:OL Q G cs l)(hc:l.length≤m):SrcV P Fs bl sl Q G (.slice a l.length m) l:=
 SrcV.part q hs ho (PartV.whole hc) (by simp)
end
section
variable{P:Program}{c:Cx}{R:Value→World→Prop}{nt:Nat}{w0:World}{S0:List Nat}{df:List Deferred}{ρ ρ':Env}{Fs Fs' Fin B:List Hp}{bl bl':Blks}{sl sl':List OwnS}
 {K K':Act→World→Prop} {k:List Item} {ty:TypeId} {G:Hp} {α:Type}
theorem QOp.sliceP{a:Option Addr}{sz:Nat}{lo hi i j:Int}{u:Int×Int}{v:Value}{t el:TypeId}{x:Operand}{l h:Option Operand}(hx:ev ρ x=some v)(hp:PartV a sz v lo.toNat (hi-lo).toNat)(hu:psub lo hi i j=some u)
  (ht:slOf P t=some el) (hz:szOf P el=some sz) (hlo:0≤i→Bnd ρ 0 l i.toNat) (hhi:0≤j→Bnd ρ (hi-lo).toNat h j.toNat):QOp P ρ Fs bl sl (.slice t x l h none) ty (subV v i.toNat j.toNat sz):=by
 obtain⟨h1,h2,h3,h4,_⟩:=Xf3 hu
 obtain⟨a',c',rfl,hc,_⟩:=hp
 exact .slice_sl hx rfl ht hz (hlo h2) (hhi (by omega)) (by omega) (by omega)
theorem PartV.psub{a:Option Addr}{sz:Nat}{lo hi i j:Int}{u:Int×Int}{v:Value}(hp:PartV a sz v lo.toNat (hi-lo).toNat)(hu:psub lo hi i j=some u):PartV a sz (subV v i.toNat j.toNat sz) u.1.toNat (u.2-u.1).toNat:=by
 obtain⟨h1,h2,h3,h4,rfl⟩:=Xf3 hu
 have:=hp.sub (i':=i.toNat) (j':=j.toNat) (by omega) (by omega)
 have e1:lo.toNat+i.toNat=(lo+i).toNat:=by omega
 have e2:j.toNat-i.toNat=(lo+j-(lo+i)).toNat:=by omega
 rw[e1,e2] at this
 exact this
theorem PartV.all{a:Option Addr}{sz n m:Nat}(h:n≤m):PartV a sz (.slice a n m) (0:Int).toNat ((n:Int)-0).toNat:=by
 have:=PartV.whole (a:=a) (sz:=sz) h
 simpa using this
theorem Cov.copyG(q:Nat){Q:Rep α}{d:Nat}{t t2 e:TypeId}{x y:Operand}{v s:Value}{a:Option Addr}{m T:Nat}{l ld ls:List α}{lo hi:Int}{cs:List Value}(hs:Stp P K' ⟨some d, .call ⟨.builtin .copy,#[x,y],#[t,t2]⟩,ty,none⟩ K)(ht:slOf P t=some e)(hz:szOf P e=some Q.sz)
  (hi0:sl[q]?=some (.s (.slice a l.length m) T Q.sz l.length cs)) (ho:OL Q G cs l) (hd1:lsub l lo hi=some ld) (hx:ev ρ x=some v) (hp:PartV a Q.sz v lo.toNat (hi-lo).toNat) (hy:ev ρ y=some s) (hsrc:SrcV P Fs bl sl Q G s ls) (hd:Nat.blt d nt=true)
  (hk:∀cs',(lcpy l lo ld.length ls).length=l.length→OL Q G cs' (lcpy l lo ld.length ls)→Cov nt w0 S0 df ((d, .int .i64 ((min ls.length ld.length:Nat):Int))::ρ) Fs bl (sl.set q (.s (.slice a (lcpy l lo ld.length ls).length m) T Q.sz (lcpy l lo ld.length ls).length cs')) K):Cov nt w0 S0 df ρ Fs bl sl K':=fun a' w hf hinv=>by
 refine hs a' w ?_
 obtain⟨a1,a2,a3,rfl⟩:=Xag hd1
 have hld:((l.drop lo.toNat).take (hi-lo).toNat).length=(hi-lo).toNat:=by simp only [List.length_take,List.length_drop];omega
 rw[hld] at hk
 have hown:w.ownsRow 0 T Q.sz (.slice a l.length m) l.length cs:=hinv.mem.slh _ (List.mem_of_getElem? hi0)
 obtain⟨hlen,hcells⟩:=hsrc w hinv.mem
 obtain⟨pa,pc,rfl,hpc,hpa⟩:=hp
 have hrunv:∀{z:Value}{w':World},(Builtin.copy_ #[t,t2] ty #[.slice pa (hi-lo).toNat pc,s]).run P w= .ok z w'→
   (execOp a'.eval (⟨some d, .call ⟨.builtin .copy,#[x,y],#[t,t2]⟩,ty,none⟩:OpX).oper).run P w= .ok (.value z) w':=fun {z w'} h=>by
  refine X6o (X89 (s:=Builtin.copy_ #[t,t2] ty (#[x,y].map a'.eval)) ?_)
  rw[show #[x,y].map a'.eval=#[a'.eval x,a'.eval y] from by simp,X10 hf hx,X10 hf hy]
  exact h
 unfold Oper.wp
 by_cases h0:Nat.min ls.length (hi-lo).toNat=0
 ·obtain⟨c0,hc0,ho0⟩:=hcells 0 (by omega) (by omega)
  have hc00:c0=[]:=by
   have:=ho0.clen
   simp at this
   exact this
  subst hc00
  rw[hrunv (Xe3 w t t2 ty e Q.sz (hi-lo).toNat pc ls.length pa s (X5x ht) hz hlen hc0 h0)]
  have h0':min ls.length (hi-lo).toNat=0:=h0
  have e1:=Xf4 (l:=l) (i:=lo) h0'
  have hk':=hk cs (by rw[e1]) (by rw[e1];exact ho)
  rw[e1,h0'] at hk'
  have e3:sl.set q (.s (.slice a l.length m) T Q.sz l.length cs)=sl:=by
   apply List.ext_getElem?
   intro z
   rw[List.getElem?_set]
   split
   ·rename_i hh;subst hh
    split
    ·exact hi0.symm
    ·rename_i hlt;rw[List.getElem?_eq_none (by omega)]
   ·rfl
  rw[e3] at hk'
  exact hk' _ _ (hf.put hd _) hinv
 ·have hmin:min ls.length (hi-lo).toNat≠0:=h0
  generalize hnn:min ls.length (hi-lo).toNat=n at hmin hk
  have hnn':Nat.min ls.length (hi-lo).toNat=n:=hnn
  have hb:=ho.1
  obtain⟨c0,hc0,ho0⟩:=hcells n (by omega) (by omega)
  rcases hown.2 with ⟨_,hl0⟩ | ⟨g,cap',cur,hv,hbase,hg,hnc,hm2,hcs,htake⟩
  ·omega
  ·cases hv
   have:=hpa (by omega) g 0 rfl
   rw[Nat.zero_add] at this
   subst this
   have hc0l:=ho0.clen
   rw[List.length_take,Nat.min_eq_left (by omega)] at hc0l
   have hnl:(lo.toNat+n)*Q.sz≤l.length*Q.sz:=Nat.mul_le_mul_right _ (by omega)
   have hlm:l.length*Q.sz≤m*Q.sz:=Nat.mul_le_mul_right _ hnc
   have hnl':=hnl
   rw[Nat.add_mul] at hnl
   have hrun:=Xf7 (P:=P) w t t2 ty e Q.sz g (lo.toNat*Q.sz) (hi-lo).toNat pc ls.length s cur T c0 (X5x ht) hz hg hlen (by rw[hnn'];exact hc0) (by rw[hc0l,hcs];omega) ho0.ones
   rw[hrunv hrun]
   have hll:(lcpy l lo (hi-lo).toNat ls).length=l.length:=Xfs (by omega)
   have hsrc2:ls.take (hi-lo).toNat=ls.take n:=by
    rcases Nat.le_total ls.length (hi-lo).toNat with hle |hle
    ·rw[List.take_of_length_le hle,List.take_of_length_le (by omega)]
    ·rw[show n=(hi-lo).toNat from by omega]
   have hlc:lcpy l lo (hi-lo).toNat ls=l.take lo.toNat++ls.take n++l.drop (lo.toNat+n):=by
    unfold lcpy;rw[hnn,hsrc2]
   have hol:OL Q G (cs.take (lo.toNat*Q.sz)++c0++cs.drop ((lo.toNat+n)*Q.sz)) (lcpy l lo (hi-lo).toNat ls):=by
    rw[hlc]
    exact((ho.take lo.toNat).append ho0 (by simp only [List.length_take];omega)).append (ho.drop (lo.toNat+n)) (by simp only [List.length_append,List.length_take,List.length_drop];omega)
   have hk':=hk _ hll hol
   rw[hll] at hk'
   have hcl:=ho.clen
   have hcur:cur.toList=cs++cur.toList.drop (l.length*Q.sz):=by rw[← htake,List.take_append_drop]
   refine hk' _ _ ?_ (hinv.set_s q hi0 (s':= .s (.slice (some ⟨g,0,none⟩) l.length m) T Q.sz l.length _) ?_ ?_ (by simp [OwnS.blocks,Value.ownBlock]) (fun b hb=> .inl (by simpa [OwnS.blocks,Value.ownBlock] using hb)))
   ·have:=hf.put hd (goInt (Nat.min ls.length (hi-lo).toNat))
    rw[hnn'] at this ⊢
    exact this
   ·refine⟨rfl,rfl,rfl,by simp [World.setRow],fun x _ hD=>setRow_other w g x _ (by simpa [OwnS.blocks,Value.ownBlock] using hD)⟩
   ·have hclen:=hol.clen
    rw[hll] at hclen
    refine⟨hclen, .inr ⟨g,m,_,rfl,Nat.zero_le _,setRow_heap w g _ _ T (0,0) hg,hnc,hm2,?_,?_⟩⟩
    ·simp only [List.size_toArray,List.length_append,List.length_take,List.length_drop,Array.length_toList,hc0l]
     omega
    ·simp only []
     rw[hcur]
     have e1:List.take (lo.toNat*Q.sz) (cs++List.drop (l.length*Q.sz) cur.toList)=List.take (lo.toNat*Q.sz) cs:=List.take_append_of_le_length (by omega)
     have e2:List.drop (lo.toNat*Q.sz+c0.length) (cs++List.drop (l.length*Q.sz) cur.toList)=List.drop ((lo.toNat+n)*Q.sz) cs++List.drop (l.length*Q.sz) cur.toList:=by
      rw[List.drop_append_of_le_length (by omega),hc0l,Nat.add_mul]
     rw[e1,e2, ← List.append_assoc]
     exact List.take_left' (by rw[hclen])
end
end Go.Proofs.YtnfalgmfmiolbaaGreat
end

section
namespace Go.Proofs.YtnfalgmfmiolbaaGreat
open Go.RowKit
set_option linter.unusedVariables false
variable{P:Program}{c:Cx}{R:Value→World→Prop}{nt:Nat}{w0:World}{S0:List Nat}{df:List Deferred}{ρ ρ':Env}{Fs Fs' Fin B:List Hp}{bl bl':Blks}{sl sl':List OwnS}
 {K K':Act→World→Prop} {k:List Item} {ty:TypeId} {G:Hp} {α:Type}
theorem QOp.mkIface{t:TypeId}{x:Operand}{v:Value}(hx:ev ρ x=some v)(ht:P.concrete t=true):QOp P ρ Fs bl sl (.makeInterface t x) ty (.iface t v):= .of fun e he w _=>by
 refine X89 (s:=Instr.makeInterface t (e x)) ?_
 rw[he x _ hx]
 exact run_makeInterface (w:=w) t v ht
theorem Stp.self(o:OpX)(K:Act→World→Prop):Stp P (fun a w=>Oper.wp P o.oper a w K Qf) o K:=fun _ _ h=>h
theorem Xbv{t:TypeId}{v:Value}{name:String}{F:FuncId}{as1:Array Value}{w:World}(hm:(method (P.types.size+Made.depth) t v name).run P w= .ok (F,v) w):
  (invoke (.fn (.method name) #[]) (#[.iface t v]++as1)).run P w=(callFunc F (#[v]++as1)).run P w:=by
 have h0:(#[Value.iface t v]++as1)[0]?=some (.iface t v):=by
  rw[← Array.getElem?_toList,Array.toList_append];rfl
 have h1:(#[Value.iface t v]++as1).extract 1 (#[Value.iface t v]++as1).size=as1:=by
  apply Array.ext'
  simp
 have h2:invoke (.fn (.method name) #[]) (#[.iface t v]++as1)=callMethod (.iface t v) name as1:=by
  unfold invoke
  simp only [h0,h1]
 rw[h2]
 unfold callMethod
 simp [hm]
theorem Xct{e:Operand→Value}{d:Option Nat}{c:Call}{w:World}{T:Target}{as1:Array Value}(h:(resolve e c ty).run P w= .ok {target:=T,args:=as1} w):
  (execOp e ⟨d, .call c,ty,"",#[],none⟩).run P w=(invoke T as1).run P w:=by
 simp only [execOp,Sem.run_bind,h,Result.andThen_ok]
theorem Cov.viaI{d:Option Nat}{r:Operand}{name:String}{args:Array Operand}{ts:Array TypeId}{t:TypeId}{v:Value}{F:FuncId}(hs:Stp P K' ⟨d, .call ⟨.invoke r name,args,ts⟩,ty,none⟩ K)(hr:ev ρ r=some (.iface t v))
  (hm:∀w,(method (P.types.size+Made.depth) t v name).run P w= .ok (F,v) w)
  (h:∀K2,Stp P K2 ⟨d, .call ⟨.value (.const (.func (.func F) #[] #[])),#[.const v]++args,ts⟩,ty,none⟩ K→Cov nt w0 S0 df ρ Fs bl sl K2):Cov nt w0 S0 df ρ Fs bl sl K':=fun a w hf hinv=>by
 refine hs a w ?_
 have h2:=h _ (Stp.self _ _)
 have h3:=h2 a w hf hinv
 have er:a.eval r= .iface t v:=X10 hf hr
 have e1:(execOp a.eval (⟨d, .call ⟨.invoke r name,args,ts⟩,ty,none⟩:OpX).oper).run P w=(execOp a.eval (⟨d, .call ⟨.value (.const (.func (.func F) #[] #[])),#[.const v]++args,ts⟩,ty,none⟩:OpX).oper).run P w:=by
  have r1:(resolve a.eval ⟨.invoke r name,args,ts⟩ ty).run P w= .ok {target:= .fn (.method name) #[],args:=#[.iface t v]++args.map a.eval} w:=by
   unfold resolve
   simp only [er]
   rfl
  have r2:(resolve a.eval ⟨.value (.const (.func (.func F) #[] #[])),#[.const v]++args,ts⟩ ty).run P w= .ok {target:= .fn (.func F) #[],args:=#[v]++args.map a.eval} w:=by
   have e3:(#[Operand.const v]++args).map a.eval=#[v]++args.map a.eval:=by
    have e4:Array.map a.eval #[Operand.const v]=#[v]:=by
     apply Array.ext'
     rw[Array.toList_map];rfl
    rw[Array.map_append,e4]
   unfold resolve
   simp only [e3]
   simp [Act.eval,Deferred.ofValue]
  rw[show(⟨d, .call ⟨.invoke r name,args,ts⟩,ty,none⟩:OpX).oper=⟨d, .call ⟨.invoke r name,args,ts⟩,ty,"",#[],none⟩ from rfl,Xct r1,
   show(⟨d, .call ⟨.value (.const (.func (.func F) #[] #[])),#[.const v]++args,ts⟩,ty,none⟩:OpX).oper=⟨d, .call ⟨.value (.const (.func (.func F) #[] #[])),#[.const v]++args,ts⟩,ty,"",#[],none⟩ from rfl,Xct r2,Xbv (hm w)]
  simp [invoke]
 unfold Oper.wp at h3 ⊢
 rw[e1]
 exact h3
end Go.Proofs.YtnfalgmfmiolbaaGreat
end

section
namespace Go.Proofs.YtnfalgmfmiolbaaGreat
open Go.RowKit
set_option linter.unusedVariables false
section
variable{P:Program}{c:Cx}{R:Value→World→Prop}{nt:Nat}{w0:World}{S0:List Nat}{df:List Deferred}{ρ ρ':Env}{Fs Fs' Fin B:List Hp}{bl bl':Blks}{sl sl':List OwnS}
 {K K':Act→World→Prop} {k:List Item} {ty:TypeId} {G:Hp} {α:Type}
theorem SlR.part{Q:Rep α}{a:Option Addr}{m:Nat}{l ld:List α}{lo hi:Int}{v:Value}(h:SlR Q G a m l)(hp:PartV a Q.sz v lo.toNat (hi-lo).toNat)(hu:lsub l lo hi=some ld):∃a' c',v= .slice a' ld.length c'∧SlR Q G a' c' ld:=by
 obtain⟨h1,h2,h3,rfl⟩:=Xag hu
 obtain⟨a',c',rfl,hc,ha⟩:=hp
 have hl:((l.drop lo.toNat).take (hi-lo).toNat).length=(hi-lo).toNat:=by simp only [List.length_take,List.length_drop];omega
 refine⟨a',c',by rw[hl],?_⟩
 obtain⟨hb,xs,⟨a0,cap,hv,hcap,hsz,hcc⟩,hx1,hx2⟩:=h
 simp only [Value.slice.injEq] at hv
 obtain⟨rfl,hlen,rfl⟩:=hv
 have hxl:((xs.drop lo.toNat).take (hi-lo).toNat).length=(hi-lo).toNat:=by simp only [List.length_take,List.length_drop];omega
 refine⟨by rw[hl];omega,(xs.drop lo.toNat).take (hi-lo).toNat,⟨a',c',by rw[hl,hxl],by rw[hxl];exact hc,fun x hx=>hsz x (List.mem_of_mem_drop (List.mem_of_mem_take hx)),fun hne=>?_⟩,by rw[hl,hxl],fun q c x hq hx=>?_⟩
 ·have hne0:(hi-lo).toNat≠0:=fun h0=>hne (List.eq_nil_of_length_eq_zero (by rw[hxl];exact h0))
  obtain⟨b,o,rfl,hcell⟩:=hcc (by rintro rfl;simp at hxl;omega)
  refine⟨b,o+lo.toNat*Q.sz,ha hne0 b o rfl,fun q x hq j c hj=>?_⟩
  have hql:q<(hi-lo).toNat:=by rw[← hxl];exact(List.getElem?_eq_some_iff.1 hq).1
  rw[List.getElem?_take_of_lt hql,List.getElem?_drop] at hq
  have:=hcell _ x hq j c hj
  rw[Nat.add_mul] at this
  rw[show o+lo.toNat*Q.sz+q*Q.sz+j=o+(lo.toNat*Q.sz+q*Q.sz)+j from by omega]
  exact this
 ·have hql:q<(hi-lo).toNat:=by rw[← hxl];exact(List.getElem?_eq_some_iff.1 hq).1
  rw[List.getElem?_take_of_lt hql,List.getElem?_drop] at hq hx
  exact hx2 _ c x hq hx
end
end Go.Proofs.YtnfalgmfmiolbaaGreat
end

section
namespace Go.Proofs.YtnfalgmfmiolbaaGreat
open Go.RowKit
set_option linter.unusedVariables false
def HD(es:List NE)(i:Int)(h:Option Addr×Nat×Nat):Prop:=(es.map NE.h)[i.toNat]?=some h
theorem HD.mk{es:List NE}{i:Int}{e:NE}(he:es[i.toNat]?=some e):HD es i e.h:=by unfold HD;rw[List.getElem?_map,he];rfl
theorem HD.of{es es':List NE}{i:Int}{h:Option Addr×Nat×Nat}(hm:es'.map NE.h=es.map NE.h)(hd:HD es i h):HD es' i h:=by unfold HD;rw[hm];exact hd
section
variable{P:Program}{c:Cx}{R:Value→World→Prop}{nt:Nat}{w0:World}{S0:List Nat}{df:List Deferred}{ρ ρ':Env}{Fs Fs' Fin B:List Hp}{bl bl':Blks}{sl sl':List OwnS}
 {K K':Act→World→Prop} {k:List Item} {ty:TypeId} {G:Hp} {α:Type}
theorem NL.nil{Q:Rep α}:NL Q G [] [] ([]:List (List α)):=⟨OL.nil,rfl,fun i e y h=>by simp at h⟩
theorem NL.one{Q:Rep α}{a:Option Addr}{kk:Nat}{cs:List Value}{l:List α}(ho:OL Q G cs l):NL Q G [⟨a,l.length,kk,cs⟩] [.slice a l.length kk] [l]:=
 ⟨(OL.cons (Rp':=Rep.hdr) (c:=[.slice a l.length kk]) (x:=(a,l.length,kk)) (l:=[]) rfl rfl OL.nil :),rfl,fun i e y h1 h2=>by
  cases i with
  |zero=>simp at h1 h2;subst h1 h2;exact⟨rfl,ho⟩
  |succ i=>simp at h1⟩
theorem NL.app{Q:Rep α}{es es':List NE}{cs cs' cs2:List Value}{x x':List (List α)}(h:NL Q G es cs x)(h':NL Q G es' cs' x')(hc:OL Rep.hdr G cs2 (es.map NE.h++es'.map NE.h)):NL Q G (es++es') cs2 (x++x'):=
 ⟨by rw[List.map_append];exact hc,by simp [h.2.1,h'.2.1],fun i e y h1 h2=>by
  have:=h.2.1
  rcases Nat.lt_or_ge i es.length with hi |hi
  ·rw[List.getElem?_append_left hi] at h1
   rw[List.getElem?_append_left (by omega)] at h2
   exact h.2.2 i e y h1 h2
  ·rw[List.getElem?_append_right hi] at h1
   rw[List.getElem?_append_right (by omega)] at h2
   rw[← this] at h2;exact h'.2.2 _ e y h1 h2⟩
end
end Go.Proofs.YtnfalgmfmiolbaaGreat
end

section
namespace Go.Proofs.YtnfalgmfmiolbaaGreat
open Go.RowKit
set_option linter.unusedVariables false
structure Shp(σ α β:Type) where
 row:σ→List α
 hd:σ→(Option Addr×Nat×Nat)→β
 set:σ→List α→σ
 row_set:∀s y,row (set s y)=y
 hd_set:∀s y h,hd (set s y) h=hd s h
def hds{σ α β:Type}(S:Shp σ α β)(es:List NE)(x:List σ):List β:=List.zipWith (fun s e=>S.hd s (NE.h e)) x es
def NS{σ α β:Type}(S:Shp σ α β)(Q:Rep α)(E:Rep β)(G:Hp)(es:List NE)(cs:List Value)(x:List σ):Prop:=
 OL E G cs (hds S es x)∧es.length=x.length∧∀(i:Nat)(e:NE)(s:σ),es[i]?=some e→x[i]?=some s→e.n=(S.row s).length∧OL Q G e.cs (S.row s)
section
variable{σ α β:Type}{S:Shp σ α β}{Q:Rep α}{E:Rep β}{G G':Hp}{es:List NE}{cs:List Value}{x:List σ}
theorem Xjw(h:es.length=x.length):(hds S es x).length=x.length:=by simp [hds,h]
theorem Xjx{i:Nat}{e:NE}{s:σ}(he:es[i]?=some e)(hs:x[i]?=some s):(hds S es x)[i]?=some (S.hd s e.h):=by
 unfold hds;rw[List.getElem?_zipWith,hs,he]
theorem Xjy(i:Nat)(e:NE)(s:σ):hds S (es.set i e) (x.set i s)=(hds S es x).set i (S.hd s e.h):=by
 unfold hds
 induction i generalizing es x with
 |zero=>cases x<;>cases es<;>simp
 |succ n ih=>cases x<;>cases es<;>simp [ih]
theorem NS.mono(hg:HpLe G G')(h:NS S Q E G es cs x):NS S Q E G' es cs x:=
 ⟨h.1.mono hg,h.2.1,fun i e y h1 h2=>⟨(h.2.2 i e y h1 h2).1,(h.2.2 i e y h1 h2).2.mono hg⟩⟩
theorem NS.len'(h:NS S Q E G es cs x):x.length≤9223372036854775807:=by
 have:=h.1.len';rw[Xjw h.2.1] at this;exact this
theorem NS.get(h:NS S Q E G es cs x){i:Int}{s:σ}(hx:lidx x i=some s):
  ∃e c,es[i.toNat]?=some e∧e.n=(S.row s).length∧OL Q G e.cs (S.row s)∧Elem E.sz cs i.toNat c∧E.r G c (S.hd s (e.a,(S.row s).length,e.k)):=by
 obtain⟨h3,h4,h5⟩:=X5y hx
 have hlt:i.toNat<es.length:=by rw[h.2.1];omega
 have he:es[i.toNat]?=some es[i.toNat]:=List.getElem?_eq_getElem hlt
 obtain⟨hn,ho⟩:=h.2.2 _ _ _ he h5
 obtain⟨c,hc1,hc2⟩:=h.1.get (i:=i) (x:=S.hd s es[i.toNat].h) (by
  unfold lidx
  rw[if_pos h3];exact Xjx he h5)
 refine⟨es[i.toNat],c,he,hn,ho,hc1,?_⟩
 rw[← hn];exact hc2
theorem NS.nil:NS S Q E G [] [] ([]:List σ):=⟨OL.nil,rfl,fun i e y h=>by simp at h⟩
theorem NS.one{a:Option Addr}{kk:Nat}{c:List Value}{s:σ}{l:List α}(hE:E.r G c (S.hd s (a,l.length,kk)))(hr:S.row s=l){ics:List Value}(ho:OL Q G ics l):NS S Q E G [⟨a,l.length,kk,ics⟩] (c++[]) [s]:=
 ⟨(OL.cons (Rp':=E) (c:=c) (x:=S.hd s (a,l.length,kk)) (l:=[]) rfl hE OL.nil :),rfl,fun i e y h1 h2=>by
  cases i with
  |zero=>simp at h1 h2;subst h1 h2;exact⟨by rw[hr],by rw[hr];exact ho⟩
  |succ i=>simp at h1⟩
theorem NS.app{es':List NE}{cs' cs2:List Value}{x':List σ}(h:NS S Q E G es cs x)(h':NS S Q E G es' cs' x')(hc:OL E G cs2 (hds S es x++hds S es' x')):NS S Q E G (es++es') cs2 (x++x'):=
 ⟨by unfold hds;rw[List.zipWith_append h.2.1.symm];exact hc,by simp [h.2.1,h'.2.1],fun i e y h1 h2=>by
  have:=h.2.1
  rcases Nat.lt_or_ge i es.length with hi |hi
  ·rw[List.getElem?_append_left hi] at h1
   rw[List.getElem?_append_left (by omega)] at h2
   exact h.2.2 i e y h1 h2
  ·rw[List.getElem?_append_right hi] at h1
   rw[List.getElem?_append_right (by omega)] at h2
   rw[← this] at h2;exact h'.2.2 _ e y h1 h2⟩
theorem NS.set{cs':List Value}{x':List σ}{i:Int}{s:σ}{e:NE}(h:NS S Q E G es cs x)(hl:lupd x i s=some x')(hn:e.n=(S.row s).length)(ho:OL Q G e.cs (S.row s))(hc:OL E G cs' ((hds S es x).set i.toNat (S.hd s e.h))):NS S Q E G (es.set i.toNat e) cs' x':=by
 obtain⟨hi0,hil,rfl⟩:=X8c hl
 refine⟨by rw[Xjy];exact hc,by simp [h.2.1],fun j e' y' h1 h2=>?_⟩
 rw[List.getElem?_set] at h1 h2
 by_cases hij:i.toNat=j
 ·subst hij
  have:=h.2.1
  rw[if_pos rfl,if_pos (by omega)] at h1
  rw[if_pos rfl,if_pos (by omega)] at h2
  cases h1;cases h2
  exact⟨hn,ho⟩
 ·rw[if_neg hij] at h1 h2
  exact h.2.2 j e' y' h1 h2
end
section
variable{P:Program}{c:Cx}{R:Value→World→Prop}{nt:Nat}{w0:World}{S0:List Nat}{df:List Deferred}{ρ ρ':Env}{Fs Fs' Fin B:List Hp}{bl bl':Blks}{sl sl':List OwnS}
 {K K':Act→World→Prop} {k:List Item} {ty:TypeId} {G:Hp} {σ α β:Type} {S:Shp σ α β} {Q:Rep α} {E:Rep β}
def ClsO(Fs:List Hp)(bl:Blks)(sl:List OwnS):World→Prop:=fun w=>Mem Fs bl sl w
theorem ClsO.of_le{w:World}{G0:Hp}{bl0:Blks}{sl0:List OwnS}(h:Inv w0 S0 Fs bl sl w)(h1:∃G∈Fs,HpLe G0 G)(h2:∀p∈bl0,p∈bl)(h3:∀s∈sl0,s∈sl):ClsO [G0] bl0 sl0 w:=
 ⟨fun F hF=>by
  obtain⟨G,hG,hle⟩:=h1
  rcases List.mem_cons.1 hF with rfl |hF
  ·exact fun b o hb=>h.mem.fs G hG b o (hle b o hb)
  ·exact absurd hF (List.not_mem_nil),fun p hp=>h.mem.own p (h2 p hp),fun s hs=>h.mem.slh s (h3 s hs)⟩
theorem Cov.drawO{id:Nat}{ops:Array Oper}(l:OT)(bl0:Blks)(sl0:List OwnS)(hm:P.follows .mixedOrders=true)(hok:drawOk ops l=true)(h2:∀p∈bl0,p∈bl)(h3:∀s∈sl0,s∈sl)
  (h:Cov nt w0 S0 df ρ (G::Fs) bl sl (DO P c R (ClsO [G] bl0 sl0) (flatD ops l) k)):
  Cov nt w0 S0 df ρ (G::Fs) bl sl (Run P c R (.code (.region id ops true)::k)):=fun a w hf hi=>by
 simp only [drawOk,Bool.and_eq_true,beq_iff_eq] at hok
 obtain⟨⟨⟨⟨h5,h4⟩,h6⟩,h7⟩,h8⟩:=hok
 exact Run.region_can hm h5 l _ (ClsO [G] bl0 sl0) h6 h8 (ClsO.of_le hi.drawn ⟨G,List.mem_cons_self,HpLe.refl _⟩ h2 h3) (X6n h4 l h7 a _ (h a _ hf hi.drawn))
theorem Cov.clsO{G0:Hp}{bl0:Blks}{sl0:List OwnS}(h1:HpLe G0 G)(h2:∀p∈bl0,p∈bl)(h3:∀s∈sl0,s∈sl){K:Act→World→Prop}(h:Cov nt w0 S0 df ρ (G::Fs) bl sl K):Cov nt w0 S0 df ρ (G::Fs) bl sl (fun a w=>ClsO [G0] bl0 sl0 w∧K a w):=
 fun a w hf hi=>⟨ClsO.of_le hi ⟨G,List.mem_cons_self,h1⟩ h2 h3,h a w hf hi⟩
theorem Cov.dqO{d:Nat}{op:Op}{v:Value}{Fs0:List Hp}{bl0:Blks}{sl0:List OwnS}{os:OX}(h:QOp P ρ Fs0 bl0 sl0 op ty v)(hd:Nat.blt d nt=true)
  (hk:Cov nt w0 S0 df ((d,v)::ρ) Fs bl sl (DO P c R (ClsO Fs0 bl0 sl0) os k)):
  Cov nt w0 S0 df ρ Fs bl sl (DO P c R (ClsO Fs0 bl0 sl0) (.q ⟨some d,op,ty,none⟩ os) k):=fun a w hf hi=>by
 simp only [DO]
 exact⟨v, .inl ⟨rfl,fun w' hw'=>h nt df a w' hf hw'⟩,hk _ w (hf.put hd v) hi⟩
theorem Cov.mv{d:Nat}{x:Operand}{v:Value}{os:List OpX}(hx:ev ρ x=some v)(hd:Nat.blt d nt=true)(h:Cov nt w0 S0 df ((d,v)::ρ) Fs bl sl (RO P c R os k)):Cov nt w0 S0 df ρ Fs bl sl (RO P c R (⟨some d, .move x,ty,none⟩::os) k):=Cov.q .ro (.move hx) hd h
theorem Cov.av{d:Nat}{x:Operand}{v:Value}{os:List OpX}(hx:ev ρ x=some v)(hd:Nat.blt d nt=true)(h:Cov nt w0 S0 df ((d,v)::ρ) Fs bl sl (RO P c R os k)):Cov nt w0 S0 df ρ Fs bl sl (RO P c R (⟨some d, .assign x,ty,none⟩::os) k):=Cov.q .ro (.assign hx) hd h
theorem Cov.re(h:Cov nt w0 S0 df ρ Fs bl sl (Run P c R k)):Cov nt w0 S0 df ρ Fs bl sl (RO P c R [] k):=Cov.region_end h
theorem Cov.arr{ρ':Env}(h:Cov nt w0 S0 df ρ' Fs bl sl K)(hs:Sub ρ ρ'):Cov nt w0 S0 df ρ Fs bl sl K:=Cov.prune _ hs (Cov.same rfl rfl rfl h)
abbrev ri:Rep Int:=Rep.int .i64
theorem mcs{β:Type}{x:β}{l:List β}:x∈x::l:=List.mem_cons_self
theorem mcm{G:Hp}{Fs:List Hp}:∀F,F∈Fs→F∈G::Fs:=fun _ h=>List.mem_cons_of_mem _ h
end
end Go.Proofs.YtnfalgmfmiolbaaGreat
end

section
namespace Go.Proofs.YtnfalgmfmiolbaaGreat
open Go.RowKit
structure GoN(n:Nat)(A B:Prop):Prop where
 go:A→B
theorem GoN.done{A:Prop}:GoN 0 A A:=⟨id⟩
theorem GoN.step{n:Nat}{A B C:Prop}(f:B→C)(h:GoN n A B):GoN (n+1) A C:=⟨fun a=>f (h.go a)⟩
class TyC(P:Program)(t:TypeId)(agg:outParam Bool)(sz bytes:outParam Nat)(z:outParam (List Value)):Prop where
 o:TyI P t agg sz bytes z
class SlC(P:Program)(t:TypeId)(e:outParam TypeId):Prop where
 o:slOf P t=some e
class FlC(P:Program)(t:TypeId)(n:Nat)(o:outParam Nat)(e:outParam TypeId):Prop where
 o:fldOf P t n=some (o,e)
def lits:List Nat:=[0,1,2,3,4,5,6,7,8,9,10,11,12,13,14,15,16,17,18,19,20]
theorem Xjz{i j:Nat}(h:lits[i]?=some j):i=j:=by
 have:i<21:=by
  rcases Nat.lt_or_ge i 21 with h1 |h1
  ·exact h1
  ·rw[List.getElem?_eq_none (by simpa [lits] using h1)] at h;cases h
 have key:∀i,i<21→lits[i]?=some i:=by decide
 rw[key i this] at h
 exact Option.some.inj h
section
variable{P:Program}{c:Cx}{R:Value→World→Prop}{nt:Nat}{w0:World}{S0:List Nat}{df:List Deferred}{ρ ρ':Env}{Fs Fs':List Hp}{bl bl':Blks}{sl sl':List OwnS}
 {K K':Act→World→Prop} {k:List Item} {ty:TypeId} {n:Nat} {A:Prop} {o:List OpX} {C:World→Prop} {x:OX}
theorem GoN.run(h:GoN n A (Cov nt w0 S0 df ρ Fs bl sl (Run P c R k))):GoN n A (Cov nt w0 S0 df ρ Fs bl sl (Run P c R k)):=h
theorem GoN.ro(h:GoN n A (Cov nt w0 S0 df ρ Fs bl sl (RO P c R o k))):GoN n A (Cov nt w0 S0 df ρ Fs bl sl (RO P c R o k)):=h
theorem GoN.d(h:GoN n A (Cov nt w0 S0 df ρ Fs bl sl (DO P c R C x k))):GoN n A (Cov nt w0 S0 df ρ Fs bl sl (DO P c R C x k)):=h
structure QW(P:Program)(ρ:Env)(bl:Blks)(op:Op)(v:Value):Prop where
 q:∀Fs sl ty,QOp P ρ Fs bl sl op ty v
theorem QW.mv{x:Operand}{v:Value}(hx:ev ρ x=some v):QW P ρ bl (.move x) v:=⟨fun _ _ _=> .move hx⟩
theorem QW.av{x:Operand}{v:Value}(hx:ev ρ x=some v):QW P ρ bl (.assign x) v:=⟨fun _ _ _=> .assign hx⟩
theorem QW.pt{x y z:Operand}{v:Value}(hx:ev ρ x=some (.bool true))(hy:ev ρ y=some v):QW P ρ bl (.pick x y z) v:=⟨fun _ _ _=> .pick_t hx hy⟩
theorem QW.pf{x y z:Operand}{v:Value}(hx:ev ρ x=some (.bool false))(hz:ev ρ z=some v):QW P ρ bl (.pick x y z) v:=⟨fun _ _ _=> .pick_f hx hz⟩
theorem QW.add{t u:TypeId}{x y:Operand}{k:IntKind}{m n:Int}(hx:ev ρ x=some (.int k m))(hy:ev ρ y=some (.int k n)):QW P ρ bl (.binOp .add t x y u) (.int k (k.wrap (m+n))):=⟨fun _ _ _=> .addw hx hy⟩
theorem QW.sub{t u:TypeId}{x y:Operand}{k:IntKind}{m n:Int}(hx:ev ρ x=some (.int k m))(hy:ev ρ y=some (.int k n)):QW P ρ bl (.binOp .sub t x y u) (.int k (k.wrap (m-n))):=⟨fun _ _ _=> .subw hx hy⟩
theorem QW.mul{t u:TypeId}{x y:Operand}{k:IntKind}{m n:Int}(hx:ev ρ x=some (.int k m))(hy:ev ρ y=some (.int k n)):QW P ρ bl (.binOp .mul t x y u) (.int k (k.wrap (m*n))):=⟨fun _ _ _=> .mulw hx hy⟩
theorem QW.lss{t u:TypeId}{x y:Operand}{k:IntKind}{m n:Int}(hx:ev ρ x=some (.int k m))(hy:ev ρ y=some (.int k n)):QW P ρ bl (.binOp .lss t x y u) (.bool (decide (m<n))):=⟨fun _ _ _=> .lss hx hy⟩
theorem QW.leq{t u:TypeId}{x y:Operand}{k:IntKind}{m n:Int}(hx:ev ρ x=some (.int k m))(hy:ev ρ y=some (.int k n)):QW P ρ bl (.binOp .leq t x y u) (.bool (decide (m≤n))):=⟨fun _ _ _=> .leq hx hy⟩
theorem QW.gtr{t u:TypeId}{x y:Operand}{k:IntKind}{m n:Int}(hx:ev ρ x=some (.int k m))(hy:ev ρ y=some (.int k n)):QW P ρ bl (.binOp .gtr t x y u) (.bool (decide (n<m))):=⟨fun _ _ _=> .gtr hx hy⟩
theorem QW.geq{t u:TypeId}{x y:Operand}{k:IntKind}{m n:Int}(hx:ev ρ x=some (.int k m))(hy:ev ρ y=some (.int k n)):QW P ρ bl (.binOp .geq t x y u) (.bool (decide (n≤m))):=⟨fun _ _ _=> .geq hx hy⟩
theorem QW.eql{t u:TypeId}{x y:Operand}{k:IntKind}{m n:Int}(hx:ev ρ x=some (.int k m))(hy:ev ρ y=some (.int k n)):QW P ρ bl (.binOp .eql t x y u) (.bool (decide (m=n))):=⟨fun _ _ _=> .eql hx hy⟩
theorem QW.neq{t u:TypeId}{x y:Operand}{k:IntKind}{m n:Int}(hx:ev ρ x=some (.int k m))(hy:ev ρ y=some (.int k n)):QW P ρ bl (.binOp .neq t x y u) (.bool (decide (m≠n))):=⟨fun _ _ _=> .neq hx hy⟩
theorem QW.not{t:TypeId}{x:Operand}{b:Bool}(hx:ev ρ x=some (.bool b)):QW P ρ bl (.unOp .not t x) (.bool (!b)):=⟨fun _ _ _=> .not hx⟩
theorem QW.ex{x:Operand}{vs:List Value}{n:Nat}{v:Value}(hx:ev ρ x=some (.tuple vs.toArray))(hn:vs[n]?=some v):QW P ρ bl (.extract x n) v:=⟨fun _ _ _=> .extract hx hn⟩
theorem QW.nc{x:Operand}{v:Value}(hx:ev ρ x=some v)(hv:(match v with | .pointer (some _)=>true | .func (.func _) _ _=>true |_=>false)=true):QW P ρ bl (.nilCheck x) v:=⟨fun _ _ _=> .nilCheck hx hv⟩
theorem QW.len{t:TypeId}{el:TypeId}[h:SlC P t el]{x:Operand}{v:Value}{n:Nat}(hx:ev ρ x=some v)(hl:sLen v=some n):QW P ρ bl (.call ⟨.builtin .len,#[x],#[t]⟩) (.int .i64 n):=⟨fun _ _ _=> .len_sl hx hl h.o⟩
theorem QW.fa{s:TypeId}{x:Operand}{n b o off o' m:Nat}{ft:TypeId}[hf:FlC P s n off ft]{agg:Bool}{bytes:Nat}{z:List Value}[ht:TyC P ft agg (m+1) bytes z](hx:ev ρ x=some (.pointer (some ⟨b,o,none⟩)))(ho:lits[o+off]?=some o'):
  QW P ρ bl (.fieldAddr s x n) (.pointer (some ⟨b,o',none⟩)):=⟨fun _ _ _=> .fieldAddr o' hx hf.o ht.o.sz (Xjz ho)⟩
theorem QW.lo(i:Nat){t:TypeId}{x:Operand}{b o:Nat}{cs:List Value}{T:TypeId}{fz:Nat×Nat}{v:Value}(hx:ev ρ x=some (.pointer (some ⟨b,o,none⟩)))(h:bl[i]?=some (b, .cells cs.toArray T fz))
  {sz bytes:Nat} {z:List Value} [ht:TyC P t false sz bytes z] (hv:cs[o]?=some v):QW P ρ bl (.load t x) v:=⟨fun _ _ _=> .load_own i hx h ht.o hv⟩
theorem Cov.qr{d:Nat}{op:Op}{v:Value}{os:List OpX}(h:QW P ρ bl op v)(hd:Nat.blt d nt=true)(hk:Cov nt w0 S0 df ((d,v)::ρ) Fs bl sl (RO P c R os k)):Cov nt w0 S0 df ρ Fs bl sl (RO P c R (⟨some d,op,ty,none⟩::os) k):=Cov.q .ro (h.q _ _ _) hd hk
theorem Cov.qd{d:Nat}{op:Op}{v:Value}{Fs0:List Hp}{bl0:Blks}{os:OX}(h:QW P ρ bl0 op v)(hd:Nat.blt d nt=true)(hk:Cov nt w0 S0 df ((d,v)::ρ) Fs bl sl (DO P c R (Cls Fs0 bl0) os k)):
  Cov nt w0 S0 df ρ Fs bl sl (DO P c R (Cls Fs0 bl0) (.q ⟨some d,op,ty,none⟩ os) k):=Cov.dq (h.q _ _ _) hd hk
theorem Cov.go(n:Nat)(h:Cov nt w0 S0 df ρ' Fs' bl' sl' K')(g:GoN n (Cov nt w0 S0 df ρ' Fs' bl' sl' K') (Cov nt w0 S0 df ρ Fs bl sl K):=by
  repeat (first
   |exact GoN.done
   | ((with_reducible refine GoN.run ?_);first |refine GoN.step Cov.seq ?_ |refine GoN.step (fun h=>Cov.region rfl h) ?_ |refine GoN.step Cov.skip ?_ |refine GoN.step Cov.inBlock ?_)
   | ((with_reducible refine GoN.ro ?_);first |refine GoN.step (fun h=>Cov.qr (by first |exact .mv rfl |exact .av rfl |exact .ex rfl rfl |exact .fa rfl rfl |exact .lo 0 rfl rfl rfl |exact .lo 1 rfl rfl rfl |exact .lo 2 rfl rfl rfl |exact .lo 3 rfl rfl rfl |exact .lo 4 rfl rfl rfl |exact .lo 5 rfl rfl rfl |exact .pt rfl rfl |exact .pf rfl rfl |exact .len rfl rfl |exact .add rfl rfl |exact .lss rfl rfl |exact .neq rfl rfl |exact .gtr rfl rfl |exact .not rfl |exact .sub rfl rfl |exact .geq rfl rfl |exact .mul rfl rfl |exact .eql rfl rfl |exact .leq rfl rfl |exact .nc rfl rfl) rfl h) ?_ |refine GoN.step (fun h=>Cov.g_on rfl h) ?_ |refine GoN.step (fun h=>Cov.g_off rfl rfl rfl h) ?_ |refine GoN.step Cov.re ?_)
   | ((with_reducible refine GoN.d ?_);first |refine GoN.step (fun h=>Cov.qd (by first |exact .mv rfl |exact .av rfl |exact .ex rfl rfl |exact .fa rfl rfl |exact .lo 0 rfl rfl rfl |exact .lo 1 rfl rfl rfl |exact .lo 2 rfl rfl rfl |exact .lo 3 rfl rfl rfl |exact .lo 4 rfl rfl rfl |exact .lo 5 rfl rfl rfl |exact .pt rfl rfl |exact .pf rfl rfl |exact .len rfl rfl |exact .add rfl rfl |exact .lss rfl rfl |exact .neq rfl rfl |exact .gtr rfl rfl |exact .not rfl |exact .sub rfl rfl |exact .geq rfl rfl |exact .mul rfl rfl |exact .eql rfl rfl |exact .leq rfl rfl |exact .nc rfl rfl) rfl h) ?_ |refine GoN.step Cov.draw_end ?_))):Cov nt w0 S0 df ρ Fs bl sl K:=g.go h
theorem Cov.gn(n:Nat)(h:Cov nt w0 S0 df ρ' Fs' bl' sl' K')(g:GoN n (Cov nt w0 S0 df ρ' Fs' bl' sl' K') (Cov nt w0 S0 df ρ Fs bl sl K):=by
  try dsimp only [List.cons_append,List.nil_append]
  repeat (first
   |exact GoN.done
   | ((with_reducible refine GoN.run ?_);first |refine GoN.step Cov.seq ?_ |refine GoN.step (fun h=>Cov.region rfl h) ?_ |refine GoN.step Cov.skip ?_ |refine GoN.step Cov.inBlock ?_)
   | ((with_reducible refine GoN.ro ?_);first |refine GoN.step (fun h=>Cov.qr (by first |exact .mv rfl |exact .av rfl |exact .ex rfl rfl |exact .fa rfl rfl |exact .lo 0 rfl rfl rfl |exact .lo 1 rfl rfl rfl |exact .lo 2 rfl rfl rfl |exact .lo 3 rfl rfl rfl |exact .lo 4 rfl rfl rfl |exact .lo 5 rfl rfl rfl |exact .pt rfl rfl |exact .pf rfl rfl |exact .len rfl rfl |exact .add rfl rfl |exact .lss rfl rfl |exact .neq rfl rfl |exact .gtr rfl rfl |exact .not rfl |exact .sub rfl rfl |exact .geq rfl rfl |exact .mul rfl rfl |exact .eql rfl rfl |exact .leq rfl rfl |exact .nc rfl rfl) rfl h) ?_ |refine GoN.step (fun h=>Cov.g_on rfl h) ?_ |refine GoN.step (fun h=>Cov.g_off rfl rfl rfl h) ?_ |refine GoN.step Cov.re ?_)
   | ((with_reducible refine GoN.d ?_);first |refine GoN.step (fun h=>Cov.qd (by first |exact .mv rfl |exact .av rfl |exact .ex rfl rfl |exact .fa rfl rfl |exact .lo 0 rfl rfl rfl |exact .lo 1 rfl rfl rfl |exact .lo 2 rfl rfl rfl |exact .lo 3 rfl rfl rfl |exact .lo 4 rfl rfl rfl |exact .lo 5 rfl rfl rfl |exact .pt rfl rfl |exact .pf rfl rfl |exact .len rfl rfl |exact .add rfl rfl |exact .lss rfl rfl |exact .neq rfl rfl |exact .gtr rfl rfl |exact .not rfl |exact .sub rfl rfl |exact .geq rfl rfl |exact .mul rfl rfl |exact .eql rfl rfl |exact .leq rfl rfl |exact .nc rfl rfl) rfl h) ?_ |refine GoN.step Cov.draw_end ?_))):Cov nt w0 S0 df ρ Fs bl sl K:=g.go h
theorem RetS.st{f:FuncId}{fn:Func}{code:Code}{vs:List Value}{bin:Blks}{sin:List OwnS}{Q:Value→Blks→List OwnS→Prop}{G:Hp}(ρ0:Env)(hf:P.funcs[f]?=some fn)(hn:fn.ntmps=nt)(hG:G∈Fs)
  (h:∀w0 S0,S0=blks bin sin→Bd w0 S0 Fs G→Cov nt w0 S0 [] ρ0 (G::Fs) bin sin (Run P ⟨f,none⟩ (RP w0 S0 Fs (fun v _ bl sl=>Q v bl sl)) [.code code])) (hρ:ArgsOk vs ρ0:=by repeat (first |exact trivial |refine⟨rfl,?_⟩)) (hb:fn.body=some code:=by rfl) (hlen:Nat.ble vs.length nt=true:=by rfl):RetS P f vs.toArray Fs bin sin Q:=
 RetS.of hf hb hn ρ0 hρ hlen hG h
theorem RetW.st{f:FuncId}{fn:Func}{code:Code}{vs:List Value}{bin:Blks}{sin:List OwnS}{Q:Value→Blks→List OwnS→Hp→Prop}{G:Hp}(ρ0:Env)(hf:P.funcs[f]?=some fn)(hn:fn.ntmps=nt)(hG:G∈Fs)
  (h:∀w0 S0,S0=blks bin sin→Bd w0 S0 Fs G→Cov nt w0 S0 [] ρ0 (G::Fs) bin sin (Run P ⟨f,none⟩ (RP w0 S0 Fs (fun v Fr bl sl=>∀G',Ext (Fr::Fs) G'→Q v bl sl G')) [.code code])) (hρ:ArgsOk vs ρ0:=by repeat (first |exact trivial |refine⟨rfl,?_⟩)) (hb:fn.body=some code:=by rfl) (hlen:Nat.ble vs.length nt=true:=by rfl):RetW P f vs.toArray Fs bin sin Q:=
 RetW.of hf hb hn ρ0 hρ hlen hG h
abbrev rv(x:Value):Value→Blks→List OwnS→Prop:=fun v bo so=>v=x∧bo=[]∧so=[]
section
variable{d:Nat}{f:FuncId}{fop:Operand}{args:Array Operand}{ts:Array TypeId}{os:List OpX}{ot:OX}
theorem Cov.cS(vs:List Value){Q:Value→Blks→List OwnS→Prop}(hcall:∀args w,(callFunc f args).run P w= .ok (.enter f args) w)(hr:RetS P f (vs++[]).toArray Fs [] [] Q)
  (hk:∀v bo so,Q v bo so→Cov nt w0 S0 df ((d,v)::ρ) Fs (bo++bl) (so++sl) (RO P c R os k)) (hf:ev ρ fop=some (.func (.func f) #[] #[]):=by rfl) (ha:args.toList.map (ev ρ)=vs.map some:=by rfl) (hd:Nat.blt d nt=true:=by rfl):
  Cov nt w0 S0 df ρ Fs bl sl (RO P c R (⟨some d, .call ⟨.value fop,args,ts⟩,ty,none⟩::os) k):=Cov.callS (b1:=[]) (s1:=[]) vs [] .ro hf ha hcall rfl rfl hr hd hk
theorem Cov.cSd(vs:List Value){Q:Value→Blks→List OwnS→Prop}(hcall:∀args w,(callFunc f args).run P w= .ok (.enter f args) w)(hr:RetS P f (vs++[]).toArray Fs [] [] Q)
  (hk:∀v bo so,Q v bo so→Cov nt w0 S0 df ((d,v)::ρ) Fs (bo++bl) (so++sl) (fun a w=>C w∧DO P c R C ot k a w)) (hf:ev ρ fop=some (.func (.func f) #[] #[]):=by rfl) (ha:args.toList.map (ev ρ)=vs.map some:=by rfl) (hd:Nat.blt d nt=true:=by rfl):
  Cov nt w0 S0 df ρ Fs bl sl (DO P c R C (.e ⟨some d, .call ⟨.value fop,args,ts⟩,ty,none⟩ 1 ot) k):=Cov.callS (b1:=[]) (s1:=[]) vs [] .d1 hf ha hcall rfl rfl hr hd hk
theorem Cov.cV(vs:List Value){v:Value}(hcall:∀args w,(callFunc f args).run P w= .ok (.enter f args) w)(hr:RetS P f (vs++[]).toArray Fs [] [] (rv v))
  (hk:Cov nt w0 S0 df ((d,v)::ρ) Fs bl sl (RO P c R os k)) (hf:ev ρ fop=some (.func (.func f) #[] #[]):=by rfl) (ha:args.toList.map (ev ρ)=vs.map some:=by rfl) (hd:Nat.blt d nt=true:=by rfl):
  Cov nt w0 S0 df ρ Fs bl sl (RO P c R (⟨some d, .call ⟨.value fop,args,ts⟩,ty,none⟩::os) k):=Cov.cS vs hcall hr (fun v' bo so h=>by obtain⟨rfl,rfl,rfl⟩:=h;exact hk) hf ha hd
theorem Cov.cVd(vs:List Value){v:Value}(hcall:∀args w,(callFunc f args).run P w= .ok (.enter f args) w)(hr:RetS P f (vs++[]).toArray Fs [] [] (rv v))
  (hk:Cov nt w0 S0 df ((d,v)::ρ) Fs bl sl (fun a w=>C w∧DO P c R C ot k a w)) (hf:ev ρ fop=some (.func (.func f) #[] #[]):=by rfl) (ha:args.toList.map (ev ρ)=vs.map some:=by rfl) (hd:Nat.blt d nt=true:=by rfl):
  Cov nt w0 S0 df ρ Fs bl sl (DO P c R C (.e ⟨some d, .call ⟨.value fop,args,ts⟩,ty,none⟩ 1 ot) k):=Cov.cSd vs hcall hr (fun v' bo so h=>by obtain⟨rfl,rfl,rfl⟩:=h;exact hk) hf ha hd
theorem Cov.cW{G:Hp}{B:List Hp}(vs:List Value){Q:Value→Blks→List OwnS→Hp→Prop}(hcall:∀args w,(callFunc f args).run P w= .ok (.enter f args) w)(hr:RetW P f (vs++[]).toArray (G::B) [] [] Q)(hB:Bd w0 S0 B G)
  (hk:∀v bo so G',HpLe G G'→Bd w0 S0 B G'→Q v bo so G'→Cov nt w0 S0 df ((d,v)::ρ) (G'::B) (bo++bl) (so++sl) (RO P c R os k)) (hf:ev ρ fop=some (.func (.func f) #[] #[]):=by rfl) (ha:args.toList.map (ev ρ)=vs.map some:=by rfl) (hd:Nat.blt d nt=true:=by rfl):
  Cov nt w0 S0 df ρ (G::B) bl sl (RO P c R (⟨some d, .call ⟨.value fop,args,ts⟩,ty,none⟩::os) k):=Cov.callW (b1:=[]) (s1:=[]) vs [] .ro hf ha hcall rfl rfl hr hd hB hk
end
section
variable{fn:Func}{items:List Item}{Fin:List Hp}{G:Hp}
theorem Cov.rS(rs:List ResultVar)(vs:List Value){Q:Value→Blks→List OwnS→Prop}(hf:P.funcs[c.fn]?=some fn)(hrs:fn.results=rs.toArray)(hpost:Q (retVal vs) bl sl)
  (hit:items=[]∨∃k,items= .code .ret::k:=by first |exact .inr ⟨_,rfl⟩ |exact .inl rfl) (hro:c.ro=none:=by rfl) (hres:RVs P ρ Fs bl sl rs vs:=by repeat (first |exact trivial |refine⟨RV.tmp rfl,?_⟩)) (hsub:∀F∈Fin,F∈Fs:=by exact fun _ h=>List.mem_cons_of_mem _ h):
  Cov nt w0 S0 [] ρ Fs bl sl (Run P c (RP w0 S0 Fin (fun v _ bl sl=>Q v bl sl)) items):=Cov.retS hit rs vs hro hf hrs hres hsub hpost
theorem Cov.rW(n:Nat)(rs:List ResultVar)(vs:List Value){B:List Nat}{Q:Value→Blks→List OwnS→Hp→Prop}(hf:P.funcs[c.fn]?=some fn)(hrs:fn.results=rs.toArray)(hres:RVs P ρ (G::Fs) bl sl rs vs)(hbd:Bd w0 S0 Fin G)(hS0:S0=B)
  (hpost:∀G',HpLe G G'→Q (retVal vs) (bl.drop n) sl G') (hit:items=[]∨∃k,items= .code .ret::k:=by first |exact .inr ⟨_,rfl⟩ |exact .inl rfl) (hro:c.ro=none:=by rfl) (hsub:∀F∈Fin,F∈G::Fs:=by exact fun _ h=>List.mem_cons_of_mem _ h) (hS:∀b∈B,b∈blks bl sl:=by simp [blks]):
  Cov nt w0 S0 [] ρ (G::Fs) bl sl (Run P c (RP w0 S0 Fin (fun v Fr bl sl=>∀G',Ext (Fr::Fin) G'→Q v bl sl G')) items):=Cov.retWD n hit rs vs hro hf hrs hres hsub List.mem_cons_self hbd (by subst hS0;exact hS) hpost
end
theorem Cov.cH{α:Type}{x y:Code}{o:Operand}{p:Prop}[Decidable p]{A B r:α}(hr:(if p then A else B)=r)(ht:p→A=r→Cov nt w0 S0 df ρ Fs bl sl (Run P c R (.code x::k)))(hf:¬p→B=r→Cov nt w0 S0 df ρ Fs bl sl (Run P c R (.code y::k)))
  (hc:ev ρ o=some (.bool (decide p)):=by rfl):Cov nt w0 S0 df ρ Fs bl sl (Run P c R (.code (.cond o x y)::k)):=Cov.cond_dec hc (fun h=>ht h (ifT hr h)) (fun h=>hf h (ifF hr h))
theorem Cov.cB{α:Type}{x y:Code}{o:Operand}{p:Bool}{A B r:α}(hr:(if p=true then A else B)=r)(ht:p=true→A=r→Cov nt w0 S0 df ρ Fs bl sl (Run P c R (.code x::k)))(hf:p=false→B=r→Cov nt w0 S0 df ρ Fs bl sl (Run P c R (.code y::k)))
  (hc:ev ρ o=some (.bool p):=by rfl):Cov nt w0 S0 df ρ Fs bl sl (Run P c R (.code (.cond o x y)::k)):=Cov.cond hc (fun h=>ht h (ifT hr h)) (fun h=>hf h (ifBF hr h))
structure Stt where
 e:Env
 f:List Hp
 b:Blks
 s:List OwnS
theorem Cov.ax(h:Cov nt w0 S0 df ρ' Fs' bl' sl' K)(hs:Sub ρ ρ')(h1:bl=bl':=by rfl)(h2:sl=sl':=by rfl)(h3:Fs=Fs':=by rfl):Cov nt w0 S0 df ρ Fs bl sl K:=Cov.prune _ hs (Cov.same h1 h2 h3 h)
theorem Cov.ar(h:Cov nt w0 S0 df ρ' Fs' bl' sl' K)(hs:Sub ρ ρ':=by repeat (first |exact trivial |refine⟨rfl,?_⟩))(h1:bl=bl':=by rfl)(h2:sl=sl':=by rfl)(h3:Fs=Fs':=by rfl):Cov nt w0 S0 df ρ Fs bl sl K:=Cov.ax h hs h1 h2 h3
section
set_option linter.unusedVariables false
variable(J:Stt→Prop)(ρs:Env)(bls:Blks)(ib:List Nat)(sls:List OwnS)(is:List Nat)
theorem Cov.kB{id:Nat}{x:Code}(hk:∀y,J y→Cov nt w0 S0 df (y.e++ρs) y.f (y.b++bls) (y.s++sls) (Run P c R k))
  (h:(∀y,J y→Cov nt w0 S0 df (y.e++ρs) y.f (y.b++bls) (y.s++sls) (Run P c R k))→Cov nt w0 S0 df ρ Fs bl sl (Run P c R (.code (.block id x)::k)))
  (hρ:Sub ρ ρs:=by repeat (first |exact trivial |refine⟨rfl,?_⟩)) (hb:ib.map (bl[·]?)=bls.map some:=by rfl) (hs:is.map (sl[·]?)=sls.map some:=by rfl):Cov nt w0 S0 df ρ Fs bl sl (Run P c R (.code (.block id x)::k)):=h hk
theorem Cov.kI{o:Operand}{x y:Code}(hk:∀y,J y→Cov nt w0 S0 df (y.e++ρs) y.f (y.b++bls) (y.s++sls) (Run P c R k))
  (h:(∀y,J y→Cov nt w0 S0 df (y.e++ρs) y.f (y.b++bls) (y.s++sls) (Run P c R k))→Cov nt w0 S0 df ρ Fs bl sl (Run P c R (.code (.cond o x y)::k)))
  (hρ:Sub ρ ρs:=by repeat (first |exact trivial |refine⟨rfl,?_⟩)) (hb:ib.map (bl[·]?)=bls.map some:=by rfl) (hs:is.map (sl[·]?)=sls.map some:=by rfl):Cov nt w0 S0 df ρ Fs bl sl (Run P c R (.code (.cond o x y)::k)):=h hk
theorem Cov.kG{id:Nat}{ops:Array Oper}{dr:Bool}(hk:∀y,J y→Cov nt w0 S0 df (y.e++ρs) y.f (y.b++bls) (y.s++sls) (Run P c R k))
  (h:(∀y,J y→Cov nt w0 S0 df (y.e++ρs) y.f (y.b++bls) (y.s++sls) (Run P c R k))→Cov nt w0 S0 df ρ Fs bl sl (Run P c R (.code (.region id ops dr)::k)))
  (hρ:Sub ρ ρs:=by repeat (first |exact trivial |refine⟨rfl,?_⟩)) (hb:ib.map (bl[·]?)=bls.map some:=by rfl) (hs:is.map (sl[·]?)=sls.map some:=by rfl):Cov nt w0 S0 df ρ Fs bl sl (Run P c R (.code (.region id ops dr)::k)):=h hk
theorem Cov.kR(n:Nat){os:List OpX}(hk:∀y,J y→Cov nt w0 S0 df (y.e++ρs) y.f (y.b++bls) (y.s++sls) (RO P c R (os.drop n) k))
  (h:(∀y,J y→Cov nt w0 S0 df (y.e++ρs) y.f (y.b++bls) (y.s++sls) (RO P c R (os.drop n) k))→Cov nt w0 S0 df ρ Fs bl sl (RO P c R os k))
  (hρ:Sub ρ ρs:=by repeat (first |exact trivial |refine⟨rfl,?_⟩)) (hb:ib.map (bl[·]?)=bls.map some:=by rfl) (hs:is.map (sl[·]?)=sls.map some:=by rfl):Cov nt w0 S0 df ρ Fs bl sl (RO P c R os k):=h hk
theorem Cov.kD(n:Nat){t:OX}(hk:∀y,J y→Cov nt w0 S0 df (y.e++ρs) y.f (y.b++bls) (y.s++sls) (DO P c R C (t.after n) k))
  (h:(∀y,J y→Cov nt w0 S0 df (y.e++ρs) y.f (y.b++bls) (y.s++sls) (DO P c R C (t.after n) k))→Cov nt w0 S0 df ρ Fs bl sl (DO P c R C t k))
  (hρ:Sub ρ ρs:=by repeat (first |exact trivial |refine⟨rfl,?_⟩)) (hb:ib.map (bl[·]?)=bls.map some:=by rfl) (hs:is.map (sl[·]?)=sls.map some:=by rfl):Cov nt w0 S0 df ρ Fs bl sl (DO P c R C t k):=h hk
end
theorem Cov.lp(J:Stt→Nat→Prop)(ρs:Env)(bls:Blks)(sls:List OwnS){x:Code}{y0:Stt}{m0:Nat}(hI:J y0 m0)
  (round:∀y m,J y m→(∀z m',J z m'→m'<m→Cov nt w0 S0 df (z.e++ρs) (z.f++Fs) (z.b++bls) (z.s++sls) (Run P c R (.inLoop x::k)))→Cov nt w0 S0 df (y.e++ρs) (y.f++Fs) (y.b++bls) (y.s++sls) (Run P c R (.code x:: .inLoop x::k)))
  (hρ:Sub ρ (y0.e++ρs):=by repeat (first |exact trivial |refine⟨rfl,?_⟩)) (hF:Fs'=y0.f++Fs:=by rfl) (hb:bl=y0.b++bls:=by rfl) (hs:sl=y0.s++sls:=by rfl):Cov nt w0 S0 df ρ Fs' bl sl (Run P c R (.code (.loop x)::k)):=
 Cov.loop2 (α:=Stt×Nat) (fun y=>y.1.e) ρs (fun y=>y.1.f) (fun y=>y.1.b) bls (fun y=>y.1.s) sls (fun y=>J y.1 y.2) (fun y=>y.2) (y0,m0) hI hρ hF hb hs fun y hy hz=>round y.1 y.2 hy fun z m' h1 h2=>hz (z,m') h1 h2
end
end Go.Proofs.YtnfalgmfmiolbaaGreat
end

section
namespace Go.Proofs.YtnfalgmfmiolbaaGreat
open Go.RowKit
set_option linter.unusedSimpArgs false
section
variable{P:Program}{ops:Array Oper}{md:Region.Mode}{C:Bool→World→Prop}{EM:Bool→List Nat}{τ:Nat→Bool}
def wpAnyC2(P:Program)(md:Region.Mode)(ops:Array Oper)(C:Bool→World→Prop)(EM:Bool→List Nat)(Q:Act→World→Prop):Nat→Array Bool→Act→World→Prop
 |0,listed,a,w=>Region.ready md ops listed=[]∧Q a w
 |fuel+1,listed,a,w=>
  (Region.ready md ops listed=[]→Q a w)∧
  ∀i∈Region.ready md ops listed,wpOp P ops Qn i (fun a' w'=>(∀b,i∈EM b→C b w→C b w')∧wpAnyC2 P md ops C EM Q fuel (listed.setIfInBounds i true) a' w') a w
theorem Xcu{Q:Act→World→Prop}{Q':Exit→Act→World→Prop}(hQ:∀a w,Q a w→Q' .normal a w):∀(fuel:Nat)(listed:Array Bool)(a:Act)(w:World),
  wpAnyC2 P md ops C EM Q fuel listed a w→wpAny P md ops Q' fuel listed a w
 |0,_,_,_,h=>⟨h.1,hQ _ _ h.2⟩
 |fuel+1,_,_,_,h=>⟨fun h0=>hQ _ _ (h.1 h0),fun i hi=>wpOp_mono (fun a' w' h'=>Xcu hQ fuel _ a' w' h'.2) (Xdl (h.2 i hi))⟩
theorem Xe4{Q:Act→World→Prop}(W:List Nat){i:Nat}{oi:Oper}{v:Value}{t:Bool}(hi:ops[i]?=some oi)(hsel:∀(j:Nat)(o:Oper) cs b,ops[j]?=some o→o.op≠ .select cs b):
  ∀(fuel:Nat)(listed:Array Bool)(a:Act)(w:World),C t w→
   (∀j oj,ops[j]?=some oj→j≠i→listed.getD j true=false→j ∉ W→oi.apart ops oj=true∧j∈EM t)→
   (∀j∈W,listed.getD j true=false∧∀oj,ops[j]?=some oj→∃e∈oj.after,Region.binds md e=true∧(e.on=i∨e.on∈W))→
   i∈Region.ready md ops listed→YieldC P ops (C t) oi v a→
   wpAnyC2 P md ops C EM Q fuel (listed.setIfInBounds i true) (a.put oi.dst v) w→wpAnyC2 P md ops C EM Q (fuel+1) listed a w:=by
 intro fuel
 induction fuel with
 |zero=>
  intro listed a w hC _ _ hr hy H
  refine⟨fun h=>(by rw[h] at hr;cases hr),fun j hj=>?_⟩
  by_cases hji:j=i
  ·subst hji;exact hy.wpOp hi hC ⟨fun _ _ h=>h,H⟩
  ·have:=ready_mono hj hji
   rw[H.1] at this
   cases this
 |succ fuel ih=>
  intro listed a w hC hfree hW hr hy H
  refine⟨fun h=>(by rw[h] at hr;cases hr),fun j hj=>?_⟩
  by_cases hji:j=i
  ·subst hji;exact hy.wpOp hi hC ⟨fun _ _ h=>h,H⟩
  ·have h1:=H.2 j (ready_mono hj hji)
   obtain⟨hjun,oj,hoj,hall⟩:=mem_ready.1 hj
   have hnot:j ∉ W:=fun hjW=>by
    obtain⟨_,hex⟩:=hW j hjW
    obtain⟨e,he,hb,hon⟩:=hex oj hoj
    have h1:=hall e he hb
    have h0:listed.getD e.on true=false:=by
     rcases hon with heq |hin
     ·rw[heq];exact(mem_ready.1 hr).1
     ·exact(hW _ hin).1
    rcases Nat.lt_or_ge e.on listed.size with h' |h'
    ·simp [h'] at h0 h1;rw[h0] at h1;cases h1
    ·simp [Array.getElem?_eq_none h'] at h1
   obtain⟨hap,hem⟩:=hfree j oj hoj hji hjun hnot
   have h2:=Xg9 hoj hap (fun cs b=>hsel i oi cs b hi) (fun cs b=>hsel j oj cs b hoj) hy h1
   have hfree':∀k ok,ops[k]?=some ok→k≠i→(listed.setIfInBounds j true).getD k true=false→
     k ∉ W→oi.apart ops ok=true∧k∈EM t:=fun k ok hk hki hun hno=>by
    refine hfree k ok hk hki ?_ hno
    by_cases hjk:j=k
    ·subst hjk;exact hjun
    ·rw[getD_set_ne true hjk] at hun;exact hun
   have hW':∀k∈W,(listed.setIfInBounds j true).getD k true=false∧∀ok,ops[k]?=some ok→∃e∈ok.after,Region.binds md e=true∧(e.on=i∨e.on∈W):=fun k hk=>by
    obtain⟨h5,h6⟩:=hW k hk
    refine⟨?_,h6⟩
    have hne:j≠k:=fun e=>hnot (by rw[e];exact hk)
    rw[getD_set_ne true hne];exact h5
   refine wpOp_mono (fun a' w' h3=>⟨fun b hb hc=>h3.1.1 b hb hc,ih (listed.setIfInBounds j true) a' w' (h3.1.1 t hem hC) hfree' hW' (ready_mono hr (Ne.symm hji)) h3.2 ?_⟩) h2
   rw[Array.setIfInBounds_comm _ _ hji]
   exact h3.1.2
def wpCan2(P:Program)(ops:Array Oper)(C:Bool→World→Prop)(EM:Bool→List Nat)(τ:Nat→Bool)(Q:Act→World→Prop):OT→Act→World→Prop
 | .nil,a,w=>Q a w
 | .q i t,a,w=>∃o v,ops[i]?=some o∧YieldC P ops (C (τ i)) o v a∧wpCan2 P ops C EM τ Q t (a.put o.dst v) w
 | .e i _ t,a,w=>wpOp P ops Qn i (fun a' w'=>(∀b,i∈EM b→C b w')∧wpCan2 P ops C EM τ Q t a' w') a w
 | .alt x y,a,w=>wpCan2 P ops C EM τ Q x a w∧wpCan2 P ops C EM τ Q y a w
def canG2(md:Region.Mode)(ops:Array Oper)(EM:Bool→List Nat)(τ:Nat→Bool):OT→Bool→(Bool→Bool)→Array Bool→Bool
 | .nil,solo,_,listed=>solo && (Region.ready md ops listed).isEmpty
 | .q i t,solo,kept,listed=>solo && (kept (τ i) && (Region.ready md ops listed).contains i && freeB md ops (EM (τ i)) i listed && canG2 md ops EM τ t true kept (listed.setIfInBounds i true))
 | .e i _ t,solo,kept,listed=>(!solo || (!(Region.ready md ops listed).isEmpty && (Region.ready md ops listed).all fun j=>j == i)) && canG2 md ops EM τ t true (fun b=>kept b && (EM b).contains i) (listed.setIfInBounds i true)
 | .alt x y,solo,kept,listed=>(!solo || (!(Region.ready md ops listed).isEmpty && (Region.ready md ops listed).all fun j=>(OT.alt x y).heads.contains j)) && ((x.depth == y.depth) && canG2 md ops EM τ x false kept listed && canG2 md ops EM τ y false kept listed)
theorem X59{Q:Act→World→Prop}(hs:noSel ops=true):∀(t:OT),
  (∀(kept:Bool→Bool)(listed:Array Bool)(a:Act)(w:World),canG2 md ops EM τ t true kept listed=true→(∀b,kept b=true→C b w)→wpCan2 P ops C EM τ Q t a w→wpAnyC2 P md ops C EM Q t.depth listed a w)∧
  (∀(kept:Bool→Bool)(listed:Array Bool)(a:Act)(w:World),canG2 md ops EM τ t false kept listed=true→(∀b,kept b=true→C b w)→wpCan2 P ops C EM τ Q t a w→
   ∃n,t.depth=n+1∧∀i∈t.heads,wpOp P ops Qn i (fun a' w'=>(∀b,i∈EM b→C b w→C b w')∧wpAnyC2 P md ops C EM Q n (listed.setIfInBounds i true) a' w') a w)
 | .nil=>⟨fun _ _ _ _ hB _ h=>⟨by simpa [canG2] using hB,h⟩,fun _ _ _ _ hB=>by simp [canG2] at hB⟩
 | .q i t=>⟨fun kept listed a w hB hC h=>by
   simp only [canG2,Bool.and_eq_true,Bool.true_and] at hB
   obtain⟨⟨⟨hk,hr⟩,hf⟩,hB'⟩:=hB
   obtain⟨o,v,ho,hy,hK⟩:=h
   obtain⟨W,hw1,hw2⟩:=Xdn ho hf
   exact Xe4 W ho (fun j o' cs b hj=>Xf0 hs j o' cs b hj) t.depth listed a w (hC _ hk) hw1 hw2 (by simpa using hr) hy
    ((X59 hs t).1 kept _ _ _ hB' hC hK),fun _ _ _ _ hB=>by simp [canG2] at hB⟩
 | .e i m t=>by
  have key:∀(kept:Bool→Bool)(listed:Array Bool)(a:Act)(w:World),canG2 md ops EM τ (.e i m t) false kept listed=true→(∀b,kept b=true→C b w)→wpCan2 P ops C EM τ Q (.e i m t) a w→
    wpOp P ops Qn i (fun a' w'=>(∀b,i∈EM b→C b w→C b w')∧wpAnyC2 P md ops C EM Q t.depth (listed.setIfInBounds i true) a' w') a w:=fun kept listed a w hB hC h=>
   wpOp_mono (fun a' w' h'=>⟨fun b hb _=>h'.1 b hb,(X59 hs t).1 _ _ a' w' (by simpa only [canG2,Bool.not_false,Bool.true_or,Bool.true_and] using hB) (fun b hk=>by
    simp only [Bool.and_eq_true] at hk
    exact h'.1 b (by simpa using hk.2)) h'.2⟩) h
  refine⟨fun kept listed a w hB hC h=>?_,fun kept listed a w hB hC h=>⟨t.depth,rfl,fun j hj=>?_⟩⟩
  ·simp only [canG2,Bool.not_true,Bool.false_or,Bool.and_eq_true] at hB
   refine⟨fun h0=>?_,fun j hj=>?_⟩
   ·rw[h0] at hB;simp at hB
   ·have:=List.all_eq_true.1 hB.1.2 j hj
    simp only [beq_iff_eq] at this
    subst this
    exact key kept listed a w (by simpa only [canG2,Bool.not_false,Bool.true_or,Bool.true_and] using hB.2) hC h
  ·simp only [OT.heads,List.mem_singleton] at hj
   subst hj
   exact key kept listed a w hB hC h
 | .alt x y=>by
  have key:∀(kept:Bool→Bool)(listed:Array Bool)(a:Act)(w:World),canG2 md ops EM τ (.alt x y) false kept listed=true→(∀b,kept b=true→C b w)→wpCan2 P ops C EM τ Q (.alt x y) a w→
    ∃n,(OT.alt x y).depth=n+1∧∀i∈(OT.alt x y).heads,wpOp P ops Qn i (fun a' w'=>(∀b,i∈EM b→C b w→C b w')∧wpAnyC2 P md ops C EM Q n (listed.setIfInBounds i true) a' w') a w:=fun kept listed a w hB hC h=>by
   simp only [canG2,Bool.not_false,Bool.true_or,Bool.true_and,Bool.and_eq_true,beq_iff_eq] at hB
   obtain⟨n,hn,hx⟩:=(X59 hs x).2 kept listed a w hB.1.2 hC h.1
   obtain⟨n',hn',hy⟩:=(X59 hs y).2 kept listed a w hB.2 hC h.2
   have:n'=n:=by have:=hB.1.1;omega
   subst this
   refine⟨n',hn,fun i hi=>?_⟩
   rcases List.mem_append.1 hi with hi |hi
   ·exact hx i hi
   ·exact hy i hi
  refine⟨fun kept listed a w hB hC h=>?_,key⟩
  simp only [canG2,Bool.not_true,Bool.false_or,Bool.and_eq_true] at hB
  obtain⟨n,hn,hk⟩:=key kept listed a w (by simpa only [canG2,Bool.not_false,Bool.true_or,Bool.true_and,Bool.and_eq_true] using hB.2) hC h
  rw[hn]
  refine⟨fun h0=>?_,fun j hj=>hk j (by simpa using List.all_eq_true.1 hB.1.2 j hj)⟩
  rw[h0] at hB;simp at hB
theorem Run.region_can2{c:Cx}{R:Value→World→Prop}{a:Act}{w:World}{k:List Item}{id:Nat}(hm:P.follows .mixedOrders=true)(hs:noSel ops=true)(l:OT)(EM:Bool→List Nat)(τ:Nat→Bool)(C:Bool→World→Prop)
  (hl:l.depth=ops.size) (hB:canG2 .any ops EM τ l true (fun _=>true) (Array.replicate ops.size false)=true) (hC:∀b,C b {w with drawn:=w.drawn+1})
  (h:wpCan2 P ops C EM τ (fun a' w'=>Run P c R k a' w') l a {w with drawn:=w.drawn+1}):Run P c R (.code (.region id ops true)::k) a w:=by
 refine Run.region_any hm (fun i o hi=>Xbf hs i o hi) ?_
 refine Xcu (Q:=fun a' w'=>Run P c R k a' w') (fun _ _ h=>h) _ _ _ _ (?_:wpAnyC2 P .any ops C EM _ _ _ _ _)
 rw[← hl]
 have:=(X59 (P:=P) (C:=C) (md:= .any) (EM:=EM) (τ:=τ) hs l).1 (fun _=>true) (Array.replicate ops.size false) a _ hB (fun b _=>hC b) h
 rwa [hl] at this ⊢
inductive OX2 where
 |nil
 |q (b:Bool) (o:OpX) (t:OX2)
 |e (o:OpX) (m:Nat) (t:OX2)
 |alt (a b:OX2)
def DO2(P:Program)(c:Cx)(R:Value→World→Prop)(C:Bool→World→Prop):OX2→List Item→Act→World→Prop
 | .nil,k,a,w=>Run P c R k a w
 | .q b o t,k,a,w=>∃v,((wantedT a o.guard=true∧∀w,C b w→(execOp a.eval o.oper).run P w= .ok (.value v) w)∨(wantedT a o.guard=false∧v=undef))∧DO2 P c R C t k (a.put o.dst v) w
 | .e o 1 t,k,a,w=>if wantedT a o.guard then Oper.wp P o.oper a w (fun a' w'=>(C true w'∧C false w')∧DO2 P c R C t k a' w') Qf else((C true w∧C false w)∧DO2 P c R C t k (a.put o.dst undef) w)
 | .e o _ t,k,a,w=>if wantedT a o.guard then Oper.wp P o.oper a w (fun a' w'=>C false w'∧DO2 P c R C t k a' w') Qf else(C false w∧DO2 P c R C t k (a.put o.dst undef) w)
 | .alt x y,k,a,w=>DO2 P c R C x k a w∧DO2 P c R C y k a w
def flatD2(ops:Array Oper)(τ:Nat→Bool):OT→OX2
 | .nil=> .nil
 | .q i t=> .q (τ i) (OpX.of ops (ops.getD i default)) (flatD2 ops τ t)
 | .e i m t=> .e (OpX.of ops (ops.getD i default)) m (flatD2 ops τ t)
 | .alt x y=> .alt (flatD2 ops τ x) (flatD2 ops τ y)
def otOk2(n:Nat)(EM:List Nat):OT→Bool
 | .nil=>true
 | .q i t=>decide (i<n) && otOk2 n EM t
 | .e i m t=>decide (i<n) && (m == 1 || !EM.contains i) && otOk2 n EM t
 | .alt x y=>otOk2 n EM x && otOk2 n EM y
theorem X7k{c:Cx}{R:Value→World→Prop}{k:List Item}(hg:gOk ops=true):∀(t:OT),otOk2 ops.size (EM true) t=true→∀(a:Act)(w:World),DO2 P c R C (flatD2 ops τ t) k a w→
  wpCan2 P ops C EM τ (fun a' w'=>Run P c R k a' w') t a w
 | .nil,_,_,_,h=>h
 | .q i t,hl,a,w,h=>by
  simp only [otOk2,Bool.and_eq_true,decide_eq_true_eq] at hl
  obtain⟨hi,hl⟩:=hl
  have h0:ops[i]?=some (ops.getD i default):=by simp [hi]
  have ih:=X7k (c:=c) (R:=R) (k:=k) hg t hl
  have hgu:∀a:Act,wantedT a (OpX.of ops (ops.getD i default)).guard=Region.wanted (ops.getD i default) (yielded ops a.tmps):=fun a=>(Xad hg h0 a).symm
  simp only [flatD2,DO2] at h
  generalize ops.getD i default=od at h h0 hgu
  obtain⟨v,hv,hK⟩:=h
  rw[hgu a] at hv
  exact⟨_,v,h0,hv,ih _ _ hK⟩
 | .e i m t,hl,a,w,h=>by
  simp only [otOk2,Bool.and_eq_true,decide_eq_true_eq] at hl
  obtain⟨⟨hi,hm⟩,hl⟩:=hl
  have h0:ops[i]?=some (ops.getD i default):=by simp [hi]
  have ih:=X7k (c:=c) (R:=R) (k:=k) hg t hl
  have hgu:∀a:Act,wantedT a (OpX.of ops (ops.getD i default)).guard=Region.wanted (ops.getD i default) (yielded ops a.tmps):=fun a=>(Xad hg h0 a).symm
  simp only [flatD2] at h
  generalize ops.getD i default=od at h h0 hgu
  by_cases h1:m=1
  ·subst h1
   simp only [DO2] at h
   simp only [wpCan2,wpOp,h0]
   rw[hgu a] at h
   by_cases hw:Region.wanted od (yielded ops a.tmps)=true
   ·rw[if_pos hw] at h ⊢
    exact .inl (Oper.wp_mono (fun a' w' h'=>⟨fun b _=>by cases b;exact h'.1.2;exact h'.1.1,ih _ _ h'.2⟩) (Xci h))
   ·rw[if_neg hw] at h ⊢
    exact⟨fun b _=>by cases b;exact h.1.2;exact h.1.1,ih _ _ h.2⟩
  ·have hn:i ∉ EM true:=by
    have:(m == 1)=false:=by simpa using h1
    simpa [this] using hm
   rw[DO2.eq_4 _ _ _ _ _ _ _ _ _ _ h1] at h
   simp only [wpCan2,wpOp,h0]
   rw[hgu a] at h
   by_cases hw:Region.wanted od (yielded ops a.tmps)=true
   ·rw[if_pos hw] at h ⊢
    exact .inl (Oper.wp_mono (fun a' w' h'=>⟨fun b hb=>by cases b;exact h'.1;exact absurd hb hn,ih _ _ h'.2⟩) (Xci h))
   ·rw[if_neg hw] at h ⊢
    exact⟨fun b hb=>by cases b;exact h.1;exact absurd hb hn,ih _ _ h.2⟩
 | .alt x y,hl,a,w,h=>by
  simp only [otOk2,Bool.and_eq_true] at hl
  exact⟨X7k hg x hl.1 a w h.1,X7k hg y hl.2 a w h.2⟩
def drawOk2(ops:Array Oper)(l:OT)(ss e1 e0:List Nat):Bool:=
 noSel ops && gOk ops && (l.depth == ops.size) && otOk2 ops.size e1 l &&
 (canG2 .any ops (fun b=>bif b then e1 else e0) (fun i=>ss.contains i) l true (fun _=>true) (Array.replicate ops.size false))
end
section
variable{P:Program}{c:Cx}{R:Value→World→Prop}{nt:Nat}{w0:World}{S0:List Nat}{df:List Deferred}{ρ ρ':Env}{Fs Fs' Fin B:List Hp}{bl bl':Blks}{sl sl':List OwnS}
 {K K':Act→World→Prop} {k:List Item} {ty:TypeId} {α:Type} {G:Hp}
def Cls2(Fs:List Hp)(bl:Blks)(sl:List OwnS):Bool→World→Prop
 |true=>ClsO Fs bl sl
 |false=>ClsO Fs bl []
theorem Cov.draw2{id:Nat}{ops:Array Oper}(l:OT)(ss e1 e0:List Nat)(bl0:Blks)(sl0:List OwnS)(hm:P.follows .mixedOrders=true)(hok:drawOk2 ops l ss e1 e0=true)(h2:∀p∈bl0,p∈bl)(h3:∀s∈sl0,s∈sl)
  (h:Cov nt w0 S0 df ρ (G::Fs) bl sl (DO2 P c R (Cls2 [G] bl0 sl0) (flatD2 ops (fun i=>ss.contains i) l) k)):
  Cov nt w0 S0 df ρ (G::Fs) bl sl (Run P c R (.code (.region id ops true)::k)):=fun a w hf hi=>by
 simp only [drawOk2,Bool.and_eq_true,beq_iff_eq] at hok
 obtain⟨⟨⟨⟨h5,h4⟩,h6⟩,h7⟩,h8⟩:=hok
 refine Run.region_can2 hm h5 l (fun b=>bif b then e1 else e0) _ (Cls2 [G] bl0 sl0) h6 h8 (fun b=>?_) (X7k h4 l h7 a _ (h a _ hf hi.drawn))
 cases b
 ·exact ClsO.of_le hi.drawn ⟨G,List.mem_cons_self,HpLe.refl _⟩ h2 (fun _ h=>absurd h List.not_mem_nil)
 ·exact ClsO.of_le hi.drawn ⟨G,List.mem_cons_self,HpLe.refl _⟩ h2 h3
theorem Cov.cls2a{G0:Hp}{bl0:Blks}{sl0:List OwnS}(h1:HpLe G0 G)(h2:∀p∈bl0,p∈bl)(h3:∀s∈sl0,s∈sl){K:Act→World→Prop}(h:Cov nt w0 S0 df ρ (G::Fs) bl sl K):Cov nt w0 S0 df ρ (G::Fs) bl sl (fun a w=>(Cls2 [G0] bl0 sl0 true w∧Cls2 [G0] bl0 sl0 false w)∧K a w):=
 fun a w hf hi=>⟨⟨ClsO.of_le hi ⟨G,List.mem_cons_self,h1⟩ h2 h3,ClsO.of_le hi ⟨G,List.mem_cons_self,h1⟩ h2 (fun _ h=>absurd h List.not_mem_nil)⟩,h a w hf hi⟩
theorem Cov.cls2b{G0:Hp}{bl0:Blks}{sl0:List OwnS}(h1:HpLe G0 G)(h2:∀p∈bl0,p∈bl){K:Act→World→Prop}(h:Cov nt w0 S0 df ρ (G::Fs) bl sl K):Cov nt w0 S0 df ρ (G::Fs) bl sl (fun a w=>Cls2 [G0] bl0 sl0 false w∧K a w):=
 fun a w hf hi=>⟨ClsO.of_le hi ⟨G,List.mem_cons_self,h1⟩ h2 (fun _ h=>absurd h List.not_mem_nil),h a w hf hi⟩
theorem Cov.dq2{b:Bool}{d:Nat}{op:Op}{v:Value}{Fs0:List Hp}{bl0:Blks}{sl0:List OwnS}{os:OX2}(h:QOp P ρ Fs0 bl0 (bif b then sl0 else []) op ty v)(hd:Nat.blt d nt=true)
  (hk:Cov nt w0 S0 df ((d,v)::ρ) Fs bl sl (DO2 P c R (Cls2 Fs0 bl0 sl0) os k)):
  Cov nt w0 S0 df ρ Fs bl sl (DO2 P c R (Cls2 Fs0 bl0 sl0) (.q b ⟨some d,op,ty,none⟩ os) k):=fun a w hf hi=>by
 simp only [DO2]
 refine⟨v, .inl ⟨rfl,fun w' hw'=>h nt df a w' hf ?_⟩,hk _ w (hf.put hd v) hi⟩
 cases b<;>exact hw'
theorem Cov.alt2{C:Bool→World→Prop}{x y:OX2}(h1:Cov nt w0 S0 df ρ Fs bl sl (DO2 P c R C x k))(h2:Cov nt w0 S0 df ρ Fs bl sl (DO2 P c R C y k)):Cov nt w0 S0 df ρ Fs bl sl (DO2 P c R C (.alt x y) k):=
 fun a w hf hi=>⟨h1 a w hf hi,h2 a w hf hi⟩
theorem Cov.draw_end2{C:Bool→World→Prop}(h:Cov nt w0 S0 df ρ Fs bl sl (Run P c R k)):Cov nt w0 S0 df ρ Fs bl sl (DO2 P c R C .nil k):=h
theorem Stp.t1{C:Bool→World→Prop}{d:Option Tmp}{op:Op}{ty:TypeId}{os:OX2}:Stp P (DO2 P c R C (.e ⟨d,op,ty,none⟩ 1 os) k) ⟨d,op,ty,none⟩ (fun a w=>(C true w∧C false w)∧DO2 P c R C os k a w):=fun a w h=>by
 simp only [DO2,wantedT,if_true]
 exact h
theorem Stp.t3{C:Bool→World→Prop}{d:Option Tmp}{op:Op}{ty:TypeId}{os:OX2}:Stp P (DO2 P c R C (.e ⟨d,op,ty,none⟩ 3 os) k) ⟨d,op,ty,none⟩ (fun a w=>C false w∧DO2 P c R C os k a w):=fun a w h=>by
 simp only [DO2,wantedT,if_true]
 exact h
end
end Go.Proofs.YtnfalgmfmiolbaaGreat
end

section
namespace Go.Proofs.YtnfalgmfmiolbaaGreat
open Go.RowKit
set_option linter.unusedSimpArgs false
theorem Xgf{α:Type}{l l':List α}{i:Int}{y:α}(h:lupd l i y=some l'):l'.length=l.length:=by
 obtain⟨_,_,rfl⟩:=X8c h
 simp
def Rep.hol{α:Type}(Q:Rep α)(c0:List Value)(hl:c0.length=Q.sz)(h1:c0.all (·.oneCell')=true):Rep (Option α) where
 sz:=Q.sz
 r:=fun G c y=>match y with
  |some y=>Q.r G c y
  |none=>c=c0
 len:=fun {G c x} h=>by
  cases x with
  |none=>rw[show c=c0 from h];exact hl
  |some x=>exact Q.len h
 mono:=fun {G G' c x} hg h=>by
  cases x with
  |none=>exact h
  |some x=>exact Q.mono hg h
 one:=fun {G c x} h=>by
  cases x with
  |none=>rw[show c=c0 from h];exact h1
  |some x=>exact Q.one h
theorem OL.hol{α:Type}{Q:Rep α}{G:Hp}{cs:List Value}{l:List α}{c0:List Value}(hl:c0.length=Q.sz)(h1:c0.all (·.oneCell')=true)(h:OL Q G cs l):OL (Q.hol c0 hl h1) G cs (l.map some):=by
 obtain⟨hb,xs,e,h3,h4⟩:=h
 refine⟨by simpa using hb,xs,e,h3,by simpa using h4.1,fun i c x hc hx=>?_⟩
 rw[List.getElem?_map] at hx
 cases hli:l[i]? with
 |none=>rw[hli] at hx;cases hx
 |some y=>rw[hli] at hx;cases hx;exact h4.2 i c y hc hli
theorem OL.unhol{α:Type}{Q:Rep α}{G G':Hp}{cs:List Value}{l l2:List α}{c0:List Value}{i:Int}{y:α}(hl:c0.length=Q.sz)(h1:c0.all (·.oneCell')=true)(hg:HpLe G G')(h:OL (Q.hol c0 hl h1) G cs ((l.map some).set i.toNat none))(hu:lupd l i y=some l2)(hy:Q.r G' c0 y):OL Q G' cs l2:=by
 obtain⟨h0,h00,rfl⟩:=X8c hu
 obtain⟨hb,xs,e,h3,h4⟩:=h
 refine⟨by simpa using hb,xs,e,h3,by simpa using h4.1,fun j c x hc hx=>?_⟩
 by_cases hj:j=i.toNat
 ·subst hj
  have hlt:i.toNat<l.length:=by omega
  rw[List.getElem?_set_self hlt] at hx
  cases hx
  have:=h4.2 i.toNat c none hc (by rw[List.getElem?_set_self (by simpa using hlt)])
  rw[show c=c0 from this];exact hy
 ·rw[List.getElem?_set_ne (Ne.symm hj)] at hx
  have:=h4.2 j c (some x) hc (by rw[List.getElem?_set_ne (Ne.symm hj),List.getElem?_map,hx];rfl)
  exact Q.mono hg this
section
variable{P:Program}{c:Cx}{R:Value→World→Prop}{nt:Nat}{w0:World}{S0:List Nat}{df:List Deferred}{ρ ρ':Env}{Fs Fs' Fin B:List Hp}{bl bl':Blks}{sl sl':List OwnS}
 {K K':Act→World→Prop} {k:List Item} {ty:TypeId} {α:Type} {G:Hp}
theorem Cov.storeH(q:Nat){Q:Rep α}{a:Option Addr}{m T sz:Nat}{l:List α}{cs dc:List Value}{i:Int}{u0:α}{t:TypeId}{x u:Operand}{v p:Value}{agg:Bool}{bytes:Nat}{z:List Value}(hs:Stp P K' ⟨none, .store t x u,ty,none⟩ K)
  (hi:sl[q]?=some (.s (.slice a l.length m) T sz l.length cs)) (hn:sz=Q.sz) (ho:OL Q G cs l) (hl:lidx l i=some u0) (hx:ev ρ x=some p) (hp:PtrO p a l.length m i.toNat sz 0) (hu:ev ρ u=some v) (ht:TyI P t agg (cellsL v).length bytes z) (hd:Elem sz cs i.toNat dc)
  (h1:(cellsL v).all (·.oneCell')=true) (hz:(cellsL v).length=sz)
  (hk:∀cs',Elem sz cs' i.toNat (cellsL v)→(∀(G':Hp)(y:α)(l':List α),HpLe G G'→lupd l i y=some l'→Q.r G' (cellsL v) y→OL Q G' cs' l')→Cov nt w0 S0 df ρ Fs bl (sl.set q (.s (.slice a l.length m) T sz l.length cs')) K):Cov nt w0 S0 df ρ Fs bl sl K':=by
 obtain⟨b1,b2,b3⟩:=X5y hl
 have hz':(cellsL v).length=Q.sz:=hz.trans hn
 refine Cov.storeR q 0 (Q:=Q.hol (cellsL v) hz' h1) (l:=l.map some) (l':=(l.map some).set i.toNat none) (y:=none) hs (by rw[List.length_map];exact hi) hn (ho.hol hz' h1) (by unfold lupd;rw[if_pos ⟨b1,by rw[List.length_map];exact b2⟩]) hx (by rw[List.length_map];exact hp) hu ht hd ?_ h1 (by rw[hz];simp) (fun cs' _ ho'=>?_)
 ·show List.take 0 dc++cellsL v++List.drop (0+(cellsL v).length) dc=cellsL v
  rw[Nat.zero_add,hz, ← hd.1,List.drop_length];simp
 ·obtain⟨c0,g1,g2⟩:=ho'.get (i:=i) (x:=none) (by
   unfold lidx
   rw[if_pos b1,List.getElem?_set_self (by rw[List.length_map];omega)])
  have g2':c0=cellsL v:=g2
  subst g2'
  have:=hk cs' (by rw[hn];exact g1) (fun G' y l' hg hl' hy=>ho'.unhol hz' h1 hg hl' hy)
  simpa only [List.length_set,List.length_map] using this
end
end Go.Proofs.YtnfalgmfmiolbaaGreat
end

section
namespace Go.Proofs.YtnfalgmfmiolbaaGreat
open Go.RowKit
set_option linter.unusedSimpArgs false
def garb(v v':Value):Guest where
 blks:=v.ownBlock.toList.filter fun b=> !v'.ownBlock.toList.contains b
 nodup:=(X9a v).filter _
 holds:=fun w=>∀b∈v.ownBlock.toList.filter (fun b=> !v'.ownBlock.toList.contains b),b<w.heap.size
 lt:=fun w h b hb=>h b hb
 same:=fun w w' h hs b hb=>by
  have:=hs b hb
  have hlt:=h b hb
  rcases Nat.lt_or_ge b w'.heap.size with h' |h'
  ·exact h'
  ·rw[Array.getElem?_eq_none h',Array.getElem?_eq_getElem hlt] at this;cases this
theorem Xhb(v v':Value):∀b∈v.ownBlock.toList,b∈v'.ownBlock.toList∨b∈(garb v v').blks:=fun b hb=>by
 by_cases h:b∈v'.ownBlock.toList
 ·exact .inl h
 ·exact .inr (List.mem_filter.2 ⟨hb,by simpa using h⟩)
theorem Xgg(v v':Value):∀b∈(garb v v').blks,b∈v.ownBlock.toList:=fun b hb=>(List.mem_filter.1 hb).1
theorem Xgt(v v':Value):∀b∈v'.ownBlock.toList,b ∉ (garb v v').blks:=fun b hb h=>by
 have:=(List.mem_filter.1 h).2
 simp at this
 exact this (by simpa using hb)
def both(s:OwnS)(R:Guest)(h:∀b∈s.blocks,b ∉ R.blks)(hn:s.blocks.Nodup):Guest where
 blks:=s.blocks++R.blks
 nodup:=List.nodup_append.2 ⟨hn,R.nodup,fun a ha b hb e=>h a ha (e▸hb)⟩
 holds:=fun w=>s.holds w∧R.holds w
 lt:=fun w hw b hb=>(List.mem_append.1 hb).elim (OwnS.lt hw.1 b) (R.lt w hw.2 b)
 same:=fun w w' hw hs=>⟨OwnS.same hw.1 fun b hb=>hs b (List.mem_append_left _ hb),R.same w w' hw.2 fun b hb=>hs b (List.mem_append_right _ hb)⟩
theorem Xgu(s:OwnS)(R:Guest)(h:∀b∈s.blocks,b ∉ R.blks)(hn:s.blocks.Nodup):(OwnS.g (both s R h hn)).blocks.Nodup:=(both s R h hn).nodup
section
variable{P:Program}{c:Cx}{R:Value→World→Prop}{nt:Nat}{w0:World}{S0:List Nat}{df:List Deferred}{ρ ρ':Env}{Fs Fs' Fin B:List Hp}{bl bl':Blks}{sl sl':List OwnS}
 {K K':Act→World→Prop} {k:List Item} {ty:TypeId} {α:Type} {G:Hp}
theorem Inv.unite{w:World}{s:OwnS}{R:Guest}{h:∀b∈s.blocks,b ∉ R.blks}{hn:s.blocks.Nodup}{rest:List OwnS}(hi:Inv w0 S0 Fs bl (.g (both s R h hn)::rest) w):Inv w0 S0 Fs bl (s:: .g R::rest) w:=by
 have e:blks bl (s:: .g R::rest)=blks bl (.g (both s R h hn)::rest):=by simp [blks,OwnS.blocks,both,List.append_assoc]
 obtain⟨m,k,n,mi,ap⟩:=hi
 refine⟨⟨m.fs,m.own,fun t ht=>?_⟩,k,by rw[e];exact n,by rw[e];exact mi,by rw[e];exact ap⟩
 have hb:=m.slh _ List.mem_cons_self
 rcases List.mem_cons.1 ht with rfl |ht
 ·exact hb.1
 ·rcases List.mem_cons.1 ht with rfl |ht
  ·exact hb.2
  ·exact m.slh _ (List.mem_cons_of_mem _ ht)
theorem Cov.appendG{α:Type}(l l2:List α)(f:α→List Value){d:Nat}{t e:TypeId}{s x:Operand}{A0 a2:Option Addr}{cap m c2:Nat}{G:Hp}{agg:Bool}{sz bytes:Nat}{z:List Value}
  (hs:Stp P K' ⟨some d, .call ⟨.builtin .append,#[s,x],#[t,t]⟩,ty,none⟩ K) (ht:slOf P t=some e) (hel:TyI P e agg sz bytes z) (hz:z.length=sz) (hsz:Nat.blt 0 sz=true) (hby:Nat.ble bytes 8388608=true)
  {rest:List OwnS} (hi:sl= .s (.slice A0 l.length cap) e sz l.length (l.map f).flatten::rest) (he:ev ρ s=some (.slice A0 l.length cap)) (hx:ev ρ x=some (.slice a2 m c2)) (hsl:Sl G sz (.slice a2 m c2) (l2.map f)) (hG:G∈Fs)
  (hone:∀x∈l2,(f x).all (·.oneCell')=true) (hb:l.length+l2.length≤16777216) (hd:Nat.blt d nt=true)
  (hk:∀a' cap' (R:Guest),(∀b∈(Value.slice A0 l.length cap).ownBlock.toList,b∈(Value.slice a' (l++l2).length cap').ownBlock.toList∨b∈R.blks)→Cov nt w0 S0 df ((d, .slice a' (l++l2).length cap')::ρ) Fs bl (.s (.slice a' (l++l2).length cap') e sz (l++l2).length ((l++l2).map f).flatten:: .g R::rest) K):Cov nt w0 S0 df ρ Fs bl sl K':=fun a w hfi hinv=>by
 subst hi
 have hi:(OwnS.s (.slice A0 l.length cap) e sz l.length (l.map f).flatten::rest)[0]?=some (.s (.slice A0 l.length cap) e sz l.length (l.map f).flatten):=rfl
 refine hs a w ?_
 have hown:w.ownsRow 0 e sz _ _ _:=hinv.mem.slh _ (List.mem_of_getElem? hi)
 obtain⟨a3,c3,hv,hlc,hls,hc⟩:=hsl
 simp only [List.length_map,Value.slice.injEq] at hv hlc
 obtain⟨rfl,rfl,rfl⟩:=hv
 have hfl:(l2.map f).flatten.length=l2.length*sz:=by
  have:∀l2:List α,(∀x∈l2.map f,x.length=sz)→(l2.map f).flatten.length=l2.length*sz:=by
   intro l2
   induction l2 with
   |nil=>simp
   |cons x l2 ih=>
    intro h
    simp only [List.map_cons,List.flatten_cons,List.length_append,List.length_cons,Nat.add_mul,Nat.one_mul]
    rw[ih (fun y hy=>h y (by simp [hy])),h (f x) (by simp)];omega
  exact this l2 hls
 obtain⟨a',cap',w',hr,ho,kw,hfr⟩:=Xaf (P:=P) (ty:=ty) (w:=w) ht hel hz (by simpa [Nat.blt_eq] using hsz) hown (a:=a2) (m:=l2.length) (c:=c2) (news:=(l2.map f).flatten)
  (fun hn=>by
   cases l2 with
   |nil=>rfl
   |cons y l2=>obtain⟨b,o,hbo,_⟩:=hc (by simp);rw[hn] at hbo;cases hbo)
  hfl
  (fun ad had j u hj=>by
   cases l2 with
   |nil=>simp at hj
   |cons y l2=>
    obtain⟨b,o,hbo,hcc⟩:=hc (by simp)
    rw[had] at hbo
    obtain rfl:=Option.some.inj hbo
    rw[X1h]
    have hpos:0<sz:=by simpa [Nat.blt_eq] using hsz
    have hlt:j<(y::l2).length*sz:=by
     rw[← hfl]
     rcases Nat.lt_or_ge j (((y::l2).map f).flatten.length) with h |h
     ·exact h
     ·rw[List.getElem?_eq_none h] at hj;cases hj
    have hq:j/sz<(y::l2).length:=Nat.div_lt_of_lt_mul (by rw[Nat.mul_comm];exact hlt)
    have hm:j%sz<sz:=Nat.mod_lt _ hpos
    have hxq:((y::l2).map f)[j/sz]?=some (f ((y::l2)[j/sz])):=by rw[List.getElem?_map,List.getElem?_eq_getElem hq];rfl
    have hlen:(f ((y::l2)[j/sz])).length=sz:=hls _ (List.mem_map.2 ⟨_,List.getElem_mem hq,rfl⟩)
    have hg:=X2y ((y::l2).map f) (j/sz) _ (j%sz) ((f ((y::l2)[j/sz]))[j%sz]'(by omega)) hls hxq (List.getElem?_eq_getElem _)
    rw[show j/sz*sz+j%sz=j from by rw[Nat.mul_comm];exact Nat.div_add_mod j sz] at hg
    rw[hg] at hj
    have:=hcc (j/sz) _ hxq (j%sz) u (by rw[List.getElem?_eq_getElem (by omega)];exact hj)
    rw[Nat.add_assoc,show j/sz*sz+j%sz=j from by rw[Nat.mul_comm];exact Nat.div_add_mod j sz] at this
    exact(hinv.mem.fs G hG).cell this)
  (fun u hu=>by
   obtain⟨y,hy,huy⟩:=List.mem_flatten.1 hu
   obtain⟨x,hxm,rfl⟩:=List.mem_map.1 hy
   exact List.all_eq_true.1 (hone x hxm) u huy) hb (by simpa [Nat.ble_eq] using hby)
 have hrun:(execOp a.eval (⟨some d, .call ⟨.builtin .append,#[s,x],#[t,t]⟩,ty,none⟩:OpX).oper).run P w= .ok (.value (.slice a' (l.length+l2.length) cap')) w':=by
  refine X6o (X89 (s:=Builtin.append_ #[t,t] ty (#[s,x].map a.eval)) ?_)
  rw[show #[s,x].map a.eval=#[a.eval s,a.eval x] from by simp,X10 hfi he,X10 hfi hx]
  exact hr
 unfold Oper.wp
 rw[hrun]
 have hk':=hk a' cap' (garb (.slice A0 l.length cap) (.slice a' (l++l2).length cap')) (Xhb _ _)
 simp only [List.length_append,List.map_append,List.flatten_append] at hk'
 refine hk' _ _ (hfi.put hd _) (Inv.unite (hinv.set_s 0 hi kw (s':= .g (both (.s (.slice a' (l.length+l2.length) cap') e sz (l.length+l2.length) ((l.map f).flatten++(l2.map f).flatten)) (garb (.slice A0 l.length cap) (.slice a' (l.length+l2.length) cap')) (Xgt _ _) (X9a _))) ⟨ho,fun b hb=>?_⟩ (Xgu _ _ _ _) fun b hb=>?_))
 ·have:=(OwnS.lt (hinv.mem.slh _ List.mem_cons_self)) b (Xgg _ _ b hb)
  exact Nat.lt_of_lt_of_le this kw.size
 ·rcases List.mem_append.1 hb with hb |hb
  ·simp only [OwnS.blocks,Option.mem_toList] at hb ⊢
   exact hfr b hb
  ·exact .inl (Xgg _ _ b hb)
theorem Cov.appOG{Q:Rep α}{d:Nat}{t e:TypeId}{s x:Operand}{a a2:Option Addr}{m m2 n T2:Nat}{l l2 l':List α}{cs cs2:List Value}{agg:Bool}{sz bytes:Nat}{z:List Value}
  (hs:Stp P K' ⟨some d, .call ⟨.builtin .append,#[s,x],#[t,t]⟩,ty,none⟩ K) (ht:slOf P t=some e) (hel:TyI P e agg sz bytes z) (hz:z.length=sz) (hsz:Nat.blt 0 sz=true) (hby:Nat.ble bytes 8388608=true)
  {rest:List OwnS} (hi:sl= .s (.slice a2 n m2) T2 sz n cs2:: .s (.slice a l.length m) e sz l.length cs::rest) (hn:sz=Q.sz) (ho:OL Q G cs l) (ho2:OL Q G cs2 l2) (hln:n=l2.length) (he:ev ρ s=some (.slice a l.length m)) (hx:ev ρ x=some (.slice a2 n m2)) (hB:Bd w0 S0 B G) (hl:lapp l l2=some l') (hd:Nat.blt d nt=true)
  (hk:∀a' m' cs' (R:Guest),(∀b∈(Value.slice a l.length m).ownBlock.toList,b∈(Value.slice a' l'.length m').ownBlock.toList∨b∈R.blks)→OL Q G cs' l'→Cov nt w0 S0 df ((d, .slice a' l'.length m')::ρ) (G::B) bl (.s (.slice a' l'.length m') e sz l'.length cs':: .g R::rest) K):Cov nt w0 S0 df ρ (G::B) bl sl K':=by
 subst hn hln hi
 obtain⟨hb,rfl⟩:=Xcq hl
 obtain⟨hb1,xs,rfl,h3,h4⟩:=ho
 obtain⟨_,ys,rfl,h5,h6⟩:=ho2
 have e1:xs.length=l.length:=h4.1
 have e2:ys.length=l2.length:=h6.1
 refine Cov.freezeS 0 ys rfl rfl e2 h5 _ rfl fun Gs hbs hss=>?_
 rw[← e1] at he
 rw[← e2] at hx hss
 have hi':OwnS.s (.slice a l.length m) e Q.sz l.length xs.flatten::rest= .s (.slice a xs.length m) e Q.sz xs.length (xs.map id).flatten::rest:=by simp [e1]
 refine Cov.appendG xs ys id hs ht hel hz hsz hby hi' he hx (by simpa using hss) List.mem_cons_self (fun c hc=>?_) (by omega) hd fun a' m' R hR=>?_
 ·obtain⟨j,hj,rfl⟩:=List.getElem_of_mem hc
  exact Q.one (h6.2 j _ _ (List.getElem?_eq_getElem hj) (List.getElem?_eq_getElem (by omega)))
 ·have hk':=hk a' m' (xs++ys).flatten R (by simpa [e1,e2] using hR) ⟨by simp;omega,xs++ys,rfl,fun c hc=>by rcases List.mem_append.1 hc with h |h;exact h3 c h;exact h5 c h,by simp [e1,e2],fun i c y hc hy=>by
   rcases Nat.lt_or_ge i xs.length with h |h
   ·rw[List.getElem?_append_left h] at hc
    rw[List.getElem?_append_left (by omega)] at hy
    exact h4.2 i c y hc hy
   ·rw[List.getElem?_append_right h] at hc
    rw[List.getElem?_append_right (by omega), ← e1] at hy
    exact h6.2 _ c y hc hy⟩
  have e3:(xs++ys).length=(l++l2).length:=by simp [e1,e2]
  exact Cov.less (G::B) (fun F hF=>List.mem_cons_of_mem _ hF) (by simpa [e1,e2] using hk')
theorem Cov.retWG(n:Nat){fn:Func}{items:List Item}(hit:items=[]∨∃k,items= .code .ret::k)(rs:List ResultVar)(vs:List Value){Q:Value→Blks→List OwnS→Hp→Prop}(sl1 sl2:List OwnS)(hsl:sl=sl1++sl2)(hro:c.ro=none)(hf:P.funcs[c.fn]?=some fn)(hrs:fn.results=rs.toArray)
  (hres:RVs P ρ Fs bl sl rs vs) (hsub:∀F∈Fin,F∈Fs) (hG:G∈Fs) (hbd:Bd w0 S0 Fin G) (hS:∀b∈S0,b∈blks bl sl) (hpost:∀G',HpLe G G'→Q (retVal vs) (bl.drop n) sl1 G'):
  Cov nt w0 S0 [] ρ Fs bl sl (Run P c (RP w0 S0 Fin (fun v Fr bl sl=>∀G',Ext (Fr::Fin) G'→Q v bl sl G')) items):=by
 intro a w hfi hi
 have hsb:(blks (bl.drop n) sl1).Sublist (blks bl sl):=by
  subst hsl
  refine((List.drop_sublist n bl).map _).append ?_
  rw[List.flatMap_append]
  exact List.sublist_append_left _ _
 have hsm:∀s∈sl1,s∈sl:=fun s hs=>by rw[hsl];exact List.mem_append_left _ hs
 exact(Cov.part hG (fun a w hfi hinv=>by
  refine Run.leave hit hro hf hfi.1 (X8a hfi hinv.mem hrs (Xh8 (fun F hF=>List.mem_cons_of_mem _ hF) rs vs hres)) ⟨Proofs.YtnfalgmfmiolbaaGreat.part w0 G,bl.drop n,sl1,Xdq w0 G,?_,fun G' he=>hpost G' (Xgc hbd (fun b hb=>hi.apart b (hS b hb) G hG) he)⟩
  refine hinv.change [] (by simp) (Keep.refl w []) (fun F hF=> .inl ?_) (fun p hp=>hinv.mem.own p (List.mem_of_mem_drop hp)) (fun s hs=>hinv.mem.slh s (hsm s hs)) (hinv.nodup.sublist hsb) (fun b hb=> .inl (hsb.subset hb))
  rcases List.mem_cons.1 hF with rfl |hF
  ·exact List.mem_cons_self
  ·exact List.mem_cons_of_mem _ (hsub F hF))) a w hfi hi
theorem Xit(a:Option Addr)(n k n' k':Nat):(Value.slice a n k).ownBlock=(Value.slice a n' k').ownBlock:=by
 cases a with
 |none=>rfl
 |some a=>obtain⟨g,o,e⟩:=a;cases o<;>cases e<;>rfl
theorem hS_s{a:Option Addr}{n k' m T sz n' k2 m' T' sz':Nat}{cs cs':List Value}(i:Nat)(hi:sl[i]?=some (.s (.slice a n' k2) T' sz' m' cs')):∀b∈(OwnS.s (.slice a n k') T sz m cs).blocks,b∈blks bl sl:=fun b hb=>by
 refine List.mem_append_right _ (List.mem_flatMap.2 ⟨_,List.mem_of_getElem? hi,?_⟩)
 simp only [OwnS.blocks] at hb ⊢
 rw[Xit a n' k2 n k'];exact hb
theorem hS_g{a a':Option Addr}{n k' m T sz n' k2 m' T' sz':Nat}{cs cs':List Value}{R:Guest}(i j:Nat)(hi:sl[i]?=some (.s (.slice a' n' k2) T' sz' m' cs'))(hj:sl[j]?=some (.g R))(hR:∀b∈(Value.slice a n k').ownBlock.toList,b∈(Value.slice a' n' k2).ownBlock.toList∨b∈R.blks):∀b∈(OwnS.s (.slice a n k') T sz m cs).blocks,b∈blks bl sl:=fun b hb=>by
 rcases hR b hb with h |h
 ·exact List.mem_append_right _ (List.mem_flatMap.2 ⟨_,List.mem_of_getElem? hi,h⟩)
 ·exact List.mem_append_right _ (List.mem_flatMap.2 ⟨_,List.mem_of_getElem? hj,h⟩)
theorem hS2{s1 s2:OwnS}(h1:∀b∈s1.blocks,b∈blks bl sl)(h2:∀b∈s2.blocks,b∈blks bl sl):∀b∈blks [] [s1,s2],b∈blks bl sl:=fun b hb=>by
 simp only [blks,List.map_nil,List.nil_append,List.flatMap_cons,List.flatMap_nil,List.append_nil,List.mem_append] at hb
 rcases hb with hb |hb
 ·exact h1 b hb
 ·exact h2 b hb
end
end Go.Proofs.YtnfalgmfmiolbaaGreat
end
