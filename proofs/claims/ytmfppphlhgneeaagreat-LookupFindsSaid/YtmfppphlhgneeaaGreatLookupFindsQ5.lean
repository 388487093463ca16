/- What the proof needs, gathered by wip/gen/shake.py. -/
import Derived.Calls
import Derived.Deep.Quiet
import Derived.Below
import Derived.Laws.AppendOwn
import Derived.WalkKit
import Derived.Laws.OwnMore
import Derived.Deep.Slices
import Derived.ChangeOld
import Derived.ArgAppend
import Derived.RangeFuncIn
import Derived.RangeFuncRecord
import Derived.RangeFuncLeaves
import Derived.Laws.MakeOwn
import Derived.IntWalk
import Derived.Laws.IdiomStrings
import Derived.Laws.Cover3
import Derived.Laws.CopyOwn
import Derived.MapKept
import Derived.RangeFuncNested
import Derived.Test.YtmfppphlhgneeaaGreatRows
import Derived.ProofKit
import Derived.OpenShut
import Derived.ShutString
import Derived.Test.YtmfppphlhgneeaaGreatLookupFindsQ4
set_option linter.unusedVariables false
set_option linter.unusedSimpArgs false
set_option linter.unusedSectionVars false
section
set_option maxHeartbeats 4000000
set_option maxRecDepth 100000
namespace Go.Proofs.YtmfppphlhgneeaaGreat
open Go.RowKit
set_option linter.unusedSimpArgs false
set_option linter.unusedVariables false
set_option synthInstance.maxSize 2000
set_option synthInstance.maxHeartbeats 400000
variable{Fs:Dm}{G:Hp}{a0_3 a0_4 a1 a2:Ar}{k0_3 k0_4 k1 k2:Nat}
theorem Xjl{x0_0 x0_1 x0_2:Int}{x0_3 x0_4:Aa}{r:Int}(hG:G∈Fs)(s0_3:SlR ri G a0_3 k0_3 x0_3)(s0_4:SlR ri G a0_4 k0_4 x0_4)(h:Xe4 (x0_0,x0_1,x0_2,x0_3,x0_4)=some r):RetS Tryz.prog 160 #[.agg #[.int .i64 x0_0, .int .i64 x0_1, .int .i64 x0_2, .slice a0_3 x0_3.length k0_3, .slice a0_4 x0_4.length k0_4]] Fs [] [] (rv (.int .i64 r)):=by
 unfold Xe4 at h;try dsimp only at h
 refine RetS.st [(0,_)] Tryz.func160 Tryz.ntmps160 hG fun w0 S0 hS0 B0=>?_;refine .go 2 ?_;refine .box [_,_,_,_,_] .ro rfl rfl rfl (fun b1 hb1=>?_);refine .go 6 ?_;refine .q .ro (.load_own_a 0 [_] rfl rfl ty36 rfl) rfl ?_;obtain⟨u2,hu2,r3⟩:=X0 h;refine .cV [_] Tryz.call54 (X2k mcs hu2) ?_;refine .go 7 ?_;refine .cH r3 (fun c6 r7=>?_) (fun c6 r8=>?_);cases r7;refine .go 8 ?_;refine .kR (fun y=>y=⟨[(17, .bool (decide ((x0_1<0)∨(32<x0_1))))],G::Fs,[],[]⟩) [(1,_)] [_] [0] [] [] 4 ?_ ?_;rintro _ rfl;refine .gn 1 ?_;refine .kR (fun y=>y=⟨[(22, .bool (decide (((x0_1<0)∨(32<x0_1))∨(x0_2<0))))],G::Fs,[],[]⟩) [(1,_)] [_] [0] [] [] 4 ?_ ?_;rintro _ rfl;refine .gn 1 ?_;refine .kR (fun y=>y=⟨[(27, .bool (decide ((((x0_1<0)∨(32<x0_1))∨(x0_2<0))∨(32<x0_2))))],G::Fs,[],[]⟩) [(1,_)] [_] [0] [] [] 4 ?_ ?_;rintro _ rfl;refine .gn 1 ?_;refine .cH r8 (fun c21 r22=>?_) (fun c21 r23=>?_);cases r22;refine .go 14 ?_;refine .kR (fun y=>y=⟨[(44, .bool (decide (((x0_3.length:Int)≠(w64 (x0_1*x0_2)))∨((x0_4.length:Int)≠x0_1))))],G::Fs,[],[]⟩) [(1,_)] [_] [0] [] [] 7 ?_ ?_;rintro _ rfl;refine .gn 1 ?_;refine .cH r23 (fun c28 r29=>?_) (fun c28 r30=>?_);cases r29;refine .go 5 ?_;refine .q .ro (.load_own_a 0 [_] rfl rfl ty36 rfl) rfl (.go 2 ?_);obtain⟨u31,hu31,r32⟩:=X0 r30;refine .cV [_,_] Tryz.call119 (X4x mcs s0_3 hu31) ?_;refine .go 2 ?_;obtain⟨u41,h42,r43⟩:=X0 r32;refine .kR (fun y=>y=⟨[(58, .bool u41)],G::Fs,[],[]⟩) [] [_] [0] [] [] 7 ?_ ?_;rintro _ rfl;refine .gn 1 ?_;refine .cB r43 (fun c46 r47=>?_) (fun c46 r48=>?_);cases r47;refine .go 5 ?_;cases r48;refine .drop 1 0 [] _ rfl rfl ?_;refine .rS [.tmp 2] [_] Tryz.func160 Tryz.results160 ⟨rfl,rfl,rfl⟩;intro hb40;refine .split_b 51 rfl (fun c39=>?_) (fun c39=>?_);have r49:=ifT h42 c39
 refine .go 7 ?_;exact(hb40 _ rfl).ax ⟨sval r49,trivial⟩;have r50:=ifBF h42 c39
 refine .go 3 ?_;refine .q .ro (.load_own_a 0 [_] rfl rfl ty36 rfl) rfl (.go 5 ?_);obtain⟨u51,hu51,r52⟩:=X0 r50;refine .cV [_,_] Tryz.call119 (X4x mcs s0_4 hu51) ?_;refine .go 3 ?_;exact(hb40 _ rfl).ax ⟨sval r52,trivial⟩;intro hb25;refine .split 37 rfl (fun c24=>?_) (fun c24=>?_);refine .go 7 ?_;exact(hb25 _ rfl).ax ⟨Xq c24,rfl,trivial⟩;refine .go 13 ?_;exact(hb25 _ rfl).ax ⟨Xr c24,rfl,trivial⟩;intro hb18;refine .split 23 rfl (fun c17=>?_) (fun c17=>?_);refine .go 4 ?_;exact(hb18 _ rfl).ax ⟨Xq c17,rfl,trivial⟩;refine .go 7 ?_;exact(hb18 _ rfl).ax ⟨Xr c17,rfl,trivial⟩;intro hb14;refine .split 18 rfl (fun c13=>?_) (fun c13=>?_);refine .go 4 ?_;exact(hb14 _ rfl).ax ⟨Xq c13,rfl,trivial⟩;refine .go 7 ?_;exact(hb14 _ rfl).ax ⟨Xr c13,rfl,trivial⟩;intro hb10;refine .split 13 rfl (fun c9=>?_) (fun c9=>?_);refine .go 4 ?_;exact(hb10 _ rfl).ax ⟨Xq c9,rfl,trivial⟩;refine .go 7 ?_;exact(hb10 _ rfl).ax ⟨Xr c9,rfl,trivial⟩
theorem Xi2{x0_0 x0_1 x0_2:Int}{x0_3 x0_4:Aa}{r:Ac×Aa}(hG:G∈Fs)(s0_3:SlR ri G a0_3 k0_3 x0_3)(s0_4:SlR ri G a0_4 k0_4 x0_4)(h:Xd8 (x0_0,x0_1,x0_2,x0_3,x0_4)=some r):RetW Tryz.prog 161 #[.agg #[.int .i64 x0_0, .int .i64 x0_1, .int .i64 x0_2, .slice a0_3 x0_3.length k0_3, .slice a0_4 x0_4.length k0_4]] Fs [] [] (fun v bo so G=>∃a0:Option Addr,∃k0:Nat,∃a1:Option Addr,∃k1:Nat,v= .tuple #[.slice a0 r.1.length k0, .slice a1 r.2.length k1]∧bo=[]∧so=[]∧SlR (Rep.sl ri) G a0 k0 r.1∧SlR ri G a1 k1 r.2):=by
 unfold Xd8 at h;try dsimp only at h
 refine RetW.st [(0,_)] Tryz.func161 Tryz.ntmps161 hG fun w0 S0 hS0 B0=>?_;refine .go 2 ?_;refine .box [_,_,_,_,_] .ro rfl rfl rfl (fun b1 hb1=>?_);refine .go 19 ?_;refine .kB (fun y=>∃(Z0:Ac)(Z1:_)(Z2:Nat)(Z3 Z4 Z5 Z6 Z7:_),y=⟨[(5, .slice Z1 Z0.length Z2)],G::Fs,[(b1, .cells #[.int .i64 Z5, .int .i64 Z6, .int .i64 Z7, .slice a0_3 x0_3.length k0_3, .slice a0_4 x0_4.length k0_4] 215 (0,0))],[.s (.slice Z1 Z0.length Z2) 48 1 Z0.length Z4, .g (packG 3 1 Z3)]⟩∧NL ri G Z3 Z4 Z0∧(X2t x0_0) Z0 Z5 Z6 Z7=some r) [(1,_),(4,_)] [] [] [] [] ?_ ?_;rintro _ ⟨v12,a13,k14,es15,cs16,v17,v18,v19,rfl,o20,r21⟩;refine .gn 0 ?_;unfold X2t at r21;try dsimp only at r21
 refine .go 9 ?_;refine .block (.own_nil 3 1 (.pullS 2 rfl [_,_,_] rfl (.pullS 2 rfl [_,_,_] rfl (.pullS 2 rfl [_,_,_] rfl ?_))));refine .lp (fun y m=>∃(Z0:Nat)(Z1:Aa)(Z2:_)(Z3:Nat)(Z4 Z5:_)(Z6:Ac)(Z7 Z8 Z9 Z10 Z11:_),y=⟨[(7, .slice Z2 Z1.length Z3),(8, .int .i64 Z5),(5, .slice a13 Z6.length k14)],[],[(b1, .cells #[.int .i64 Z9, .int .i64 Z10, .int .i64 Z11, .slice a0_3 x0_3.length k0_3, .slice a0_4 x0_4.length k0_4] 215 (0,0))],[.s (.slice Z2 Z1.length Z3) 3 1 Z1.length Z4, .s (.slice a13 Z6.length k14) 48 1 Z6.length Z8, .g (packG 3 1 Z7)]⟩∧Z0=m∧OL ri G Z4 Z1∧NL ri G Z7 Z8 Z6∧Z6.length=v12.length∧X7 x0_0 Z0 Z1 Z5 Z6 Z9 Z10 Z11=some r) [(1,_),(4,_)] [] [] ⟨big,([]:List Int),none,0,[],0,v12,es15,cs16,v17,v18,v19,rfl,rfl,(OL.nil (Rp':=ri)),o20,rfl,r21⟩ (fun y m hI hb22=>?_);obtain⟨n23,v24,a25,k26,cs27,v28,v29,es30,cs31,v32,v33,v34,rfl,rfl,o35,o38,hl39,r40⟩:=hI;refine .gn 0 ?_;obtain⟨m41,rfl⟩:∃m,n23=m+1:=by cases n23 with |zero=>exact absurd (show(none:Option _)=some _ from r40) (by simp) |succ m=>exact⟨m,rfl⟩
 have r42:Xan x0_0 (X7 x0_0 m41) v24 v28 v29 v32 v33 v34=some r:=r40;clear r40;unfold Xan at r42;try dsimp only at r42
 refine .go 8 ?_;refine .kR (fun y=>y=⟨[(58, .bool (decide ((v28<v34)∧((v24.length:Int)<(v29.length:Int)))))],G::Fs,[],[]⟩) [(7,_),(8,_),(5,_),(1,_),(4,_)] [_] [0] [_,_,_] [0,1,2] 6 ?_ ?_;rintro _ rfl;refine .gn 1 ?_;refine .cH r42 (fun c43 r44=>?_) (fun c43 r45=>?_);refine .go 2 ?_;refine .block (.go 12 ?_);refine .kB (fun y=>∃(Z0 Z1 Z2 Z3:_),y=⟨[(10, .int .i64 Z0)],G::Fs,[(b1, .cells #[.int .i64 Z1, .int .i64 Z2, .int .i64 Z3, .slice a0_3 x0_3.length k0_3, .slice a0_4 x0_4.length k0_4] 215 (0,0))],[]⟩∧(X3c (X7 x0_0 m41) v28 x0_0 (v24.length:Int) v24 v29) Z0 Z1 Z2 Z3=some r) [(7,_),(8,_),(5,_),(1,_),(4,_),(9,_)] [] [] [_,_,_] [0,1,2] ?_ ?_;rintro _ ⟨v46,v47,v49,v50,rfl,r51⟩;refine .gn 0 ?_;unfold X3c at r51;try dsimp only at r51
 refine .go 8 ?_;refine .cH r51 (fun c52 r53=>?_) (fun c52 r54=>?_);refine .exit rfl ?_;refine .go 5 ?_;exact(hb22 _ _ ⟨m41,v24,a25,k26,cs27,(w64 (v28+1)),v29,es30,cs31,v47,v49,v50,rfl,rfl,o35,o38,hl39,r53⟩ (Nat.lt_succ_self _)).ar;refine .go 2 ?_;refine .kG (fun y=>∃(Z0:Ac)(Z1 Z2:_),y=⟨[(5, .slice a13 Z0.length k14)],G::Fs,[],[.s (.slice a13 Z0.length k14) 48 1 Z0.length Z2, .g (packG 3 1 Z1)]⟩∧NL ri G Z1 Z2 Z0∧Z0.length=v12.length∧(Xal (X7 x0_0 m41) v28 x0_0 (v24.length:Int) v47 v49 v50 v24) Z0=some r) [(7,_),(8,_),(1,_),(4,_),(9,_)] [_] [0] [_] [0] ?_ ?_;rintro _ ⟨v55,es56,cs57,rfl,o58,hl59,r60⟩;refine .gn 0 ?_;unfold Xal at r60;try dsimp only at r60
 refine .go 1 ?_;refine .drawL (.q 0 (.q 1 (.q 2 (.q 3 (.q 6 (.e 4 1 (.e 5 1 (.e 7 1 (.e 8 1 (.e 9 1 (.q 10 .nil))))))))))) [_] (by kernel_rfl) (by kernel_rfl) (X1 [0] rfl) (.go 1 ?_);refine .dq (.load_own_a 0 [_] rfl rfl ty36 rfl) rfl (.go 3 ?_);obtain⟨u61,hu61,r62⟩:=X0 r60;obtain⟨e63,he65,hn66,ho67,p68⟩:=NL.get o58 hu61;refine .q .d1 (.idxO 0 rfl rfl rfl hu61 sl37 ty48.sz) rfl (.clsL (HpLe.refl _) (X1 [0] rfl) (.q .d1 (.loadO 0 0 rfl hu61 p68 rfl (.inl ⟨rfl,rfl⟩) ty48 rfl) rfl (.clsL (HpLe.refl _) (X1 [0] rfl) ?_)));obtain⟨u69,hu69,r70⟩:=X0 r62;obtain⟨c71,p72,h73⟩:=OL.get ho67 hu69;obtain rfl:=h73;refine .q .d1 (.inN 1 rfl he65 hn66 (.idxO (l:=u61) 0 rfl rfl rfl hu69 sl48 ty3.sz)) rfl (.clsL (HpLe.refl _) (X1 [0] rfl) (.q .d1 (.inN 1 rfl he65 hn66 (.loadO (l:=u61) 0 0 rfl hu69 p72 rfl (.inl ⟨rfl,rfl⟩) ty3 rfl)) rfl (.clsL (HpLe.refl _) (X1 [0] rfl) ?_)));obtain⟨u74,hu74,r75⟩:=X0 r70;refine .cVd [_,_] Tryz.call163 (Xft mcs hu74) ?_;refine .clsL (HpLe.refl _) (X1 [0] rfl) (.go 7 ?_);obtain⟨u76,hu76,r77⟩:=X0 r75;obtain⟨e78,he79,hn80,ho81,p82⟩:=NL.get o58 hu76;refine .q .ro (.idxO 0 rfl rfl rfl hu76 sl37 ty48.sz) rfl (.q .ro (.loadO 0 0 rfl hu76 p82 rfl (.inl ⟨rfl,rfl⟩) ty48 rfl) rfl (.go 3 ?_));refine .kB (fun y=>∃(Z0:Ac)(Z1 Z2 Z3 Z4 Z5:_),y=⟨[(5, .slice a13 Z0.length k14)],G::Fs,[(b1, .cells #[.int .i64 Z3, .int .i64 Z4, .int .i64 Z5, .slice a0_3 x0_3.length k0_3, .slice a0_4 x0_4.length k0_4] 215 (0,0))],[.s (.slice a13 Z0.length k14) 48 1 Z0.length Z2, .g (packG 3 1 Z1)]⟩∧NL ri G Z1 Z2 Z0∧Z0.length=v12.length∧(X3b (X7 x0_0 m41) v28 x0_0 (v24.length:Int) v24) Z0 Z3 Z4 Z5=some r) [(7,_),(8,_),(1,_),(4,_),(9,_)] [] [] [_] [2] ?_ ?_;rintro _ ⟨v83,es84,cs85,v86,v87,v88,rfl,o89,hl90,r91⟩;refine .gn 0 ?_;unfold X3b at r91;try dsimp only at r91
 refine .go 7 ?_;refine .kB (fun y=>∃(Z0:Ac)(Z1 Z2 Z3 Z4 Z5:_),y=⟨[(5, .slice a13 Z0.length k14)],G::Fs,[(b1, .cells #[.int .i64 Z3, .int .i64 Z4, .int .i64 Z5, .slice a0_3 x0_3.length k0_3, .slice a0_4 x0_4.length k0_4] 215 (0,0))],[.s (.slice a13 Z0.length k14) 48 1 Z0.length Z2, .g (packG 3 1 Z1)]⟩∧NL ri G Z1 Z2 Z0∧Z0.length=v12.length∧(X1l (X7 x0_0 m41) v28 v24) Z0 Z3 Z4 Z5=some r) [(7,_),(8,_),(1,_),(4,_)] [] [] [_] [2] ?_ ?_;rintro _ ⟨v92,es93,cs94,v95,v96,v97,rfl,o98,hl99,r100⟩;refine .gn 0 ?_;unfold X1l at r100;try dsimp only at r100
 refine .go 3 ?_;refine .lit [_] [(0,_)] .ro sl48 ty3 rfl rfl rfl rfl rfl rfl (fun b101 hb101=>?_);have o102:OL ri G [.int .i64 v28] ([v28]:List Int):=((OL.cons rfl (Rep.intI .i64 v28) (OL.nil (Rp':=ri))) :)
 refine .reval 192 (n':=([v28]:List Int).length) rfl rfl ?_;obtain⟨u103,hu103,r104⟩:=X0 r100;refine .appO (Q:=ri) 2 .ro sl48 ty3 rfl rfl rfl rfl rfl rfl o35 o102 rfl rfl rfl B0 hu103 rfl (fun a105 k106 cs107 o108=>?_);refine .go 8 ?_;refine .pullS 1 rfl [_,_,_] rfl (.pullS 1 rfl [_,_,_] rfl (.pullS 2 rfl [_,_,_] rfl ?_));exact(hb22 _ _ ⟨m41,u103,a105,k106,cs107,(w64 (v28+1)),v92,es93,cs94,v95,v96,v97,rfl,rfl,o108,o98,hl99,r104⟩ (Nat.lt_succ_self _)).ar;intro hb109;refine .block (.pullS 1 rfl [_,_,_] rfl (.pullS 1 rfl [_,_,_] rfl ?_));refine .lp (fun y m=>∃(Z0:Nat)(Z1 Z2:Ac)(Z3 Z4 Z5 Z6 Z7:_),y=⟨[(5, .slice a13 Z2.length k14),(136, .int .i64 (Z0:Int))],[],[(b1, .cells #[.int .i64 Z5, .int .i64 Z6, .int .i64 Z7, .slice a0_3 x0_3.length k0_3, .slice a0_4 x0_4.length k0_4] 215 (0,0))],[.s (.slice a13 Z2.length k14) 48 1 Z2.length Z4, .g (packG 3 1 Z3)]⟩∧Z1.length=m∧NL ri G Z3 Z4 Z2∧Z2.length=v12.length∧List.drop Z0 v83=Z1∧X1a (X1l (X7 x0_0 m41) v28 v24) v28 x0_0 (v24.length:Int) Z1 Z0 Z2 Z5 Z6 Z7=some r) [(7,_),(8,_),(1,_),(4,_),(9,_),(135,_)] [] [_] ⟨0,v83,v83,es84,cs85,v86,v87,v88,rfl,rfl,o89,hl90,rfl,r91⟩ (fun y m hI hb110=>?_);obtain⟨i111,w112,v113,es114,cs115,v116,v117,v118,rfl,rfl,o119,hl120,g121,r122⟩:=hI;refine .gn 0 ?_;rcases w112 with _ | ⟨x123,xs124⟩;rw[X1a] at r122;try dsimp only at r122
 refine .go 5 ?_;refine .cond_dec rfl (fun c=>absurd c (X5 g121)) (fun _=>?_);refine .exit rfl ?_;exact(hb109 _ ⟨v113,es114,cs115,v116,v117,v118,rfl,o119,hl120,r122⟩).ar;have r125:X80 (X1l (X7 x0_0 m41) v28 v24) v28 x0_0 (v24.length:Int) (X1a (X1l (X7 x0_0 m41) v28 v24) v28 x0_0 (v24.length:Int) xs124 (i111+1)) x123 i111 v113 v116 v117 v118=some r:=r122;clear r122;unfold X80 at r125;try dsimp only at r125
 refine .go 5 ?_;refine .cond_dec rfl (fun _=>?_) (fun c=>absurd (X9 g121) c);refine .go 2 ?_;refine .block (.go 9 ?_);obtain⟨u126,hu126,r127⟩:=X0 r125;obtain⟨e128,he129,hn130,ho131,p132⟩:=NL.get o119 hu126;refine .q .ro (.idxO 0 rfl rfl rfl hu126 sl37 ty48.sz) rfl (.q .ro (.loadO 0 0 rfl hu126 p132 rfl (.inl ⟨rfl,rfl⟩) ty48 rfl) rfl (.go 1 ?_));obtain⟨u133,hu133,r134⟩:=X0 r127;obtain⟨c135,p136,h137⟩:=OL.get ho131 hu133;obtain rfl:=h137;refine .q .ro (.inN 1 rfl he129 hn130 (.idxO (l:=u126) 0 rfl rfl rfl hu133 sl48 ty3.sz)) rfl (.q .ro (.inN 1 rfl he129 hn130 (.loadO (l:=u126) 0 0 rfl hu133 p136 rfl (.inl ⟨rfl,rfl⟩) ty3 rfl)) rfl (.go 8 ?_));refine .kR (fun y=>y=⟨[(152, .bool (decide (((i111:Int)≠(v24.length:Int))∧(u133≠0))))],G::Fs,[],[]⟩) [(5,_),(136,_),(7,_),(8,_),(1,_),(4,_),(9,_),(135,_),(13,_),(14,_)] [_] [0] [_,_,_] [0,1,2] 3 ?_ ?_;rintro _ rfl;refine .gn 1 ?_;refine .cH r134 (fun c138 r139=>?_) (fun c138 r140=>?_);refine .go 4 ?_;obtain⟨u141,hu141,r142⟩:=X0 r139;obtain⟨e143,he144,hn145,ho146,p147⟩:=NL.get o119 hu141;refine .q .ro (.idxO 0 rfl rfl rfl hu141 sl37 ty48.sz) rfl (.q .ro (.loadO 0 0 rfl hu141 p147 rfl (.inl ⟨rfl,rfl⟩) ty48 rfl) rfl (.go 3 ?_));refine .block (.pullS 1 rfl [_,_,_] rfl (.pullS 1 rfl [_,_,_] rfl ?_));refine .lp (fun y m=>∃(Z0:Nat)(Z1:Aa)(Z2:Ac)(Z3 Z4:_),y=⟨[(5, .slice a13 Z2.length k14),(158, .int .i64 (Z0:Int))],[],[],[.s (.slice a13 Z2.length k14) 48 1 Z2.length Z4, .g (packG 3 1 Z3)]⟩∧Z1.length=m∧NL ri G Z3 Z4 Z2∧Z2.length=v12.length∧List.drop Z0 u141=Z1∧X3a (X1a (X1l (X7 x0_0 m41) v28 v24) v28 x0_0 (v24.length:Int) xs124 (i111+1)) (i111:Int) x0_0 (v24.length:Int) u133 v116 v117 v118 Z1 Z0 Z2=some r) [(136,_),(7,_),(8,_),(1,_),(4,_),(9,_),(135,_),(13,_),(14,_),(157,_)] [_] [_] ⟨0,u141,v113,es114,cs115,rfl,rfl,o119,hl120,rfl,r142⟩ (fun y m hI hb148=>?_);obtain⟨i149,w150,v151,es152,cs153,rfl,rfl,o154,hl155,g156,r157⟩:=hI;refine .gn 0 ?_;rcases w150 with _ | ⟨x158,xs159⟩;rw[X3a] at r157;try dsimp only at r157
 refine .go 5 ?_;refine .cond_dec rfl (fun c=>absurd c (X5 g156)) (fun _=>?_);refine .exit rfl (.go 5 ?_);exact(hb110 _ _ ⟨(i111+1),xs124,v151,es152,cs153,v116,v117,v118,rfl,rfl,o154,hl155,(X3 g121),r157⟩ (Nat.lt_succ_self _)).ax ⟨rfl,(congrArg (fun z=>some (Value.int .i64 z)) (X4 (NL.len' o89) g121)),rfl,rfl,rfl,rfl,rfl,rfl,trivial⟩;have r160:X7z (X1a (X1l (X7 x0_0 m41) v28 v24) v28 x0_0 (v24.length:Int) xs124 (i111+1)) (i111:Int) x0_0 (v24.length:Int) u133 v116 v117 v118 (X3a (X1a (X1l (X7 x0_0 m41) v28 v24) v28 x0_0 (v24.length:Int) xs124 (i111+1)) (i111:Int) x0_0 (v24.length:Int) u133 v116 v117 v118 xs159 (i149+1)) x158 i149 v151=some r:=r157;clear r157;unfold X7z at r160;try dsimp only at r160
 refine .go 5 ?_;refine .cond_dec rfl (fun _=>?_) (fun c=>absurd (X9 g156) c);refine .go 2 ?_;refine .block (.go 5 ?_);refine .drawO (.q 0 (.q 1 (.q 2 (.q 3 (.q 4 (.q 5 (.q 6 (.q 7 (.q 8 (.q 9 (.q 10 (.q 11 (.q 12 (.q 13 (.q 14 (.q 15 (.q 16 (.q 17 (.q 18 (.q 19 (.q 20 (.q 21 (.q 22 (.q 23 (.q 24 (.q 25 (.q 26 (.e 27 2 .nil)))))))))))))))))))))))))))) [_] [_,_] (by kernel_rfl) (by kernel_rfl) (X1 [0] rfl) (X1 [0,1] rfl) (.dqO (.move rfl) rfl (.dqO (.move rfl) rfl ?_));obtain⟨u162,hu162,r164⟩:=X0 r160;obtain⟨e165,he166,hn167,ho168,p169⟩:=NL.get o154 hu162;refine .dqO (.idxO 0 rfl rfl rfl hu162 sl37 ty48.sz) rfl (.dqO (.loadO 0 0 rfl hu162 p169 rfl (.inl ⟨rfl,rfl⟩) ty48 rfl) rfl (.dqO (.move rfl) rfl (.dqO (.move rfl) rfl (.dqO (.move rfl) rfl ?_))));obtain⟨u170,hu170,r171⟩:=X0 r164;obtain⟨e172,he173,hn174,ho175,p176⟩:=NL.get o154 hu170;refine .dqO (.idxO 0 rfl rfl rfl hu170 sl37 ty48.sz) rfl (.dqO (.loadO 0 0 rfl hu170 p176 rfl (.inl ⟨rfl,rfl⟩) ty48 rfl) rfl (.dqO (.move rfl) rfl ?_));obtain⟨u177,hu177,r178⟩:=X0 r171;obtain⟨c179,p180,h181⟩:=OL.get ho175 hu177;obtain rfl:=h181;refine .dqO (.inN 1 rfl he173 hn174 (.idxO (l:=u170) 0 rfl rfl rfl hu177 sl48 ty3.sz)) rfl (.dqO (.inN 1 rfl he173 hn174 (.loadO (l:=u170) 0 0 rfl hu177 p180 rfl (.inl ⟨rfl,rfl⟩) ty3 rfl)) rfl (.dqO (.move rfl) rfl (.dqO (.move rfl) rfl (.dqO (.subw rfl rfl) rfl (.dqO (.move rfl) rfl (.dqO (.move rfl) rfl ?_))))));obtain⟨u182,hu182,r183⟩:=X0 r178;obtain⟨e184,he185,hn186,ho187,p188⟩:=NL.get o154 hu182;refine .dqO (.idxO 0 rfl rfl rfl hu182 sl37 ty48.sz) rfl (.dqO (.loadO 0 0 rfl hu182 p188 rfl (.inl ⟨rfl,rfl⟩) ty48 rfl) rfl (.dqO (.move rfl) rfl ?_));obtain⟨u189,hu189,r190⟩:=X0 r183;obtain⟨c191,p192,h193⟩:=OL.get ho187 hu189;obtain rfl:=h193;refine .dqO (.inN 1 rfl he185 hn186 (.idxO (l:=u182) 0 rfl rfl rfl hu189 sl48 ty3.sz)) rfl (.dqO (.inN 1 rfl he185 hn186 (.loadO (l:=u182) 0 0 rfl hu189 p192 rfl (.inl ⟨rfl,rfl⟩) ty3 rfl)) rfl (.dqO (.mulw rfl rfl) rfl (.dqO (.addw rfl rfl) rfl (.dqO (.move rfl) rfl ?_))));obtain⟨u194,hu194,r195⟩:=X0 r190;refine .dqO (.remt rfl rfl (Xj hu194)) rfl ?_;obtain⟨u196,hu196,r197⟩:=X0 r195;obtain⟨c198,p199,h200⟩:=OL.get ho168 hu196;obtain rfl:=h200;refine .dqO (.inN 1 rfl he166 hn167 (.idxO (l:=u162) 0 rfl rfl rfl hu196 sl48 ty3.sz)) rfl (.takeN 1 rfl he166 hn167 ?_);obtain⟨u201,hu201,r202⟩:=X0 r197;refine .storeR 0 0 (Q:=ri) .d2 rfl rfl ho168 hu201 rfl (.inl ⟨rfl,rfl⟩) rfl ty3 p199 ((Rep.intI .i64 (Int.tmod (w64 (u177+(w64 ((w64 (x0_0-u133))*u189)))) x0_0)) :) rfl rfl (fun cs203 hlcs203 o204=>?_);obtain⟨u205,hu205,r206⟩:=X0 r202;refine .backN 0 1 rfl rfl rfl o154 he166 (Eq.trans hlcs203 hn167.symm) o204 hu205 (fun es207 hles207 o208 hmes207=>?_)
 refine .reval 5 hles207 rfl (.reval 161 hles207 rfl (.reval 166 hles207 rfl (.reval 176 hles207 rfl (.go 6 ?_))));exact(hb148 _ _ ⟨(i149+1),xs159,u205,es207,cs153,rfl,rfl,o208,(hles207.trans hl155),(X3 g156),r206⟩ (Nat.lt_succ_self _)).ax ⟨rfl,(congrArg (fun z=>some (Value.int .i64 z)) (X4 (OL.len' ho146) g156)),rfl,rfl,rfl,rfl,rfl,rfl,rfl,rfl,rfl,rfl,trivial⟩;refine .go 6 ?_;exact(hb110 _ _ ⟨(i111+1),xs124,v113,es114,cs115,v116,v117,v118,rfl,rfl,o119,hl120,(X3 g121),r140⟩ (Nat.lt_succ_self _)).ax ⟨rfl,(congrArg (fun z=>some (Value.int .i64 z)) (X4 (NL.len' o89) g121)),rfl,rfl,rfl,rfl,rfl,rfl,trivial⟩;intro hb209;refine .split 149 rfl (fun c210=>?_) (fun c210=>?_);refine .go 5 ?_;exact(hb209 _ rfl).ax ⟨X2m c210,rfl,rfl,rfl,rfl,rfl,rfl,rfl,rfl,rfl,rfl,trivial⟩;refine .go 3 ?_;exact(hb209 _ rfl).ax ⟨X2n c210,rfl,rfl,rfl,rfl,rfl,rfl,rfl,rfl,rfl,rfl,trivial⟩;intro hb211;refine .block (.pullS 1 rfl [_,_,_] rfl (.pullS 1 rfl [_,_,_] rfl ?_));refine .lp (fun y m=>∃(Z0:Nat)(Z1:_)(Z2:Ac)(Z3 Z4:_),y=⟨[(113, .int .i64 Z1),(5, .slice a13 Z2.length k14)],[],[],[.s (.slice a13 Z2.length k14) 48 1 Z2.length Z4, .g (packG 3 1 Z3)]⟩∧Z0=m∧NL ri G Z3 Z4 Z2∧Z2.length=v12.length∧X4n (X3b (X7 x0_0 m41) v28 x0_0 (v24.length:Int) v24) x0_0 (v24.length:Int) u74 (u76.length:Int) v47 v49 v50 Z0 Z1 Z2=some r) [(7,_),(8,_),(1,_),(4,_),(9,_),(11,_),(112,_)] [_] [_] ⟨big,0,v55,es56,cs57,rfl,rfl,o58,hl59,r77⟩ (fun y m hI hb212=>?_);obtain⟨n213,v214,v215,es216,cs217,rfl,rfl,o218,hl219,r220⟩:=hI;refine .gn 0 ?_;obtain⟨m221,rfl⟩:∃m,n213=m+1:=by cases n213 with |zero=>exact absurd (show(none:Option _)=some _ from r220) (by simp) |succ m=>exact⟨m,rfl⟩
 have r222:X81 (X3b (X7 x0_0 m41) v28 x0_0 (v24.length:Int) v24) x0_0 (v24.length:Int) u74 (u76.length:Int) v47 v49 v50 (X4n (X3b (X7 x0_0 m41) v28 x0_0 (v24.length:Int) v24) x0_0 (v24.length:Int) u74 (u76.length:Int) v47 v49 v50 m221) v214 v215=some r:=r220;clear r220;unfold X81 at r222;try dsimp only at r222
 refine .go 5 ?_;refine .cH r222 (fun c223 r224=>?_) (fun c223 r225=>?_);refine .go 2 ?_;refine .block (.go 5 ?_);refine .drawL (.q 0 (.q 1 (.q 4 (.q 5 (.q 6 (.q 9 (.q 12 (.q 14 (.alt (.e 2 1 (.alt (.e 3 1 (.e 7 1 (.e 8 1 (.e 10 1 (.e 11 1 (.q 13 (.q 15 (.e 16 2 (.e 17 2 .nil))))))))) (.e 7 1 (.alt (.e 3 1 (.e 8 1 (.e 10 1 (.e 11 1 (.q 13 (.q 15 (.e 16 2 (.e 17 2 .nil)))))))) (.e 8 1 (.alt (.e 3 1 (.e 10 1 (.e 11 1 (.q 13 (.q 15 (.e 16 2 (.e 17 2 .nil))))))) (.e 10 1 (.alt (.e 3 1 (.e 11 1 (.q 13 (.q 15 (.e 16 2 (.e 17 2 .nil)))))) (.e 11 1 (.q 13 (.q 15 (.e 3 1 (.e 16 2 (.e 17 2 .nil)))))))))))))) (.e 7 1 (.alt (.e 2 1 (.alt (.e 3 1 (.e 8 1 (.e 10 1 (.e 11 1 (.q 13 (.q 15 (.e 16 2 (.e 17 2 .nil)))))))) (.e 8 1 (.alt (.e 3 1 (.e 10 1 (.e 11 1 (.q 13 (.q 15 (.e 16 2 (.e 17 2 .nil))))))) (.e 10 1 (.alt (.e 3 1 (.e 11 1 (.q 13 (.q 15 (.e 16 2 (.e 17 2 .nil)))))) (.e 11 1 (.q 13 (.q 15 (.e 3 1 (.e 16 2 (.e 17 2 .nil)))))))))))) (.e 8 1 (.alt (.e 2 1 (.alt (.e 3 1 (.e 10 1 (.e 11 1 (.q 13 (.q 15 (.e 16 2 (.e 17 2 .nil))))))) (.e 10 1 (.alt (.e 3 1 (.e 11 1 (.q 13 (.q 15 (.e 16 2 (.e 17 2 .nil)))))) (.e 11 1 (.q 13 (.q 15 (.e 3 1 (.e 16 2 (.e 17 2 .nil)))))))))) (.e 10 1 (.alt (.e 2 1 (.alt (.e 3 1 (.e 11 1 (.q 13 (.q 15 (.e 16 2 (.e 17 2 .nil)))))) (.e 11 1 (.q 13 (.q 15 (.e 3 1 (.e 16 2 (.e 17 2 .nil)))))))) (.e 11 1 (.q 13 (.q 15 (.e 2 1 (.e 3 1 (.e 16 2 (.e 17 2 .nil)))))))))))))))))))))) [_] (by kernel_rfl) (by kernel_rfl) (X1 [0] rfl) ?_;obtain⟨u226,hu226,r227⟩:=X0 r224;obtain⟨u228,hu228,r229⟩:=X0 r227;obtain⟨u230,hu230,r231⟩:=X0 r229;obtain⟨u232,hu232,r233⟩:=X0 r231;obtain⟨u234,hu234,r235⟩:=X0 r233;obtain⟨u236,hu236,r237⟩:=X0 r235;obtain⟨u238,hu238,r239⟩:=X0 r237;refine .go 8 ?_;refine .alt ?_ ?_;obtain⟨e240,he241,hn242,ho243,p244⟩:=NL.get o218 hu226;refine .q .d1 (.idxO 0 rfl rfl rfl hu226 sl37 ty48.sz) rfl (.clsL (HpLe.refl _) (X1 [0] rfl) ?_);refine .alt ?_ ?_;refine .q .d1 (.loadO 0 0 rfl hu226 p244 rfl (.inl ⟨rfl,rfl⟩) ty48 rfl) rfl ?_;refine .clsL (HpLe.refl _) (X1 [0] rfl) ?_;obtain⟨e245,he246,hn247,ho248,p249⟩:=NL.get o218 hu228;refine .q .d1 (.idxO 0 rfl rfl rfl hu228 sl37 ty48.sz) rfl (.clsL (HpLe.refl _) (X1 [0] rfl) (.q .d1 (.loadO 0 0 rfl hu228 p249 rfl (.inl ⟨rfl,rfl⟩) ty48 rfl) rfl (.clsL (HpLe.refl _) (X1 [0] rfl) ?_)));obtain⟨c250,p251,h252⟩:=OL.get ho248 hu230;obtain rfl:=h252;refine .q .d1 (.inN 1 rfl he246 hn247 (.idxO (l:=u228) 0 rfl rfl rfl hu230 sl48 ty3.sz)) rfl (.clsL (HpLe.refl _) (X1 [0] rfl) (.q .d1 (.inN 1 rfl he246 hn247 (.loadO (l:=u228) 0 0 rfl hu230 p251 rfl (.inl ⟨rfl,rfl⟩) ty3 rfl)) rfl (.clsL (HpLe.refl _) (X1 [0] rfl) (.go 1 ?_))));refine .dq (.remt rfl rfl (Xj hu232)) rfl ?_;obtain⟨c253,p254,h255⟩:=OL.get ho243 hu234;obtain rfl:=h255
 refine .q .d2 (.inN 1 rfl he241 hn242 (.idxO (l:=u226) 0 rfl rfl rfl hu234 sl48 ty3.sz)) rfl (.takeN 1 rfl he241 hn242 ?_);refine .storeR 0 0 (Q:=ri) .d2 rfl rfl ho243 hu236 rfl (.inl ⟨rfl,rfl⟩) rfl ty3 p254 ((Rep.intI .i64 (Int.tmod (w64 (u230*u74)) x0_0)) :) rfl rfl (fun cs256 hlcs256 o257=>?_);refine .backN 0 1 rfl rfl rfl o218 he241 (Eq.trans hlcs256 hn242.symm) o257 hu238 (fun es258 hles258 o259 hmes258=>?_);refine .reval 5 hles258 rfl (.reval 116 hles258 rfl (.reval 121 hles258 rfl (.go 6 ?_)));exact(hb212 _ _ ⟨m221,(w64 (v214+1)),u238,es258,cs217,rfl,rfl,o259,(hles258.trans hl219),r239⟩ (Nat.lt_succ_self _)).ar;obtain⟨e260,he261,hn262,ho263,p264⟩:=NL.get o218 hu228;refine .q .d1 (.idxO 0 rfl rfl rfl hu228 sl37 ty48.sz) rfl (.clsL (HpLe.refl _) (X1 [0] rfl) ?_);refine .alt ?_ ?_;refine .q .d1 (.loadO 0 0 rfl hu226 p244 rfl (.inl ⟨rfl,rfl⟩) ty48 rfl) rfl ?_;refine .clsL (HpLe.refl _) (X1 [0] rfl) (.q .d1 (.loadO 0 0 rfl hu228 p264 rfl (.inl ⟨rfl,rfl⟩) ty48 rfl) rfl (.clsL (HpLe.refl _) (X1 [0] rfl) ?_));obtain⟨c265,p266,h267⟩:=OL.get ho263 hu230;obtain rfl:=h267;refine .q .d1 (.inN 1 rfl he261 hn262 (.idxO (l:=u228) 0 rfl rfl rfl hu230 sl48 ty3.sz)) rfl (.clsL (HpLe.refl _) (X1 [0] rfl) (.q .d1 (.inN 1 rfl he261 hn262 (.loadO (l:=u228) 0 0 rfl hu230 p266 rfl (.inl ⟨rfl,rfl⟩) ty3 rfl)) rfl (.clsL (HpLe.refl _) (X1 [0] rfl) (.go 1 ?_))));refine .dq (.remt rfl rfl (Xj hu232)) rfl ?_;obtain⟨c268,p269,h270⟩:=OL.get ho243 hu234;obtain rfl:=h270;refine .q .d2 (.inN 1 rfl he241 hn242 (.idxO (l:=u226) 0 rfl rfl rfl hu234 sl48 ty3.sz)) rfl (.takeN 1 rfl he241 hn242 ?_);refine .storeR 0 0 (Q:=ri) .d2 rfl rfl ho243 hu236 rfl (.inl ⟨rfl,rfl⟩) rfl ty3 p269 ((Rep.intI .i64 (Int.tmod (w64 (u230*u74)) x0_0)) :) rfl rfl (fun cs271 hlcs271 o272=>?_);refine .backN 0 1 rfl rfl rfl o218 he241 (Eq.trans hlcs271 hn242.symm) o272 hu238 (fun es273 hles273 o274 hmes273=>?_);refine .reval 5 hles273 rfl (.reval 116 hles273 rfl (.reval 121 hles273 rfl (.go 6 ?_)));exact(hb212 _ _ ⟨m221,(w64 (v214+1)),u238,es273,cs217,rfl,rfl,o274,(hles273.trans hl219),r239⟩ (Nat.lt_succ_self _)).ar;refine .q .d1 (.loadO 0 0 rfl hu228 p264 rfl (.inl ⟨rfl,rfl⟩) ty48 rfl) rfl ?_;refine .clsL (HpLe.refl _) (X1 [0] rfl) ?_;refine .alt ?_ ?_;refine .q .d1 (.loadO 0 0 rfl hu226 p244 rfl (.inl ⟨rfl,rfl⟩) ty48 rfl) rfl ?_;refine .clsL (HpLe.refl _) (X1 [0] rfl) ?_;obtain⟨c275,p276,h277⟩:=OL.get ho263 hu230;obtain rfl:=h277;refine .q .d1 (.inN 1 rfl he261 hn262 (.idxO (l:=u228) 0 rfl rfl rfl hu230 sl48 ty3.sz)) rfl (.clsL (HpLe.refl _) (X1 [0] rfl) (.q .d1 (.inN 1 rfl he261 hn262 (.loadO (l:=u228) 0 0 rfl hu230 p276 rfl (.inl ⟨rfl,rfl⟩) ty3 rfl)) rfl (.clsL (HpLe.refl _) (X1 [0] rfl) (.go 1 ?_))));refine .dq (.remt rfl rfl (Xj hu232)) rfl ?_;obtain⟨c278,p279,h280⟩:=OL.get ho243 hu234;obtain rfl:=h280
 refine .q .d2 (.inN 1 rfl he241 hn242 (.idxO (l:=u226) 0 rfl rfl rfl hu234 sl48 ty3.sz)) rfl (.takeN 1 rfl he241 hn242 ?_);refine .storeR 0 0 (Q:=ri) .d2 rfl rfl ho243 hu236 rfl (.inl ⟨rfl,rfl⟩) rfl ty3 p279 ((Rep.intI .i64 (Int.tmod (w64 (u230*u74)) x0_0)) :) rfl rfl (fun cs281 hlcs281 o282=>?_);refine .backN 0 1 rfl rfl rfl o218 he241 (Eq.trans hlcs281 hn242.symm) o282 hu238 (fun es283 hles283 o284 hmes283=>?_);refine .reval 5 hles283 rfl (.reval 116 hles283 rfl (.reval 121 hles283 rfl (.go 6 ?_)));exact(hb212 _ _ ⟨m221,(w64 (v214+1)),u238,es283,cs217,rfl,rfl,o284,(hles283.trans hl219),r239⟩ (Nat.lt_succ_self _)).ar;obtain⟨c285,p286,h287⟩:=OL.get ho263 hu230;obtain rfl:=h287;refine .q .d1 (.inN 1 rfl he261 hn262 (.idxO (l:=u228) 0 rfl rfl rfl hu230 sl48 ty3.sz)) rfl (.clsL (HpLe.refl _) (X1 [0] rfl) ?_);refine .alt ?_ ?_;refine .q .d1 (.loadO 0 0 rfl hu226 p244 rfl (.inl ⟨rfl,rfl⟩) ty48 rfl) rfl ?_;refine .clsL (HpLe.refl _) (X1 [0] rfl) (.q .d1 (.inN 1 rfl he261 hn262 (.loadO (l:=u228) 0 0 rfl hu230 p286 rfl (.inl ⟨rfl,rfl⟩) ty3 rfl)) rfl (.clsL (HpLe.refl _) (X1 [0] rfl) (.go 1 ?_)));refine .dq (.remt rfl rfl (Xj hu232)) rfl ?_;obtain⟨c288,p289,h290⟩:=OL.get ho243 hu234;obtain rfl:=h290;refine .q .d2 (.inN 1 rfl he241 hn242 (.idxO (l:=u226) 0 rfl rfl rfl hu234 sl48 ty3.sz)) rfl (.takeN 1 rfl he241 hn242 ?_);refine .storeR 0 0 (Q:=ri) .d2 rfl rfl ho243 hu236 rfl (.inl ⟨rfl,rfl⟩) rfl ty3 p289 ((Rep.intI .i64 (Int.tmod (w64 (u230*u74)) x0_0)) :) rfl rfl (fun cs291 hlcs291 o292=>?_);refine .backN 0 1 rfl rfl rfl o218 he241 (Eq.trans hlcs291 hn242.symm) o292 hu238 (fun es293 hles293 o294 hmes293=>?_);refine .reval 5 hles293 rfl (.reval 116 hles293 rfl (.reval 121 hles293 rfl (.go 6 ?_)));exact(hb212 _ _ ⟨m221,(w64 (v214+1)),u238,es293,cs217,rfl,rfl,o294,(hles293.trans hl219),r239⟩ (Nat.lt_succ_self _)).ar;refine .q .d1 (.inN 1 rfl he261 hn262 (.loadO (l:=u228) 0 0 rfl hu230 p286 rfl (.inl ⟨rfl,rfl⟩) ty3 rfl)) rfl ?_;refine .clsL (HpLe.refl _) (X1 [0] rfl) (.go 1 ?_);refine .dq (.remt rfl rfl (Xj hu232)) rfl (.q .d1 (.loadO 0 0 rfl hu226 p244 rfl (.inl ⟨rfl,rfl⟩) ty48 rfl) rfl (.clsL (HpLe.refl _) (X1 [0] rfl) ?_));obtain⟨c295,p296,h297⟩:=OL.get ho243 hu234;obtain rfl:=h297;refine .q .d2 (.inN 1 rfl he241 hn242 (.idxO (l:=u226) 0 rfl rfl rfl hu234 sl48 ty3.sz)) rfl (.takeN 1 rfl he241 hn242 ?_);refine .storeR 0 0 (Q:=ri) .d2 rfl rfl ho243 hu236 rfl (.inl ⟨rfl,rfl⟩) rfl ty3 p296 ((Rep.intI .i64 (Int.tmod (w64 (u230*u74)) x0_0)) :) rfl rfl (fun cs298 hlcs298 o299=>?_);refine .backN 0 1 rfl rfl rfl o218 he241 (Eq.trans hlcs298 hn242.symm) o299 hu238 (fun es300 hles300 o301 hmes300=>?_);refine .reval 5 hles300 rfl (.reval 116 hles300 rfl (.reval 121 hles300 rfl (.go 6 ?_)));exact(hb212 _ _ ⟨m221,(w64 (v214+1)),u238,es300,cs217,rfl,rfl,o301,(hles300.trans hl219),r239⟩ (Nat.lt_succ_self _)).ar
 obtain⟨e302,he303,hn304,ho305,p306⟩:=NL.get o218 hu228;refine .q .d1 (.idxO 0 rfl rfl rfl hu228 sl37 ty48.sz) rfl (.clsL (HpLe.refl _) (X1 [0] rfl) ?_);refine .alt ?_ ?_;obtain⟨e307,he308,hn309,ho310,p311⟩:=NL.get o218 hu226;refine .q .d1 (.idxO 0 rfl rfl rfl hu226 sl37 ty48.sz) rfl (.clsL (HpLe.refl _) (X1 [0] rfl) ?_);refine .alt ?_ ?_;refine .q .d1 (.loadO 0 0 rfl hu226 p311 rfl (.inl ⟨rfl,rfl⟩) ty48 rfl) rfl ?_;refine .clsL (HpLe.refl _) (X1 [0] rfl) (.q .d1 (.loadO 0 0 rfl hu228 p306 rfl (.inl ⟨rfl,rfl⟩) ty48 rfl) rfl (.clsL (HpLe.refl _) (X1 [0] rfl) ?_));obtain⟨c312,p313,h314⟩:=OL.get ho305 hu230;obtain rfl:=h314;refine .q .d1 (.inN 1 rfl he303 hn304 (.idxO (l:=u228) 0 rfl rfl rfl hu230 sl48 ty3.sz)) rfl (.clsL (HpLe.refl _) (X1 [0] rfl) (.q .d1 (.inN 1 rfl he303 hn304 (.loadO (l:=u228) 0 0 rfl hu230 p313 rfl (.inl ⟨rfl,rfl⟩) ty3 rfl)) rfl (.clsL (HpLe.refl _) (X1 [0] rfl) (.go 1 ?_))));refine .dq (.remt rfl rfl (Xj hu232)) rfl ?_;obtain⟨c315,p316,h317⟩:=OL.get ho310 hu234;obtain rfl:=h317;refine .q .d2 (.inN 1 rfl he308 hn309 (.idxO (l:=u226) 0 rfl rfl rfl hu234 sl48 ty3.sz)) rfl (.takeN 1 rfl he308 hn309 ?_);refine .storeR 0 0 (Q:=ri) .d2 rfl rfl ho310 hu236 rfl (.inl ⟨rfl,rfl⟩) rfl ty3 p316 ((Rep.intI .i64 (Int.tmod (w64 (u230*u74)) x0_0)) :) rfl rfl (fun cs318 hlcs318 o319=>?_);refine .backN 0 1 rfl rfl rfl o218 he308 (Eq.trans hlcs318 hn309.symm) o319 hu238 (fun es320 hles320 o321 hmes320=>?_);refine .reval 5 hles320 rfl (.reval 116 hles320 rfl (.reval 121 hles320 rfl (.go 6 ?_)));exact(hb212 _ _ ⟨m221,(w64 (v214+1)),u238,es320,cs217,rfl,rfl,o321,(hles320.trans hl219),r239⟩ (Nat.lt_succ_self _)).ar;refine .q .d1 (.loadO 0 0 rfl hu228 p306 rfl (.inl ⟨rfl,rfl⟩) ty48 rfl) rfl ?_;refine .clsL (HpLe.refl _) (X1 [0] rfl) ?_;refine .alt ?_ ?_;refine .q .d1 (.loadO 0 0 rfl hu226 p311 rfl (.inl ⟨rfl,rfl⟩) ty48 rfl) rfl ?_;refine .clsL (HpLe.refl _) (X1 [0] rfl) ?_;obtain⟨c322,p323,h324⟩:=OL.get ho305 hu230;obtain rfl:=h324;refine .q .d1 (.inN 1 rfl he303 hn304 (.idxO (l:=u228) 0 rfl rfl rfl hu230 sl48 ty3.sz)) rfl (.clsL (HpLe.refl _) (X1 [0] rfl) (.q .d1 (.inN 1 rfl he303 hn304 (.loadO (l:=u228) 0 0 rfl hu230 p323 rfl (.inl ⟨rfl,rfl⟩) ty3 rfl)) rfl (.clsL (HpLe.refl _) (X1 [0] rfl) (.go 1 ?_))));refine .dq (.remt rfl rfl (Xj hu232)) rfl ?_;obtain⟨c325,p326,h327⟩:=OL.get ho310 hu234;obtain rfl:=h327;refine .q .d2 (.inN 1 rfl he308 hn309 (.idxO (l:=u226) 0 rfl rfl rfl hu234 sl48 ty3.sz)) rfl (.takeN 1 rfl he308 hn309 ?_);refine .storeR 0 0 (Q:=ri) .d2 rfl rfl ho310 hu236 rfl (.inl ⟨rfl,rfl⟩) rfl ty3 p326 ((Rep.intI .i64 (Int.tmod (w64 (u230*u74)) x0_0)) :) rfl rfl (fun cs328 hlcs328 o329=>?_);refine .backN 0 1 rfl rfl rfl o218 he308 (Eq.trans hlcs328 hn309.symm) o329 hu238 (fun es330 hles330 o331 hmes330=>?_)
 refine .reval 5 hles330 rfl (.reval 116 hles330 rfl (.reval 121 hles330 rfl (.go 6 ?_)));exact(hb212 _ _ ⟨m221,(w64 (v214+1)),u238,es330,cs217,rfl,rfl,o331,(hles330.trans hl219),r239⟩ (Nat.lt_succ_self _)).ar;obtain⟨c332,p333,h334⟩:=OL.get ho305 hu230;obtain rfl:=h334;refine .q .d1 (.inN 1 rfl he303 hn304 (.idxO (l:=u228) 0 rfl rfl rfl hu230 sl48 ty3.sz)) rfl (.clsL (HpLe.refl _) (X1 [0] rfl) ?_);refine .alt ?_ ?_;refine .q .d1 (.loadO 0 0 rfl hu226 p311 rfl (.inl ⟨rfl,rfl⟩) ty48 rfl) rfl ?_;refine .clsL (HpLe.refl _) (X1 [0] rfl) (.q .d1 (.inN 1 rfl he303 hn304 (.loadO (l:=u228) 0 0 rfl hu230 p333 rfl (.inl ⟨rfl,rfl⟩) ty3 rfl)) rfl (.clsL (HpLe.refl _) (X1 [0] rfl) (.go 1 ?_)));refine .dq (.remt rfl rfl (Xj hu232)) rfl ?_;obtain⟨c335,p336,h337⟩:=OL.get ho310 hu234;obtain rfl:=h337;refine .q .d2 (.inN 1 rfl he308 hn309 (.idxO (l:=u226) 0 rfl rfl rfl hu234 sl48 ty3.sz)) rfl (.takeN 1 rfl he308 hn309 ?_);refine .storeR 0 0 (Q:=ri) .d2 rfl rfl ho310 hu236 rfl (.inl ⟨rfl,rfl⟩) rfl ty3 p336 ((Rep.intI .i64 (Int.tmod (w64 (u230*u74)) x0_0)) :) rfl rfl (fun cs338 hlcs338 o339=>?_);refine .backN 0 1 rfl rfl rfl o218 he308 (Eq.trans hlcs338 hn309.symm) o339 hu238 (fun es340 hles340 o341 hmes340=>?_);refine .reval 5 hles340 rfl (.reval 116 hles340 rfl (.reval 121 hles340 rfl (.go 6 ?_)));exact(hb212 _ _ ⟨m221,(w64 (v214+1)),u238,es340,cs217,rfl,rfl,o341,(hles340.trans hl219),r239⟩ (Nat.lt_succ_self _)).ar;refine .q .d1 (.inN 1 rfl he303 hn304 (.loadO (l:=u228) 0 0 rfl hu230 p333 rfl (.inl ⟨rfl,rfl⟩) ty3 rfl)) rfl ?_;refine .clsL (HpLe.refl _) (X1 [0] rfl) (.go 1 ?_);refine .dq (.remt rfl rfl (Xj hu232)) rfl (.q .d1 (.loadO 0 0 rfl hu226 p311 rfl (.inl ⟨rfl,rfl⟩) ty48 rfl) rfl (.clsL (HpLe.refl _) (X1 [0] rfl) ?_));obtain⟨c342,p343,h344⟩:=OL.get ho310 hu234;obtain rfl:=h344;refine .q .d2 (.inN 1 rfl he308 hn309 (.idxO (l:=u226) 0 rfl rfl rfl hu234 sl48 ty3.sz)) rfl (.takeN 1 rfl he308 hn309 ?_);refine .storeR 0 0 (Q:=ri) .d2 rfl rfl ho310 hu236 rfl (.inl ⟨rfl,rfl⟩) rfl ty3 p343 ((Rep.intI .i64 (Int.tmod (w64 (u230*u74)) x0_0)) :) rfl rfl (fun cs345 hlcs345 o346=>?_);refine .backN 0 1 rfl rfl rfl o218 he308 (Eq.trans hlcs345 hn309.symm) o346 hu238 (fun es347 hles347 o348 hmes347=>?_);refine .reval 5 hles347 rfl (.reval 116 hles347 rfl (.reval 121 hles347 rfl (.go 6 ?_)));exact(hb212 _ _ ⟨m221,(w64 (v214+1)),u238,es347,cs217,rfl,rfl,o348,(hles347.trans hl219),r239⟩ (Nat.lt_succ_self _)).ar;refine .q .d1 (.loadO 0 0 rfl hu228 p306 rfl (.inl ⟨rfl,rfl⟩) ty48 rfl) rfl ?_;refine .clsL (HpLe.refl _) (X1 [0] rfl) ?_;refine .alt ?_ ?_;obtain⟨e349,he350,hn351,ho352,p353⟩:=NL.get o218 hu226;refine .q .d1 (.idxO 0 rfl rfl rfl hu226 sl37 ty48.sz) rfl (.clsL (HpLe.refl _) (X1 [0] rfl) ?_);refine .alt ?_ ?_;refine .q .d1 (.loadO 0 0 rfl hu226 p353 rfl (.inl ⟨rfl,rfl⟩) ty48 rfl) rfl ?_
 refine .clsL (HpLe.refl _) (X1 [0] rfl) ?_;obtain⟨c354,p355,h356⟩:=OL.get ho305 hu230;obtain rfl:=h356;refine .q .d1 (.inN 1 rfl he303 hn304 (.idxO (l:=u228) 0 rfl rfl rfl hu230 sl48 ty3.sz)) rfl (.clsL (HpLe.refl _) (X1 [0] rfl) (.q .d1 (.inN 1 rfl he303 hn304 (.loadO (l:=u228) 0 0 rfl hu230 p355 rfl (.inl ⟨rfl,rfl⟩) ty3 rfl)) rfl (.clsL (HpLe.refl _) (X1 [0] rfl) (.go 1 ?_))));refine .dq (.remt rfl rfl (Xj hu232)) rfl ?_;obtain⟨c357,p358,h359⟩:=OL.get ho352 hu234;obtain rfl:=h359;refine .q .d2 (.inN 1 rfl he350 hn351 (.idxO (l:=u226) 0 rfl rfl rfl hu234 sl48 ty3.sz)) rfl (.takeN 1 rfl he350 hn351 ?_);refine .storeR 0 0 (Q:=ri) .d2 rfl rfl ho352 hu236 rfl (.inl ⟨rfl,rfl⟩) rfl ty3 p358 ((Rep.intI .i64 (Int.tmod (w64 (u230*u74)) x0_0)) :) rfl rfl (fun cs360 hlcs360 o361=>?_);refine .backN 0 1 rfl rfl rfl o218 he350 (Eq.trans hlcs360 hn351.symm) o361 hu238 (fun es362 hles362 o363 hmes362=>?_);refine .reval 5 hles362 rfl (.reval 116 hles362 rfl (.reval 121 hles362 rfl (.go 6 ?_)));exact(hb212 _ _ ⟨m221,(w64 (v214+1)),u238,es362,cs217,rfl,rfl,o363,(hles362.trans hl219),r239⟩ (Nat.lt_succ_self _)).ar;obtain⟨c364,p365,h366⟩:=OL.get ho305 hu230;obtain rfl:=h366;refine .q .d1 (.inN 1 rfl he303 hn304 (.idxO (l:=u228) 0 rfl rfl rfl hu230 sl48 ty3.sz)) rfl (.clsL (HpLe.refl _) (X1 [0] rfl) ?_);refine .alt ?_ ?_;refine .q .d1 (.loadO 0 0 rfl hu226 p353 rfl (.inl ⟨rfl,rfl⟩) ty48 rfl) rfl ?_;refine .clsL (HpLe.refl _) (X1 [0] rfl) (.q .d1 (.inN 1 rfl he303 hn304 (.loadO (l:=u228) 0 0 rfl hu230 p365 rfl (.inl ⟨rfl,rfl⟩) ty3 rfl)) rfl (.clsL (HpLe.refl _) (X1 [0] rfl) (.go 1 ?_)));refine .dq (.remt rfl rfl (Xj hu232)) rfl ?_;obtain⟨c367,p368,h369⟩:=OL.get ho352 hu234;obtain rfl:=h369;refine .q .d2 (.inN 1 rfl he350 hn351 (.idxO (l:=u226) 0 rfl rfl rfl hu234 sl48 ty3.sz)) rfl (.takeN 1 rfl he350 hn351 ?_);refine .storeR 0 0 (Q:=ri) .d2 rfl rfl ho352 hu236 rfl (.inl ⟨rfl,rfl⟩) rfl ty3 p368 ((Rep.intI .i64 (Int.tmod (w64 (u230*u74)) x0_0)) :) rfl rfl (fun cs370 hlcs370 o371=>?_);refine .backN 0 1 rfl rfl rfl o218 he350 (Eq.trans hlcs370 hn351.symm) o371 hu238 (fun es372 hles372 o373 hmes372=>?_);refine .reval 5 hles372 rfl (.reval 116 hles372 rfl (.reval 121 hles372 rfl (.go 6 ?_)));exact(hb212 _ _ ⟨m221,(w64 (v214+1)),u238,es372,cs217,rfl,rfl,o373,(hles372.trans hl219),r239⟩ (Nat.lt_succ_self _)).ar;refine .q .d1 (.inN 1 rfl he303 hn304 (.loadO (l:=u228) 0 0 rfl hu230 p365 rfl (.inl ⟨rfl,rfl⟩) ty3 rfl)) rfl ?_;refine .clsL (HpLe.refl _) (X1 [0] rfl) (.go 1 ?_);refine .dq (.remt rfl rfl (Xj hu232)) rfl (.q .d1 (.loadO 0 0 rfl hu226 p353 rfl (.inl ⟨rfl,rfl⟩) ty48 rfl) rfl (.clsL (HpLe.refl _) (X1 [0] rfl) ?_));obtain⟨c374,p375,h376⟩:=OL.get ho352 hu234;obtain rfl:=h376;refine .q .d2 (.inN 1 rfl he350 hn351 (.idxO (l:=u226) 0 rfl rfl rfl hu234 sl48 ty3.sz)) rfl (.takeN 1 rfl he350 hn351 ?_)
 refine .storeR 0 0 (Q:=ri) .d2 rfl rfl ho352 hu236 rfl (.inl ⟨rfl,rfl⟩) rfl ty3 p375 ((Rep.intI .i64 (Int.tmod (w64 (u230*u74)) x0_0)) :) rfl rfl (fun cs377 hlcs377 o378=>?_);refine .backN 0 1 rfl rfl rfl o218 he350 (Eq.trans hlcs377 hn351.symm) o378 hu238 (fun es379 hles379 o380 hmes379=>?_);refine .reval 5 hles379 rfl (.reval 116 hles379 rfl (.reval 121 hles379 rfl (.go 6 ?_)));exact(hb212 _ _ ⟨m221,(w64 (v214+1)),u238,es379,cs217,rfl,rfl,o380,(hles379.trans hl219),r239⟩ (Nat.lt_succ_self _)).ar;obtain⟨c381,p382,h383⟩:=OL.get ho305 hu230;obtain rfl:=h383;refine .q .d1 (.inN 1 rfl he303 hn304 (.idxO (l:=u228) 0 rfl rfl rfl hu230 sl48 ty3.sz)) rfl (.clsL (HpLe.refl _) (X1 [0] rfl) ?_);refine .alt ?_ ?_;obtain⟨e384,he385,hn386,ho387,p388⟩:=NL.get o218 hu226;refine .q .d1 (.idxO 0 rfl rfl rfl hu226 sl37 ty48.sz) rfl (.clsL (HpLe.refl _) (X1 [0] rfl) ?_);refine .alt ?_ ?_;refine .q .d1 (.loadO 0 0 rfl hu226 p388 rfl (.inl ⟨rfl,rfl⟩) ty48 rfl) rfl ?_;refine .clsL (HpLe.refl _) (X1 [0] rfl) (.q .d1 (.inN 1 rfl he303 hn304 (.loadO (l:=u228) 0 0 rfl hu230 p382 rfl (.inl ⟨rfl,rfl⟩) ty3 rfl)) rfl (.clsL (HpLe.refl _) (X1 [0] rfl) (.go 1 ?_)));refine .dq (.remt rfl rfl (Xj hu232)) rfl ?_;obtain⟨c389,p390,h391⟩:=OL.get ho387 hu234;obtain rfl:=h391;refine .q .d2 (.inN 1 rfl he385 hn386 (.idxO (l:=u226) 0 rfl rfl rfl hu234 sl48 ty3.sz)) rfl (.takeN 1 rfl he385 hn386 ?_);refine .storeR 0 0 (Q:=ri) .d2 rfl rfl ho387 hu236 rfl (.inl ⟨rfl,rfl⟩) rfl ty3 p390 ((Rep.intI .i64 (Int.tmod (w64 (u230*u74)) x0_0)) :) rfl rfl (fun cs392 hlcs392 o393=>?_);refine .backN 0 1 rfl rfl rfl o218 he385 (Eq.trans hlcs392 hn386.symm) o393 hu238 (fun es394 hles394 o395 hmes394=>?_);refine .reval 5 hles394 rfl (.reval 116 hles394 rfl (.reval 121 hles394 rfl (.go 6 ?_)));exact(hb212 _ _ ⟨m221,(w64 (v214+1)),u238,es394,cs217,rfl,rfl,o395,(hles394.trans hl219),r239⟩ (Nat.lt_succ_self _)).ar;refine .q .d1 (.inN 1 rfl he303 hn304 (.loadO (l:=u228) 0 0 rfl hu230 p382 rfl (.inl ⟨rfl,rfl⟩) ty3 rfl)) rfl ?_;refine .clsL (HpLe.refl _) (X1 [0] rfl) (.go 1 ?_);refine .dq (.remt rfl rfl (Xj hu232)) rfl (.q .d1 (.loadO 0 0 rfl hu226 p388 rfl (.inl ⟨rfl,rfl⟩) ty48 rfl) rfl (.clsL (HpLe.refl _) (X1 [0] rfl) ?_));obtain⟨c396,p397,h398⟩:=OL.get ho387 hu234;obtain rfl:=h398;refine .q .d2 (.inN 1 rfl he385 hn386 (.idxO (l:=u226) 0 rfl rfl rfl hu234 sl48 ty3.sz)) rfl (.takeN 1 rfl he385 hn386 ?_);refine .storeR 0 0 (Q:=ri) .d2 rfl rfl ho387 hu236 rfl (.inl ⟨rfl,rfl⟩) rfl ty3 p397 ((Rep.intI .i64 (Int.tmod (w64 (u230*u74)) x0_0)) :) rfl rfl (fun cs399 hlcs399 o400=>?_);refine .backN 0 1 rfl rfl rfl o218 he385 (Eq.trans hlcs399 hn386.symm) o400 hu238 (fun es401 hles401 o402 hmes401=>?_);refine .reval 5 hles401 rfl (.reval 116 hles401 rfl (.reval 121 hles401 rfl (.go 6 ?_)))
 exact(hb212 _ _ ⟨m221,(w64 (v214+1)),u238,es401,cs217,rfl,rfl,o402,(hles401.trans hl219),r239⟩ (Nat.lt_succ_self _)).ar;refine .q .d1 (.inN 1 rfl he303 hn304 (.loadO (l:=u228) 0 0 rfl hu230 p382 rfl (.inl ⟨rfl,rfl⟩) ty3 rfl)) rfl ?_;refine .clsL (HpLe.refl _) (X1 [0] rfl) (.go 1 ?_);refine .dq (.remt rfl rfl (Xj hu232)) rfl ?_;obtain⟨e403,he404,hn405,ho406,p407⟩:=NL.get o218 hu226;refine .q .d1 (.idxO 0 rfl rfl rfl hu226 sl37 ty48.sz) rfl (.clsL (HpLe.refl _) (X1 [0] rfl) (.q .d1 (.loadO 0 0 rfl hu226 p407 rfl (.inl ⟨rfl,rfl⟩) ty48 rfl) rfl (.clsL (HpLe.refl _) (X1 [0] rfl) ?_)));obtain⟨c408,p409,h410⟩:=OL.get ho406 hu234;obtain rfl:=h410;refine .q .d2 (.inN 1 rfl he404 hn405 (.idxO (l:=u226) 0 rfl rfl rfl hu234 sl48 ty3.sz)) rfl (.takeN 1 rfl he404 hn405 ?_);refine .storeR 0 0 (Q:=ri) .d2 rfl rfl ho406 hu236 rfl (.inl ⟨rfl,rfl⟩) rfl ty3 p409 ((Rep.intI .i64 (Int.tmod (w64 (u230*u74)) x0_0)) :) rfl rfl (fun cs411 hlcs411 o412=>?_);refine .backN 0 1 rfl rfl rfl o218 he404 (Eq.trans hlcs411 hn405.symm) o412 hu238 (fun es413 hles413 o414 hmes413=>?_);refine .reval 5 hles413 rfl (.reval 116 hles413 rfl (.reval 121 hles413 rfl (.go 6 ?_)));exact(hb212 _ _ ⟨m221,(w64 (v214+1)),u238,es413,cs217,rfl,rfl,o414,(hles413.trans hl219),r239⟩ (Nat.lt_succ_self _)).ar;refine .exit rfl ?_;exact(hb211 _ ⟨v215,es216,cs217,v47,v49,v50,rfl,o218,hl219,r225⟩).ar;intro hb415;refine .drawL (.q 0 (.q 1 (.q 2 (.q 3 (.q 4 (.q 5 (.q 8 (.q 9 (.alt (.e 6 1 (.alt (.e 7 1 (.e 10 1 (.e 11 1 (.e 12 1 (.e 13 1 (.e 14 2 (.e 15 2 .nil))))))) (.e 10 1 (.alt (.e 7 1 (.e 11 1 (.e 12 1 (.e 13 1 (.e 14 2 (.e 15 2 .nil)))))) (.e 11 1 (.e 7 1 (.e 12 1 (.e 13 1 (.e 14 2 (.e 15 2 .nil)))))))))) (.e 10 1 (.alt (.e 6 1 (.alt (.e 7 1 (.e 11 1 (.e 12 1 (.e 13 1 (.e 14 2 (.e 15 2 .nil)))))) (.e 11 1 (.e 7 1 (.e 12 1 (.e 13 1 (.e 14 2 (.e 15 2 .nil)))))))) (.e 11 1 (.e 6 1 (.e 7 1 (.e 12 1 (.e 13 1 (.e 14 2 (.e 15 2 .nil)))))))))))))))))) [_] (by kernel_rfl) (by kernel_rfl) (X1 [0] rfl) ?_;obtain⟨u416,hu416,r417⟩:=X0 r54;obtain⟨u418,hu418,r419⟩:=X0 r417;obtain⟨u420,hu420,r421⟩:=X0 r419;obtain⟨u422,hu422,r423⟩:=X0 r421;obtain⟨u424,hu424,r425⟩:=X0 r423;obtain⟨u426,hu426,r427⟩:=X0 r425;refine .go 8 ?_;refine .alt ?_ ?_;obtain⟨e428,he429,hn430,ho431,p432⟩:=NL.get o38 hu416;refine .q .d1 (.idxO 1 rfl rfl rfl hu416 sl37 ty48.sz) rfl (.clsL (HpLe.refl _) (X1 [0] rfl) ?_);refine .alt ?_ ?_;refine .q .d1 (.loadO 1 0 rfl hu416 p432 rfl (.inl ⟨rfl,rfl⟩) ty48 rfl) rfl ?_;refine .clsL (HpLe.refl _) (X1 [0] rfl) ?_;obtain⟨e433,he434,hn435,ho436,p437⟩:=NL.get o38 hu418;refine .q .d1 (.idxO 1 rfl rfl rfl hu418 sl37 ty48.sz) rfl (.clsL (HpLe.refl _) (X1 [0] rfl) (.q .d1 (.loadO 1 0 rfl hu418 p437 rfl (.inl ⟨rfl,rfl⟩) ty48 rfl) rfl (.clsL (HpLe.refl _) (X1 [0] rfl) ?_)))
 obtain⟨e438,he439,hn440,ho441,p442⟩:=NL.get o38 hu420;refine .q .d1 (.idxO 1 rfl rfl rfl hu420 sl37 ty48.sz) rfl (.clsL (HpLe.refl _) (X1 [0] rfl) ?_);refine .swap1 1 (Q:=ri) (ej:=e428) .d1 rfl o38 hu420 hn430 rfl (.inl ⟨rfl,rfl⟩) rfl ty48 (fun cs443 o444=>?_);refine .clsL (HpLe.refl _) (X1 [0] rfl) (.q .d2 (.idxO 1 (l:=v29) rfl rfl rfl hu422 sl37 ty48.sz) rfl ?_);refine .swap2 1 2 (Q:=ri) (i:=v46) (j:=(v24.length:Int)) .d2 rfl rfl o38 o444 hu418 hu416 he434 he429 hn435 hu424 hu426 rfl (.inl ⟨rfl,rfl⟩) rfl ty48 rfl (fun es445 cs446 hlcs446 o447=>?_);refine .reval 5 hlcs446 rfl (.reval 81 hlcs446 rfl (.reval 84 hlcs446 rfl (.reval 86 hlcs446 rfl (.reval 88 hlcs446 rfl (.reval 92 hlcs446 rfl (.go 1 ?_))))));refine .pullS 2 rfl [_,_,_] rfl (.pullS 2 rfl [_,_,_] rfl ?_);exact(hb415 _ ⟨u426,es445,cs446,rfl,o447,(hlcs446.trans hl39),r427⟩).ar;obtain⟨e448,he449,hn450,ho451,p452⟩:=NL.get o38 hu418;refine .q .d1 (.idxO 1 rfl rfl rfl hu418 sl37 ty48.sz) rfl (.clsL (HpLe.refl _) (X1 [0] rfl) ?_);refine .alt ?_ ?_;refine .q .d1 (.loadO 1 0 rfl hu416 p432 rfl (.inl ⟨rfl,rfl⟩) ty48 rfl) rfl ?_;refine .clsL (HpLe.refl _) (X1 [0] rfl) (.q .d1 (.loadO 1 0 rfl hu418 p452 rfl (.inl ⟨rfl,rfl⟩) ty48 rfl) rfl (.clsL (HpLe.refl _) (X1 [0] rfl) ?_));obtain⟨e453,he454,hn455,ho456,p457⟩:=NL.get o38 hu420;refine .q .d1 (.idxO 1 rfl rfl rfl hu420 sl37 ty48.sz) rfl (.clsL (HpLe.refl _) (X1 [0] rfl) ?_);refine .swap1 1 (Q:=ri) (ej:=e428) .d1 rfl o38 hu420 hn430 rfl (.inl ⟨rfl,rfl⟩) rfl ty48 (fun cs458 o459=>?_);refine .clsL (HpLe.refl _) (X1 [0] rfl) (.q .d2 (.idxO 1 (l:=v29) rfl rfl rfl hu422 sl37 ty48.sz) rfl ?_);refine .swap2 1 2 (Q:=ri) (i:=v46) (j:=(v24.length:Int)) .d2 rfl rfl o38 o459 hu418 hu416 he449 he429 hn450 hu424 hu426 rfl (.inl ⟨rfl,rfl⟩) rfl ty48 rfl (fun es460 cs461 hlcs461 o462=>?_);refine .reval 5 hlcs461 rfl (.reval 81 hlcs461 rfl (.reval 84 hlcs461 rfl (.reval 86 hlcs461 rfl (.reval 88 hlcs461 rfl (.reval 92 hlcs461 rfl (.go 1 ?_))))));refine .pullS 2 rfl [_,_,_] rfl (.pullS 2 rfl [_,_,_] rfl ?_);exact(hb415 _ ⟨u426,es460,cs461,rfl,o462,(hlcs461.trans hl39),r427⟩).ar;refine .q .d1 (.loadO 1 0 rfl hu418 p452 rfl (.inl ⟨rfl,rfl⟩) ty48 rfl) rfl ?_;refine .clsL (HpLe.refl _) (X1 [0] rfl) (.q .d1 (.loadO 1 0 rfl hu416 p432 rfl (.inl ⟨rfl,rfl⟩) ty48 rfl) rfl (.clsL (HpLe.refl _) (X1 [0] rfl) ?_));obtain⟨e463,he464,hn465,ho466,p467⟩:=NL.get o38 hu420;refine .q .d1 (.idxO 1 rfl rfl rfl hu420 sl37 ty48.sz) rfl (.clsL (HpLe.refl _) (X1 [0] rfl) ?_);refine .swap1 1 (Q:=ri) (ej:=e428) .d1 rfl o38 hu420 hn430 rfl (.inl ⟨rfl,rfl⟩) rfl ty48 (fun cs468 o469=>?_);refine .clsL (HpLe.refl _) (X1 [0] rfl) (.q .d2 (.idxO 1 (l:=v29) rfl rfl rfl hu422 sl37 ty48.sz) rfl ?_)
 refine .swap2 1 2 (Q:=ri) (i:=v46) (j:=(v24.length:Int)) .d2 rfl rfl o38 o469 hu418 hu416 he449 he429 hn450 hu424 hu426 rfl (.inl ⟨rfl,rfl⟩) rfl ty48 rfl (fun es470 cs471 hlcs471 o472=>?_);refine .reval 5 hlcs471 rfl (.reval 81 hlcs471 rfl (.reval 84 hlcs471 rfl (.reval 86 hlcs471 rfl (.reval 88 hlcs471 rfl (.reval 92 hlcs471 rfl (.go 1 ?_))))));refine .pullS 2 rfl [_,_,_] rfl (.pullS 2 rfl [_,_,_] rfl ?_);exact(hb415 _ ⟨u426,es470,cs471,rfl,o472,(hlcs471.trans hl39),r427⟩).ar;obtain⟨e473,he474,hn475,ho476,p477⟩:=NL.get o38 hu418;refine .q .d1 (.idxO 1 rfl rfl rfl hu418 sl37 ty48.sz) rfl (.clsL (HpLe.refl _) (X1 [0] rfl) ?_);refine .alt ?_ ?_;obtain⟨e478,he479,hn480,ho481,p482⟩:=NL.get o38 hu416;refine .q .d1 (.idxO 1 rfl rfl rfl hu416 sl37 ty48.sz) rfl (.clsL (HpLe.refl _) (X1 [0] rfl) ?_);refine .alt ?_ ?_;refine .q .d1 (.loadO 1 0 rfl hu416 p482 rfl (.inl ⟨rfl,rfl⟩) ty48 rfl) rfl ?_;refine .clsL (HpLe.refl _) (X1 [0] rfl) (.q .d1 (.loadO 1 0 rfl hu418 p477 rfl (.inl ⟨rfl,rfl⟩) ty48 rfl) rfl (.clsL (HpLe.refl _) (X1 [0] rfl) ?_));obtain⟨e483,he484,hn485,ho486,p487⟩:=NL.get o38 hu420;refine .q .d1 (.idxO 1 rfl rfl rfl hu420 sl37 ty48.sz) rfl (.clsL (HpLe.refl _) (X1 [0] rfl) ?_);refine .swap1 1 (Q:=ri) (ej:=e478) .d1 rfl o38 hu420 hn480 rfl (.inl ⟨rfl,rfl⟩) rfl ty48 (fun cs488 o489=>?_);refine .clsL (HpLe.refl _) (X1 [0] rfl) (.q .d2 (.idxO 1 (l:=v29) rfl rfl rfl hu422 sl37 ty48.sz) rfl ?_);refine .swap2 1 2 (Q:=ri) (i:=v46) (j:=(v24.length:Int)) .d2 rfl rfl o38 o489 hu418 hu416 he474 he479 hn475 hu424 hu426 rfl (.inl ⟨rfl,rfl⟩) rfl ty48 rfl (fun es490 cs491 hlcs491 o492=>?_);refine .reval 5 hlcs491 rfl (.reval 81 hlcs491 rfl (.reval 84 hlcs491 rfl (.reval 86 hlcs491 rfl (.reval 88 hlcs491 rfl (.reval 92 hlcs491 rfl (.go 1 ?_))))));refine .pullS 2 rfl [_,_,_] rfl (.pullS 2 rfl [_,_,_] rfl ?_);exact(hb415 _ ⟨u426,es490,cs491,rfl,o492,(hlcs491.trans hl39),r427⟩).ar;refine .q .d1 (.loadO 1 0 rfl hu418 p477 rfl (.inl ⟨rfl,rfl⟩) ty48 rfl) rfl ?_;refine .clsL (HpLe.refl _) (X1 [0] rfl) (.q .d1 (.loadO 1 0 rfl hu416 p482 rfl (.inl ⟨rfl,rfl⟩) ty48 rfl) rfl (.clsL (HpLe.refl _) (X1 [0] rfl) ?_));obtain⟨e493,he494,hn495,ho496,p497⟩:=NL.get o38 hu420;refine .q .d1 (.idxO 1 rfl rfl rfl hu420 sl37 ty48.sz) rfl (.clsL (HpLe.refl _) (X1 [0] rfl) ?_);refine .swap1 1 (Q:=ri) (ej:=e478) .d1 rfl o38 hu420 hn480 rfl (.inl ⟨rfl,rfl⟩) rfl ty48 (fun cs498 o499=>?_);refine .clsL (HpLe.refl _) (X1 [0] rfl) (.q .d2 (.idxO 1 (l:=v29) rfl rfl rfl hu422 sl37 ty48.sz) rfl ?_);refine .swap2 1 2 (Q:=ri) (i:=v46) (j:=(v24.length:Int)) .d2 rfl rfl o38 o499 hu418 hu416 he474 he479 hn475 hu424 hu426 rfl (.inl ⟨rfl,rfl⟩) rfl ty48 rfl (fun es500 cs501 hlcs501 o502=>?_)
 refine .reval 5 hlcs501 rfl (.reval 81 hlcs501 rfl (.reval 84 hlcs501 rfl (.reval 86 hlcs501 rfl (.reval 88 hlcs501 rfl (.reval 92 hlcs501 rfl (.go 1 ?_))))));refine .pullS 2 rfl [_,_,_] rfl (.pullS 2 rfl [_,_,_] rfl ?_);exact(hb415 _ ⟨u426,es500,cs501,rfl,o502,(hlcs501.trans hl39),r427⟩).ar;refine .q .d1 (.loadO 1 0 rfl hu418 p477 rfl (.inl ⟨rfl,rfl⟩) ty48 rfl) rfl ?_;refine .clsL (HpLe.refl _) (X1 [0] rfl) ?_;obtain⟨e503,he504,hn505,ho506,p507⟩:=NL.get o38 hu416;refine .q .d1 (.idxO 1 rfl rfl rfl hu416 sl37 ty48.sz) rfl (.clsL (HpLe.refl _) (X1 [0] rfl) (.q .d1 (.loadO 1 0 rfl hu416 p507 rfl (.inl ⟨rfl,rfl⟩) ty48 rfl) rfl (.clsL (HpLe.refl _) (X1 [0] rfl) ?_)));obtain⟨e508,he509,hn510,ho511,p512⟩:=NL.get o38 hu420;refine .q .d1 (.idxO 1 rfl rfl rfl hu420 sl37 ty48.sz) rfl (.clsL (HpLe.refl _) (X1 [0] rfl) ?_);refine .swap1 1 (Q:=ri) (ej:=e503) .d1 rfl o38 hu420 hn505 rfl (.inl ⟨rfl,rfl⟩) rfl ty48 (fun cs513 o514=>?_);refine .clsL (HpLe.refl _) (X1 [0] rfl) (.q .d2 (.idxO 1 (l:=v29) rfl rfl rfl hu422 sl37 ty48.sz) rfl ?_);refine .swap2 1 2 (Q:=ri) (i:=v46) (j:=(v24.length:Int)) .d2 rfl rfl o38 o514 hu418 hu416 he474 he504 hn475 hu424 hu426 rfl (.inl ⟨rfl,rfl⟩) rfl ty48 rfl (fun es515 cs516 hlcs516 o517=>?_);refine .reval 5 hlcs516 rfl (.reval 81 hlcs516 rfl (.reval 84 hlcs516 rfl (.reval 86 hlcs516 rfl (.reval 88 hlcs516 rfl (.reval 92 hlcs516 rfl (.go 1 ?_))))));refine .pullS 2 rfl [_,_,_] rfl (.pullS 2 rfl [_,_,_] rfl ?_);exact(hb415 _ ⟨u426,es515,cs516,rfl,o517,(hlcs516.trans hl39),r427⟩).ar;intro hb518;refine .block ?_;refine .lp (fun y m=>∃(Z0:Nat)(Z1:_),y=⟨[(10, .int .i64 Z1)],[],[],[]⟩∧Z0=m∧X65 (X3c (X7 x0_0 m41) v28 x0_0 (v24.length:Int) v24 v29) v28 v32 v33 v34 v29 Z0 Z1=some r) [(7,_),(8,_),(5,_),(1,_),(4,_),(9,_)] [_] [_,_,_] ⟨big,(v24.length:Int),rfl,rfl,r44⟩ (fun y m hI hb519=>?_);obtain⟨n520,v521,rfl,rfl,r522⟩:=hI;refine .gn 0 ?_;obtain⟨m523,rfl⟩:∃m,n520=m+1:=by cases n520 with |zero=>exact absurd (show(none:Option _)=some _ from r522) (by simp) |succ m=>exact⟨m,rfl⟩
 have r524:Xam (X3c (X7 x0_0 m41) v28 x0_0 (v24.length:Int) v24 v29) v28 v32 v33 v34 v29 (X65 (X3c (X7 x0_0 m41) v28 x0_0 (v24.length:Int) v24 v29) v28 v32 v33 v34 v29 m523) v521=some r:=r522;clear r522;unfold Xam at r524;try dsimp only at r524
 refine .go 8 ?_;obtain⟨u525,h526,r527⟩:=X0 r524;refine .kR (fun y=>y=⟨[(77, .bool u525)],G::Fs,[],[]⟩) [(10,_),(7,_),(8,_),(5,_),(1,_),(4,_),(9,_)] [_] [0] [_,_,_] [0,1,2] 9 ?_ ?_;rintro _ rfl;refine .gn 1 ?_;refine .cB r527 (fun c528 r529=>?_) (fun c528 r530=>?_);refine .go 1 ?_;refine .block (.go 6 ?_);exact(hb519 _ _ ⟨m523,(w64 (v521+1)),rfl,rfl,r529⟩ (Nat.lt_succ_self _)).ar;refine .exit rfl ?_;exact(hb518 _ ⟨v521,v32,v33,v34,rfl,r530⟩).ar;intro hb531;refine .split 68 rfl (fun c532=>?_) (fun c532=>?_);have r533:=ifT h526 c532
 refine .go 5 ?_;obtain⟨u534,hu534,r535⟩:=X0 r533;obtain⟨e536,he537,hn538,ho539,p540⟩:=NL.get o38 hu534;refine .q .ro (.idxO 1 rfl rfl rfl hu534 sl37 ty48.sz) rfl (.go 1 ?_);refine .q .ro (.loadO 1 0 rfl hu534 p540 rfl (.inl ⟨rfl,rfl⟩) ty48 rfl) rfl (.go 3 ?_);obtain⟨u541,hu541,r542⟩:=X0 r535;obtain⟨c543,p544,h545⟩:=OL.get ho539 hu541;obtain rfl:=h545;refine .q .ro (.inN 2 rfl he537 hn538 (.idxO (l:=u534) 0 rfl rfl rfl hu541 sl48 ty3.sz)) rfl (.go 1 ?_);refine .q .ro (.inN 2 rfl he537 hn538 (.loadO (l:=u534) 0 0 rfl hu541 p544 rfl (.inl ⟨rfl,rfl⟩) ty3 rfl)) rfl (.go 3 ?_);exact(hb531 _ rfl).ax ⟨sval r542,rfl,rfl,rfl,rfl,rfl,rfl,rfl,trivial⟩;have r546:=ifF h526 c532
 refine .go 9 ?_;exact(hb531 _ rfl).ax ⟨sval r546,rfl,rfl,rfl,rfl,rfl,rfl,rfl,trivial⟩;refine .exit rfl ?_;refine .go 7 ?_;refine .pullS 2 rfl [_,_,_] rfl (.pullS 2 rfl [_,_,_] rfl ?_);refine .freezeN (Q:=ri) rfl o38 rfl B0 (fun G547 e548 B549 s550=>?_);refine .freezeR 0 rfl rfl (OL.mono e548 o35) [] rfl B549 (fun G551 e552 B553 s554=>?_);cases r45;refine .drop 1 0 [] _ rfl rfl ?_;refine .rW 0 [.tmp 2, .tmp 3] [_,_] Tryz.func161 Tryz.results161 ⟨RV.tmp rfl,RV.tmp rfl,trivial⟩ B553 hS0 (fun G' hg=>⟨a13,k14,a25,k26,rfl,rfl,rfl,(SlR.mono hg (SlR.mono e552 s550)),(SlR.mono hg s554)⟩);intro hb555;refine .split 52 rfl (fun c556=>?_) (fun c556=>?_);refine .go 11 ?_;exact(hb555 _ rfl).ax ⟨X2m c556,rfl,rfl,rfl,rfl,rfl,trivial⟩;refine .go 6 ?_;exact(hb555 _ rfl).ax ⟨X2n c556,rfl,rfl,rfl,rfl,rfl,trivial⟩;intro hb557;refine .block (.packE 3 1 (.own_nil 48 1 (.pullS 1 rfl [_,_] rfl (.pullS 1 rfl [_,_] rfl ?_))));refine .lp (fun y m=>∃(Z0:Nat)(Z1:Ac)(Z2:_)(Z3:Nat)(Z4 Z5 Z6:_),y=⟨[(5, .slice Z2 Z1.length Z3),(6, .int .i64 Z6)],[],[],[.s (.slice Z2 Z1.length Z3) 48 1 Z1.length Z5, .g (packG 3 1 Z4)]⟩∧Z0=m∧NL ri G Z4 Z5 Z1∧X4w (X2t x0_0) x0_0 x0_1 x0_2 x0_3 x0_4 Z0 Z1 Z6=some r) [(1,_),(4,_)] [_] [] ⟨big,([]:List (List Int)),none,0,[],[],0,rfl,rfl,(NL.nil (Q:=ri)),h⟩ (fun y m hI hb558=>?_);obtain⟨n559,v560,a561,k562,es563,cs564,v565,rfl,rfl,o566,r567⟩:=hI;refine .gn 0 ?_;obtain⟨m568,rfl⟩:∃m,n559=m+1:=by cases n559 with |zero=>exact absurd (show(none:Option _)=some _ from r567) (by simp) |succ m=>exact⟨m,rfl⟩
 have r569:X9e (X2t x0_0) x0_0 x0_1 x0_2 x0_3 x0_4 (X4w (X2t x0_0) x0_0 x0_1 x0_2 x0_3 x0_4 m568) v560 v565=some r:=r567;clear r567;unfold X9e at r569;try dsimp only at r569
 refine .go 8 ?_;refine .cH r569 (fun c570 r571=>?_) (fun c570 r572=>?_);refine .go 2 ?_;refine .block (.drawL (.q 0 (.q 1 (.q 2 (.q 3 (.q 4 (.q 5 (.q 6 (.q 7 (.q 8 (.q 9 (.q 10 (.q 11 (.q 12 (.q 14 (.q 15 (.q 16 (.q 17 (.q 18 (.alt (.e 13 1 (.e 19 1 (.e 20 1 (.e 21 1 (.e 22 1 (.q 23 .nil)))))) (.e 19 1 (.e 13 1 (.e 20 1 (.e 21 1 (.e 22 1 (.q 23 .nil))))))))))))))))))))))))) [_] (by kernel_rfl) (by kernel_rfl) (X1 [0] rfl) ?_);obtain⟨u573,hu573,r574⟩:=X0 r571;obtain⟨u575,hu575,r576⟩:=X0 r574;obtain⟨u577,hu577,r578⟩:=X0 r576;obtain⟨u579,hu579,r580⟩:=X0 r578;obtain⟨u581,hu581,r582⟩:=X0 r580;refine .go 12 ?_;obtain⟨a583,k584,h585,s586⟩:=SlR.sub s0_3 hu573;refine .dq (.sliceR s0_3 rfl hu573 sl48 ty3.sz (fun h=> .yes' rfl h) (fun h=> .yes' rfl h) h585) rfl (.go 3 ?_);obtain⟨c587,p588,h589⟩:=SlR.get s0_4 hu575;obtain rfl:=h589;refine .dq (.idxR s0_4 rfl rfl hu575 sl48 ty3.sz) rfl (.dq (.load_rp p588 mcs rfl ty3 rfl) rfl ?_);refine .alt ?_ ?_;refine .own_nil 3 1 ?_;refine .appR (Q:=ri) 0 .d1 sl48 ty3 rfl rfl rfl rfl rfl (OL.nil (Rp':=ri)) rfl rfl s586 rfl mcs hu577 rfl (fun a590 k591 cs592 o593=>?_);refine .clsL (HpLe.refl _) (X1 [0] rfl) ?_;refine .lit [_] [(0,_)] .d1 sl48 ty3 rfl rfl rfl rfl rfl rfl (fun b594 hb594=>?_);have o595:OL ri G [.int .i64 u575] ([u575]:List Int):=((OL.cons rfl (Rep.intI .i64 u575) (OL.nil (Rp':=ri))) :)
 refine .reval 44 (n':=([u575]:List Int).length) rfl rfl (.clsL (HpLe.refl _) (X1 [0] rfl) ?_);refine .appO (Q:=ri) 0 .d1 sl48 ty3 rfl rfl rfl rfl rfl rfl o593 o595 rfl rfl rfl B0 hu579 rfl (fun a596 k597 cs598 o599=>?_);refine .clsL (HpLe.refl _) (X1 [0] rfl) ?_;refine .lit [_] [(0,_)] .d1 sl37 ty48 rfl rfl rfl rfl rfl rfl (fun b600 hb600=>?_);refine .pullS 1 rfl [_,_,_,_] rfl (.pack1 rfl ?_);have o601:NL ri G [⟨a596,u579.length,k597,cs598⟩] [.slice a596 u579.length k597] ([u579]:List (List Int)):=(NL.one o599 :)
 refine .reval 46 (n':=([u579]:List (List Int)).length) rfl rfl (.clsL (HpLe.refl _) (X1 [0] rfl) (.pullS 1 rfl [_,_,_,_] rfl ?_));refine .appN 0 1 (Q:=ri) .d1 sl37 ty48 rfl rfl rfl rfl rfl rfl o566 o601 rfl rfl hu581 rfl B0 (fun a602 k603 cs604 o605=>?_);refine .clsL (HpLe.refl _) (X1 [0] rfl) (.go 8 ?_);exact(hb558 _ _ ⟨m568,u581,a602,k603,(es563++[⟨a596,u579.length,k597,cs598⟩]),cs604,(w64 (v565+1)),rfl,rfl,o605,r582⟩ (Nat.lt_succ_self _)).ar;refine .lit [_] [(0,_)] .d1 sl48 ty3 rfl rfl rfl rfl rfl rfl (fun b606 hb606=>?_);have o607:OL ri G [.int .i64 u575] ([u575]:List Int):=((OL.cons rfl (Rep.intI .i64 u575) (OL.nil (Rp':=ri))) :)
 refine .reval 44 (n':=([u575]:List Int).length) rfl rfl (.clsL (HpLe.refl _) (X1 [0] rfl) (.own_nil 3 1 ?_));refine .appR (Q:=ri) 0 .d1 sl48 ty3 rfl rfl rfl rfl rfl (OL.nil (Rp':=ri)) rfl rfl s586 rfl mcs hu577 rfl (fun a608 k609 cs610 o611=>?_);refine .clsL (HpLe.refl _) (X1 [0] rfl) (.pullS 1 rfl [_,_,_,_] rfl ?_);refine .appO (Q:=ri) 0 .d1 sl48 ty3 rfl rfl rfl rfl rfl rfl o611 o607 rfl rfl rfl B0 hu579 rfl (fun a612 k613 cs614 o615=>?_);refine .clsL (HpLe.refl _) (X1 [0] rfl) ?_;refine .lit [_] [(0,_)] .d1 sl37 ty48 rfl rfl rfl rfl rfl rfl (fun b616 hb616=>?_);refine .pullS 1 rfl [_,_,_,_] rfl (.pack1 rfl ?_);have o617:NL ri G [⟨a612,u579.length,k613,cs614⟩] [.slice a612 u579.length k613] ([u579]:List (List Int)):=(NL.one o615 :)
 refine .reval 46 (n':=([u579]:List (List Int)).length) rfl rfl (.clsL (HpLe.refl _) (X1 [0] rfl) (.pullS 1 rfl [_,_,_,_] rfl ?_));refine .appN 0 1 (Q:=ri) .d1 sl37 ty48 rfl rfl rfl rfl rfl rfl o566 o617 rfl rfl hu581 rfl B0 (fun a618 k619 cs620 o621=>?_);refine .clsL (HpLe.refl _) (X1 [0] rfl) (.go 8 ?_);exact(hb558 _ _ ⟨m568,u581,a618,k619,(es563++[⟨a612,u579.length,k613,cs614⟩]),cs620,(w64 (v565+1)),rfl,rfl,o621,r582⟩ (Nat.lt_succ_self _)).ar;refine .exit rfl ?_;exact(hb557 _ ⟨v560,a561,k562,es563,cs564,x0_0,x0_1,x0_2,rfl,o566,r572⟩).ar
theorem Xjm{x0_0 x0_1 x0_2:Int}{x0_3 x0_4:Aa}{r:Ad}(hG:G∈Fs)(s0_3:SlR ri G a0_3 k0_3 x0_3)(s0_4:SlR ri G a0_4 k0_4 x0_4)(h:Xcy (x0_0,x0_1,x0_2,x0_3,x0_4)=some r):RetS Tryz.prog 154 #[.agg #[.int .i64 x0_0, .int .i64 x0_1, .int .i64 x0_2, .slice a0_3 x0_3.length k0_3, .slice a0_4 x0_4.length k0_4]] Fs [] [] (fun v bo so=>∃(oa0:Ar)(ok0:Nat)(oc0:Au),v= .tuple #[.slice oa0 r.1.length ok0, .int .i64 r.2]∧bo=[]∧so=[.s (.slice oa0 r.1.length ok0) 3 1 r.1.length oc0]∧OL ri G oc0 r.1):=by
 unfold Xcy at h;try dsimp only at h
 refine RetS.st [(0,_)] Tryz.func154 Tryz.ntmps154 hG fun w0 S0 hS0 B0=>?_;refine .go 2 ?_;refine .box [_,_,_,_,_] .ro rfl rfl rfl (fun b1 hb1=>?_);refine .go 6 ?_;refine .q .ro (.load_own_a 0 [_,_,_,_,_] rfl rfl ty215 rfl) rfl ?_;obtain⟨u2,hu2,r3⟩:=X0 h;refine .cV [_] Tryz.call160 (Xjl mcs s0_3 s0_4 hu2) ?_;refine .go 7 ?_;refine .cH r3 (fun c6 r7=>?_) (fun c6 r8=>?_);cases r7;refine .go 3 ?_;refine .q .ro (.load_own_a 0 [_,_,_,_,_] rfl rfl ty215 rfl) rfl ?_;obtain⟨u9,hu9,r10⟩:=X0 r8;refine .cW [_] Tryz.call161 (Xi2 mcs s0_3 s0_4 hu9) B0 (fun v12 bo so G13 e14 B15 h11=>?_);obtain⟨a17,k18,a20,k21,rfl,rfl,rfl,s19,s22⟩:=h11;refine .gn 12 ?_;obtain⟨u23,hu23,r24⟩:=X0 r10;obtain⟨a25,k26,h27,s28⟩:=SlR.sub s19 hu23;refine .q .ro (.sliceR s19 rfl hu23 sl37 ty48.sz (fun h=> .yes' rfl h) (fun _=> .no) h27) rfl (.go 3 ?_);refine .kB (fun y=>∃(Z0 Z1 Z2:_),y=⟨[],G13::Fs,[(b1, .cells #[.int .i64 Z0, .int .i64 Z1, .int .i64 Z2, .slice a0_3 x0_3.length k0_3, .slice a0_4 x0_4.length k0_4] 215 (0,0))],[]⟩∧(X5n u9.1 u9.2) Z0 Z1 Z2=some r) [(1,_),(5,_),(6,_)] [] [] [] [] ?_ ?_;rintro _ ⟨v85,v86,v87,rfl,r89⟩;refine .gn 0 ?_;unfold X5n at r89;try dsimp only at r89
 refine .go 4 ?_;obtain⟨u94,hu94,r95⟩:=X0 r89;refine .makeR (G:=G13) (Q:=ri) .ro sl48 ty3 rfl rfl rfl ((Rep.intI .i64 0) :) rfl rfl hu94 rfl rfl (fun b96 cs97 hb96 o98=>?_);refine .go 9 ?_;refine .block ?_;refine .lp (fun y m=>∃(Z0:Nat)(Z1 Z2:Aa)(Z3:_)(Z4:Nat)(Z5:_),y=⟨[(9, .slice Z3 Z2.length Z4),(43, .int .i64 (Z0:Int))],[],[],[.s (.slice Z3 Z2.length Z4) 3 1 Z2.length Z5]⟩∧Z1.length=m∧OL ri G13 Z5 Z2∧List.drop Z0 u9.2=Z1∧X5m u9.1 v87 Z1 Z0 Z2=some r) [(1,_),(5,_),(41,_),(42,_)] [_] [] ⟨0,u9.2,u94,(some ⟨b96,0,none⟩),u94.length,cs97,rfl,rfl,o98,rfl,r95⟩ (fun y m hI hb16=>?_);obtain⟨i29,w30,v31,a32,k33,cs34,rfl,rfl,o35,g36,r38⟩:=hI;refine .gn 0 ?_;rcases w30 with _ | ⟨x39,xs40⟩;rw[X5m] at r38;try dsimp only at r38
 refine .go 5 ?_;refine .cond_dec rfl (fun c=>absurd c (X5 g36)) (fun _=>?_);refine .exit rfl (.go 6 ?_);cases r38;refine .drop 1 0 [] _ rfl rfl ?_;refine .rS [.tmp 2, .tmp 3] [_,_] Tryz.func154 Tryz.results154 ⟨a32,k33,cs34,rfl,rfl,rfl,(OL.flat (Rep.flat_int _) o35)⟩;have r41:X94 u9.1 v87 (X5m u9.1 v87 xs40 (i29+1)) x39 i29 v31=some r:=r38;clear r38;unfold X94 at r41;try dsimp only at r41
 refine .go 5 ?_;refine .cond_dec rfl (fun _=>?_) (fun c=>absurd (X9 g36) c);refine .go 2 ?_;refine .block (.go 3 ?_);obtain⟨c42,p43,h44⟩:=SlR.get s22 (X2 g36);obtain rfl:=h44;refine .q .ro (.idxR s22 rfl rfl (X2 g36) sl48 ty3.sz) rfl (.q .ro (.load_rp p43 mcs rfl ty3 rfl) rfl (.go 3 ?_));refine .drawL (.q 0 (.q 1 (.q 2 (.q 3 (.q 4 (.q 5 (.q 6 (.q 7 (.q 8 (.q 9 (.e 10 2 (.e 11 2 .nil)))))))))))) [_] (by kernel_rfl) (by kernel_rfl) (X1 [0] rfl) (.go 4 ?_);obtain⟨u45,hu45,r46⟩:=X0 r41;obtain⟨c47,p49,h50⟩:=SlR.get s19 hu45;obtain⟨a51,k52,rfl,s53⟩:=h50;refine .dq (.idxR s19 rfl rfl hu45 sl37 ty48.sz) rfl (.dq (.load_rp p49 mcs rfl ty48 rfl) rfl (.go 2 ?_));obtain⟨u54,hu54,r55⟩:=X0 r46;obtain⟨c56,p57,h58⟩:=SlR.get s53 hu54;obtain rfl:=h58;refine .dq (.idxR s53 rfl rfl hu54 sl48 ty3.sz) rfl (.dq (.load_rp p57 mcs rfl ty3 rfl) rfl ?_);obtain⟨u59,hu59,r60⟩:=X0 r55;obtain⟨c61,p62,h63⟩:=OL.get o35 hu59;obtain rfl:=h63;refine .q .d2 (.idxO 0 rfl rfl rfl hu59 sl48 ty3.sz) rfl ?_;obtain⟨u65,hu65,r66⟩:=X0 r60;refine .storeR 0 0 (Q:=ri) .d2 rfl rfl o35 hu65 rfl (.inl ⟨rfl,rfl⟩) rfl ty3 p62 ((Rep.intI .i64 u54) :) rfl rfl (fun cs67 hlcs67 o68=>?_);refine .reval 9 hlcs67 rfl (.reval 48 hlcs67 rfl (.go 6 ?_));exact(hb16 _ _ ⟨(i29+1),xs40,u65,a32,k33,cs67,rfl,rfl,o68,(X3 g36),r66⟩ (Nat.lt_succ_self _)).ax ⟨rfl,(congrArg (fun z=>some (Value.int .i64 z)) (X4 (SlR.len s22) g36)),rfl,rfl,rfl,rfl,trivial⟩;intro hb69;refine .block ?_;refine .lp (fun y m=>∃(Z0:Nat)(Z1:Ac),y=⟨[(27, .int .i64 (Z0:Int))],[],[],[]⟩∧Z1.length=m∧List.drop Z0 u23=Z1∧X5o (X5n u9.1 u9.2) x0_0 x0_1 x0_2 Z1=some r) [(1,_),(5,_),(6,_),(25,_),(26,_)] [_] [] ⟨0,u23,rfl,rfl,rfl,r24⟩ (fun y m hI hb70=>?_);obtain⟨i71,w72,rfl,rfl,g73,r74⟩:=hI;refine .gn 0 ?_;rcases w72 with _ | ⟨x75,xs76⟩;rw[X5o] at r74;try dsimp only at r74
 refine .go 5 ?_;refine .cond_dec rfl (fun c=>absurd c (X5 g73)) (fun _=>?_);refine .exit rfl ?_;exact(hb69 _ ⟨x0_0,x0_1,x0_2,rfl,r74⟩).ar;have r77:X95 (X5n u9.1 u9.2) x0_0 x0_1 x0_2 (X5o (X5n u9.1 u9.2) x0_0 x0_1 x0_2 xs76) x75=some r:=r74;clear r74;unfold X95 at r77;try dsimp only at r77
 refine .go 5 ?_;refine .cond_dec rfl (fun _=>?_) (fun c=>absurd (X9 g73) c);refine .go 2 ?_;refine .block (.go 2 ?_);obtain⟨c78,p79,h80⟩:=SlR.get s28 (X2 g73);obtain⟨a81,k82,rfl,s83⟩:=h80;refine .q .ro (.idxR s28 rfl rfl (X2 g73) sl37 ty48.sz) rfl (.q .ro (.load_rp p79 mcs rfl ty48 rfl) rfl (.go 7 ?_));obtain⟨u84,hu84,r88⟩:=X0 r77;obtain⟨c90,p91,h92⟩:=SlR.get s83 hu84;obtain rfl:=h92;refine .q .ro (.idxR s83 rfl rfl hu84 sl48 ty3.sz) rfl (.q .ro (.load_rp p91 mcs rfl ty3 rfl) rfl (.go 2 ?_));refine .cH r88 (fun c93 r99=>?_) (fun c93 r100=>?_);cases r99;refine .go 6 ?_;exact(hb70 _ _ ⟨(i71+1),xs76,rfl,rfl,(X3 g73),r100⟩ (Nat.lt_succ_self _)).ax ⟨(congrArg (fun z=>some (Value.int .i64 z)) (X4 (SlR.len s28) g73)),rfl,rfl,rfl,rfl,rfl,trivial⟩
theorem Xi3{x0_0:Int}{x1 x2:Aa}{r:Ft}(hG:G∈Fs)(s1:SlR ri G a1 k1 x1)(s2:SlR ri G a2 k2 x2)(h:Xbt x0_0 x1 x2=some r):RetS Tryz.prog 155 #[.agg #[.int .i64 x0_0], .slice a1 x1.length k1, .slice a2 x2.length k2] Fs [] [] (fun v bo so=>∃(oa0:Ar)(ok0:Nat)(oc0:Au),∃(oa1:Ar)(ok1:Nat)(oc1:Au),v= .tuple #[.slice oa0 r.1.length ok0, .slice oa1 r.2.1.length ok1, .int .i64 r.2.2]∧bo=[]∧so=[.s (.slice oa0 r.1.length ok0) 3 1 r.1.length oc0, .s (.slice oa1 r.2.1.length ok1) 3 1 r.2.1.length oc1]∧OL ri G oc0 r.1∧OL ri G oc1 r.2.1):=by
 unfold Xbt at h;try dsimp only at h
 refine RetS.st [(0,_),(1,_),(2,_)] Tryz.func155 Tryz.ntmps155 hG fun w0 S0 hS0 B0=>?_;refine .go 2 ?_;refine .box [_] .ro rfl rfl rfl (fun b1 hb1=>?_);refine .go 7 ?_;refine .q .ro (.load_own_a 0 [_] rfl rfl ty36 rfl) rfl (.go 2 ?_);refine .lit [_,_] [(0,_),(1,_)] .ro sl37 ty48 rfl rfl rfl rfl rfl rfl (fun b2 hb2=>?_);have o3:OL (Rep.sl ri) G [.slice a1 x1.length k1, .slice a2 x2.length k2] ([x1,x2]:List (List Int)):=((OL.cons rfl (Rep.slI s1) (OL.cons rfl (Rep.slI s2) (OL.nil (Rp':=(Rep.sl ri))))) :)
 refine .reval 20 (n':=([x1,x2]:List (List Int)).length) rfl rfl ?_;refine .freezeR 0 rfl rfl o3 [] rfl B0 (fun G5 e6 B7 s8=>?_);obtain⟨u10,hu10,r11⟩:=X0 h;refine .cV [_,_] Tryz.call142 (Xea mcs s8 hu10) ?_;refine .go 7 ?_;refine .cH r11 (fun c14 r15=>?_) (fun c14 r16=>?_);cases r15;refine .go 4 ?_;obtain⟨u17,hu17,r18⟩:=X0 r16;refine .cS [_] Tryz.call162 (Xbz mcs (SlR.mono e6 s1) hu17) (fun v20 bo so h19=>?_);obtain⟨a22,k23,cs24,rfl,rfl,rfl,o25⟩:=h19;refine .gn 1 ?_;obtain⟨u26,hu26,r27⟩:=X0 r18;refine .cS [_] Tryz.call162 (Xbz mcs (SlR.mono e6 s2) hu26) (fun v29 bo so h28=>?_);obtain⟨a31,k32,cs33,rfl,rfl,rfl,o34⟩:=h28;refine .gn 10 ?_;refine .cH r27 (fun c35 r36=>?_) (fun c35 r37=>?_);cases r36;refine .go 2 ?_;refine .freezeR 0 rfl rfl o34 [_] rfl B7 (fun G43 e44 B45 s46=>?_);refine .drawL (.q 0 (.q 1 (.q 2 (.q 3 (.q 4 (.q 5 (.q 6 (.e 7 1 (.q 8 .nil))))))))) [_] (by kernel_rfl) (by kernel_rfl) (X1 [0] rfl) (.dq (.load_own_a 0 [_] rfl rfl ty36 rfl) rfl (.go 4 ?_));obtain⟨u48,hu48,r49⟩:=X0 r37;obtain⟨c50,p51,h52⟩:=SlR.get s46 hu48;obtain rfl:=h52;refine .dq (.idxR s46 rfl rfl hu48 sl48 ty3.sz) rfl (.dq (.load_rp p51 mcs rfl ty3 rfl) rfl ?_);obtain⟨u53,hu53,r54⟩:=X0 r49;refine .cVd [_,_] Tryz.call163 (Xft mcs hu53) ?_;refine .clsL (HpLe.refl _) (X1 [0] rfl) (.go 10 ?_);refine .q .ro (.max2 rfl rfl) rfl ?_;obtain⟨u57,hu57,r58⟩:=X0 r54;refine .makeR (G:=G43) (Q:=ri) .ro sl48 ty3 rfl rfl rfl ((Rep.intI .i64 0) :) rfl rfl hu57 rfl rfl (fun b59 cs60 hb59 o61=>?_);refine .go 10 ?_;refine .kB (fun y=>∃(Z0:Aa)(Z1:_)(Z2:Nat)(Z3:_)(Z4:Aa)(Z5:_)(Z6:Nat)(Z7 Z8:_),y=⟨[(10, .slice Z1 Z0.length Z2),(12, .slice Z5 Z4.length Z6)],G43::Fs,[(b1, .cells #[.int .i64 Z8] 36 (0,0))],[.s (.slice Z1 Z0.length Z2) 3 1 Z0.length Z3, .s (.slice Z5 Z4.length Z6) 3 1 Z4.length Z7]⟩∧OL ri G43 Z3 Z0∧OL ri G43 Z7 Z4∧X1b Z0 Z4 Z8=some r) [] [] [] [] [] ?_ ?_;rintro _ ⟨v12,a13,k21,cs30,v38,a39,k40,cs41,v42,rfl,o47,o55,r56⟩;refine .gn 0 ?_;unfold X1b at r56;try dsimp only at r56
 refine .go 3 ?_;refine .freezeR 1 rfl rfl o55 [_] rfl B45 (fun G62 e63 B65 s66=>?_);obtain⟨u67,hu67,r68⟩:=X0 r56;refine .cS [_] Tryz.call162 (Xbz mcs s66 hu67) (fun v69 bo so h70=>?_);obtain⟨a71,k72,cs73,rfl,rfl,rfl,o74⟩:=h70;refine .gn 1 ?_;refine .freezeR 1 rfl rfl (OL.mono e63 o47) [_] rfl B65 (fun G75 e76 B77 s78=>?_);obtain⟨u79,hu79,r80⟩:=X0 r68;refine .cS [_] Tryz.call162 (Xbz mcs s78 hu79) (fun v81 bo so h82=>?_);obtain⟨a83,k84,cs85,rfl,rfl,rfl,o86⟩:=h82;refine .gn 4 ?_;cases r80;refine .drop 1 0 [] _ rfl rfl (.pullS 1 rfl [_,_] rfl ?_);refine .rS [.tmp 6, .tmp 7, .tmp 8] [_,_,_] Tryz.func155 Tryz.results155 ⟨a71,k72,cs73,a83,k84,cs85,rfl,rfl,rfl,(OL.flat (Rep.flat_int _) o74),(OL.flat (Rep.flat_int _) o86)⟩;intro hb87;refine .block (.pullS 1 rfl [_,_] rfl ?_);refine .lp (fun y m=>∃(Z0:Nat)(Z1:_)(Z2:Aa)(Z3:_)(Z4:Nat)(Z5:_)(Z6:Aa)(Z7:_)(Z8:Nat)(Z9 Z10:_),y=⟨[(13, .int .i64 Z1),(10, .slice Z3 Z2.length Z4),(12, .slice Z7 Z6.length Z8)],[],[(b1, .cells #[.int .i64 Z10] 36 (0,0))],[.s (.slice Z3 Z2.length Z4) 3 1 Z2.length Z5, .s (.slice Z7 Z6.length Z8) 3 1 Z6.length Z9]⟩∧Z0=m∧OL ri G43 Z5 Z2∧OL ri G43 Z9 Z6∧X1m X1b u26 u53 Z0 Z1 Z2 Z6 Z10=some r) [(2,_),(3,_),(11,_)] [] [] ⟨big,(w64 ((u57.length:Int)-1)),u17,a22,k23,cs24,u57,(some ⟨b59,0,none⟩),u57.length,cs60,x0_0,rfl,rfl,(OL.mono e44 o25),o61,r58⟩ (fun y m hI hb88=>?_);obtain⟨n89,v90,v91,a92,k93,cs94,v95,a96,k97,cs98,v99,rfl,rfl,o100,o101,r102⟩:=hI;refine .gn 0 ?_;obtain⟨m103,rfl⟩:∃m,n89=m+1:=by cases n89 with |zero=>exact absurd (show(none:Option _)=some _ from r102) (by simp) |succ m=>exact⟨m,rfl⟩
 have r104:X83 X1b u26 u53 (X1m X1b u26 u53 m103) v90 v91 v95 v99=some r:=r102;clear r102;unfold X83 at r104;try dsimp only at r104
 refine .go 6 ?_;refine .cH r104 (fun c105 r106=>?_) (fun c105 r107=>?_);refine .go 2 ?_;refine .block (.go 1 ?_);refine .drawL (.q 0 (.q 1 (.q 2 (.q 3 (.q 4 (.q 5 (.q 8 (.q 10 (.q 11 (.e 6 1 (.e 7 1 (.q 9 (.q 12 (.q 13 .nil)))))))))))))) [_] (by kernel_rfl) (by kernel_rfl) (X1 [0] rfl) (.go 9 ?_);obtain⟨u108,hu108,r109⟩:=X0 r106;obtain⟨c110,p111,h112⟩:=OL.get o100 hu108;obtain rfl:=h112;refine .q .d1 (.idxO 0 rfl rfl rfl hu108 sl48 ty3.sz) rfl (.clsL (HpLe.refl _) (X1 [0] rfl) (.q .d1 (.loadO 0 0 rfl hu108 p111 rfl (.inl ⟨rfl,rfl⟩) ty3 rfl) rfl (.clsL (HpLe.refl _) (X1 [0] rfl) (.go 1 ?_))));obtain⟨u113,hu113,r114⟩:=X0 r109;refine .dq (.remt rfl rfl (Xj hu113)) rfl (.go 7 ?_);obtain⟨u115,hu115,r116⟩:=X0 r114;obtain⟨c117,p118,h119⟩:=OL.get o101 hu115;obtain rfl:=h119;refine .q .ro (.idxO 1 rfl rfl rfl hu115 sl48 ty3.sz) rfl ?_;obtain⟨u120,hu120,r121⟩:=X0 r116;refine .storeR 1 0 (Q:=ri) .ro rfl rfl o101 hu120 rfl (.inl ⟨rfl,rfl⟩) rfl ty3 p118 ((Rep.intI .i64 (Int.tmod (w64 (u108*u53)) v99)) :) rfl rfl (fun cs122 hlcs122 o123=>?_);refine .reval 12 hlcs122 rfl (.reval 68 hlcs122 rfl (.go 7 ?_));refine .block ?_;refine .lp (fun y m=>∃(Z0:Nat)(Z1 Z2:Aa)(Z3:_)(Z4:Nat)(Z5:_),y=⟨[(10, .slice Z3 Z2.length Z4),(74, .int .i64 (Z0:Int))],[],[],[.s (.slice Z3 Z2.length Z4) 3 1 Z2.length Z5]⟩∧Z1.length=m∧OL ri G43 Z5 Z2∧List.drop Z0 u26=Z1∧X4o (X1m X1b u26 u53 m103) v90 (Int.tmod (w64 (u108*u53)) v99) v99 u120 Z1 Z0 Z2=some r) [(13,_),(12,_),(2,_),(3,_),(11,_),(14,_),(72,_),(73,_)] [_] [_] ⟨0,u26,v91,a92,k93,cs94,rfl,rfl,o100,rfl,r121⟩ (fun y m hI hb124=>?_);obtain⟨i125,w126,v127,a128,k129,cs130,rfl,rfl,o131,g132,r133⟩:=hI;refine .gn 0 ?_;rcases w126 with _ | ⟨x134,xs135⟩;rw[X4o] at r133;try dsimp only at r133
 refine .go 5 ?_;refine .cond_dec rfl (fun c=>absurd c (X5 g132)) (fun _=>?_);refine .exit rfl (.go 6 ?_);exact(hb88 _ _ ⟨m103,(w64 (v90-1)),v127,a128,k129,cs130,u120,a96,k97,cs122,v99,rfl,rfl,o131,o123,r133⟩ (Nat.lt_succ_self _)).ar;have r136:X82 (X1m X1b u26 u53 m103) v90 (Int.tmod (w64 (u108*u53)) v99) v99 u120 (X4o (X1m X1b u26 u53 m103) v90 (Int.tmod (w64 (u108*u53)) v99) v99 u120 xs135 (i125+1)) x134 i125 v127=some r:=r133;clear r133;unfold X82 at r136;try dsimp only at r136
 refine .go 5 ?_;refine .cond_dec rfl (fun _=>?_) (fun c=>absurd (X9 g132) c);refine .go 2 ?_;refine .block (.go 3 ?_);obtain⟨c137,p138,h139⟩:=SlR.get s46 (X2 g132);obtain rfl:=h139;refine .q .ro (.idxR s46 rfl rfl (X2 g132) sl48 ty3.sz) rfl (.q .ro (.load_rp p138 mcs rfl ty3 rfl) rfl (.go 3 ?_));refine .drawL (.q 0 (.q 1 (.q 2 (.q 3 (.q 4 (.q 5 (.q 6 (.q 7 (.q 10 (.q 11 (.q 12 (.q 13 (.q 14 (.q 15 (.q 17 (.q 18 (.e 8 1 (.e 9 1 (.q 16 (.q 19 (.e 20 2 (.e 21 2 .nil)))))))))))))))))))))) [_] (by kernel_rfl) (by kernel_rfl) (X1 [0] rfl) (.go 16 ?_);obtain⟨u140,hu140,r141⟩:=X0 r136;obtain⟨c143,p144,h145⟩:=OL.get o131 hu140;obtain rfl:=h145;refine .q .d1 (.idxO 0 rfl rfl rfl hu140 sl48 ty3.sz) rfl (.clsL (HpLe.refl _) (X1 [0] rfl) (.q .d1 (.loadO 0 0 rfl hu140 p144 rfl (.inl ⟨rfl,rfl⟩) ty3 rfl) rfl (.clsL (HpLe.refl _) (X1 [0] rfl) (.go 1 ?_))));obtain⟨u146,hu146,r147⟩:=X0 r141;refine .dq (.remt rfl rfl (Xj hu146)) rfl ?_;obtain⟨u148,hu148,r149⟩:=X0 r147;obtain⟨c150,p151,h152⟩:=OL.get o131 hu148;obtain rfl:=h152;refine .q .d2 (.idxO 0 rfl rfl rfl hu148 sl48 ty3.sz) rfl ?_;obtain⟨u153,hu153,r154⟩:=X0 r149;refine .storeR 0 0 (Q:=ri) .d2 rfl rfl o131 hu153 rfl (.inl ⟨rfl,rfl⟩) rfl ty3 p151 ((Rep.intI .i64 (Int.tmod (w64 (u140+(w64 ((w64 (v99-(Int.tmod (w64 (u108*u53)) v99)))*x134)))) v99)) :) rfl rfl (fun cs156 hlcs156 o157=>?_);refine .reval 10 hlcs156 rfl (.reval 79 hlcs156 rfl (.reval 83 hlcs156 rfl (.go 6 ?_)));exact(hb124 _ _ ⟨(i125+1),xs135,u153,a128,k129,cs156,rfl,rfl,o157,(X3 g132),r154⟩ (Nat.lt_succ_self _)).ax ⟨rfl,(congrArg (fun z=>some (Value.int .i64 z)) (X4 (SlR.len s46) g132)),rfl,rfl,rfl,rfl,rfl,rfl,rfl,rfl,trivial⟩;refine .exit rfl ?_;exact(hb87 _ ⟨v91,a92,k93,cs94,v95,a96,k97,cs98,v99,rfl,o100,o101,r107⟩).ar
theorem Xjn{x0_0:Int}{x1:Ay}{x2 r:Aa}(hG:G∈Fs)(s1:SlR (Rep.pair ri Rep.bool) G a1 k1 x1)(s2:SlR ri G a2 k2 x2)(h:Xe5 x0_0 x1 x2=some r):RetS Tryz.prog 156 #[.agg #[.int .i64 x0_0], .slice a1 x1.length k1, .slice a2 x2.length k2] Fs [] [] (fun v bo so=>∃(oa0:Ar)(ok0:Nat)(oc0:Au),v= .slice oa0 r.length ok0∧bo=[]∧so=[.s (.slice oa0 r.length ok0) 3 1 r.length oc0]∧OL ri G oc0 r):=by
 unfold Xe5 at h;try dsimp only at h
 refine RetS.st [(0,_),(1,_),(2,_)] Tryz.func156 Tryz.ntmps156 hG fun w0 S0 hS0 B0=>?_;refine .go 2 ?_;refine .box [_] .ro rfl rfl rfl (fun b1 hb1=>?_);refine .go 10 ?_;obtain⟨u2,hu2,r3⟩:=X0 h;refine .cS [_] Tryz.call152 (Xcd mcs s1 hu2) (fun v5 bo so h4=>?_);obtain⟨a7,k8,cs9,rfl,rfl,rfl,o10⟩:=h4;refine .gn 3 ?_;refine .block (.own_nil 3 1 ?_);refine .lp (fun y m=>∃(Z0:Nat)(Z1:Af)(Z2:Aa)(Z3:_)(Z4:Nat)(Z5:_),y=⟨[(7, .slice Z3 Z2.length Z4),(15, .int .i64 (Z0:Int))],[],[],[.s (.slice Z3 Z2.length Z4) 3 1 Z2.length Z5]⟩∧Z1.length=m∧OL ri G Z5 Z2∧List.drop Z0 u2=Z1∧X4b x2 x0_0 Z1 Z2=some r) [(2,_),(3,_),(13,_),(14,_)] [_] [_] ⟨0,u2,([]:List Int),none,0,[],rfl,rfl,(OL.nil (Rp':=ri)),rfl,r3⟩ (fun y m hI hb85=>?_);obtain⟨i75,w76,v78,a79,k80,cs81,rfl,rfl,o82,g77,r84⟩:=hI;refine .gn 0 ?_;rcases w76 with _ | ⟨x91,xs92⟩;rw[X4b] at r84;try dsimp only at r84
 refine .go 5 ?_;refine .cond_dec rfl (fun c=>absurd c (X5 g77)) (fun _=>?_);refine .exit rfl (.go 5 ?_);cases r84;refine .drop 1 0 [] _ rfl rfl (.pullS 1 rfl [_,_] rfl (.drop 0 1 _ [_] rfl rfl ?_));refine .rS [.tmp 6] [_] Tryz.func156 Tryz.results156 ⟨a79,k80,cs81,rfl,rfl,rfl,o82⟩;have r90:X96 x2 x0_0 (X4b x2 x0_0 xs92) x91 v78=some r:=r84;clear r84;unfold X96 at r90;try dsimp only at r90
 refine .go 5 ?_;refine .cond_dec rfl (fun _=>?_) (fun c=>absurd (X9 g77) c);refine .go 2 ?_;refine .block (.go 2 ?_);obtain⟨c93,p94,h95⟩:=OL.get o10 (X2 g77);obtain⟨_,_,rfl,rfl,rfl⟩:=h95;refine .q .ro (.idxO 1 rfl rfl rfl (X2 g77) sl26 ty89.sz) rfl (.q .ro (.loadO_a 1 0 [_,_] rfl (X2 g77) p94 rfl (.inl ⟨rfl,rfl⟩) ty89 rfl) rfl ?_);refine .alloc .ro ty89 rfl (fun b96 hb96=>?_);refine .store 0 [_,_] [_,_] .ro rfl rfl rfl ty89 rfl rfl rfl rfl (.go 3 ?_);refine .q .ro (.load_own_a 1 [_] rfl rfl ty36 rfl) rfl (.go 3 ?_);obtain⟨u97,hu97,r98⟩:=X0 r90;refine .cV [_,_,_] Tryz.call118 (Xcc mcs s2 hu97) ?_;refine .go 13 ?_;refine .cH r98 (fun c11 r12=>?_) (fun c11 r13=>?_);refine .go 4 ?_;refine .lit [_] [(0,_)] .ro sl48 ty3 rfl rfl rfl rfl rfl rfl (fun b14 hb14=>?_);have o15:OL ri G [.int .i64 x91.1] ([x91.1]:List Int):=((OL.cons rfl (Rep.intI .i64 x91.1) (OL.nil (Rp':=ri))) :)
 refine .reval 34 (n':=([x91.1]:List Int).length) rfl rfl ?_;obtain⟨u16,hu16,r17⟩:=X0 r12;refine .appO (Q:=ri) 0 .ro sl48 ty3 rfl rfl rfl rfl rfl rfl o82 o15 rfl rfl rfl B0 hu16 rfl (fun a18 k19 cs20 o21=>?_);refine .go 7 ?_;refine .drop 1 0 [_] _ rfl rfl ?_;exact(hb85 _ _ ⟨(i75+1),xs92,u16,a18,k19,cs20,rfl,rfl,o21,(X3 g77),r17⟩ (Nat.lt_succ_self _)).ax ⟨rfl,(congrArg (fun z=>some (Value.int .i64 z)) (X4 (OL.len' o10) g77)),rfl,rfl,rfl,rfl,trivial⟩;refine .go 6 ?_;refine .drop 1 0 [_] _ rfl rfl ?_;exact(hb85 _ _ ⟨(i75+1),xs92,v78,a79,k80,cs81,rfl,rfl,o82,(X3 g77),r13⟩ (Nat.lt_succ_self _)).ax ⟨rfl,(congrArg (fun z=>some (Value.int .i64 z)) (X4 (OL.len' o10) g77)),rfl,rfl,rfl,rfl,trivial⟩
theorem Xi4{x0_0:Int}{x1:Ay}{x2:Int}{r:Dl}(hG:G∈Fs)(s1:SlR (Rep.pair ri Rep.bool) G a1 k1 x1)(h:Xbu x0_0 x1 x2=some r):RetW Tryz.prog 144 #[.agg #[.int .i64 x0_0], .slice a1 x1.length k1, .int .i64 x2] Fs [] [] (fun v bo so G=>∃a0:Option Addr,∃k0:Nat,∃a1:Option Addr,∃k1:Nat,v= .tuple #[.agg #[.slice a0 r.1.1.length k0, .slice a1 r.1.2.length k1], .int .i64 r.2]∧bo=[]∧so=[]∧SlR ri G a0 k0 r.1.1∧SlR ri G a1 k1 r.1.2):=by
 unfold Xbu at h;try dsimp only at h
 refine RetW.st [(0,_),(1,_),(2,_)] Tryz.func144 Tryz.ntmps144 hG fun w0 S0 hS0 B0=>?_;refine .go 2 ?_;refine .box [_] .ro rfl rfl rfl (fun b1 hb1=>?_);refine .alloc .ro ty206 rfl (fun b2 hb2=>?_);refine .go 5 ?_;refine .q .ro (.load_own_a 1 [_] rfl rfl ty36 rfl) rfl (.go 2 ?_);obtain⟨u3,hu3,r4⟩:=X0 h;refine .cS [_,_,_] Tryz.call150 (Xkq mcs s1 hu3) (fun v6 bo so h5=>?_);obtain⟨a8,k9,cs10,rfl,rfl,rfl,o11⟩:=h5;refine .gn 11 ?_;refine .cH r4 (fun c12 r13=>?_) (fun c12 r14=>?_);cases r13;refine .go 4 ?_;obtain⟨u15,hu15,r16⟩:=X0 r14;refine .cS [_] Tryz.call152 (Xcd mcs s1 hu15) (fun v18 bo so h17=>?_);obtain⟨a20,k21,cs22,rfl,rfl,rfl,o23⟩:=h17;refine .gn 2 ?_;obtain⟨u24,hu24,r25⟩:=X0 r16;refine .cV [_,_] Tryz.call151 (Xi1 mcs hu24) ?_;refine .go 8 ?_;refine .q .ro (.load_own_a 1 [_] rfl rfl ty36 rfl) rfl (.go 3 ?_);obtain⟨u28,hu28,r29⟩:=X0 r25;refine .cW [_,_,_,_] Tryz.call153 (Xlg mcs s1 hu28) B0 (fun v31 bo so G32 e33 B34 h30=>?_);obtain⟨a36,k37,a39,k40,rfl,rfl,rfl,s38,s41⟩:=h30;refine .gn 3 ?_;refine .alloc .ro ty215 rfl (fun b42 hb42=>?_);refine .store 0 [_,_,_,_,_] [_,_,_] .ro rfl rfl rfl ty215 rfl rfl rfl rfl (.go 4 ?_);refine .q .ro (.load_own_a 0 [_,_,_,_,_] rfl rfl ty215 rfl) rfl ?_;obtain⟨u43,hu43,r44⟩:=X0 r29;refine .cS [_] Tryz.call154 (Xjm mcs s38 s41 hu43) (fun v46 bo so h45=>?_);obtain⟨a48,k49,cs50,rfl,rfl,rfl,o51⟩:=h45;refine .gn 12 ?_;refine .cH r44 (fun c52 r53=>?_) (fun c52 r54=>?_);cases r53;refine .go 7 ?_;refine .freezeR 0 rfl rfl o51 [_,_] rfl B34 (fun G55 e56 B57 s58=>?_);obtain⟨u60,hu60,r61⟩:=X0 r54;obtain⟨a62,k63,h64,s65⟩:=SlR.sub s58 hu60;refine .q .ro (.sliceR s58 rfl hu60 sl48 ty3.sz (fun h=> .yes' rfl h) (fun _=> .no) h64) rfl (.own_nil 3 1 ?_);obtain⟨u71,hu71,r72⟩:=X0 r61;refine .appR (Q:=ri) 0 .ro sl48 ty3 rfl rfl rfl rfl rfl (OL.nil (Rp':=ri)) rfl rfl s65 rfl mcs hu71 rfl (fun a67 k68 cs69 o70=>?_);refine .lit [_] [(0,_)] .ro sl48 ty3 rfl rfl rfl rfl rfl rfl (fun b74 hb74=>?_);have o75:OL ri G55 [.int .i64 1] ([1]:List Int):=((OL.cons rfl (Rep.intI .i64 1) (OL.nil (Rp':=ri))) :)
 refine .reval 62 (n':=([1]:List Int).length) rfl rfl ?_;obtain⟨u81,hu81,r82⟩:=X0 r72;refine .appO (Q:=ri) 0 .ro sl48 ty3 rfl rfl rfl rfl rfl rfl o70 o75 rfl rfl rfl B57 hu81 rfl (fun a77 k78 cs79 o80=>?_);refine .go 3 ?_;refine .freezeR 0 rfl rfl o80 [_,_] rfl B57 (fun G89 e90 B91 s92=>?_);refine .drawL (.q 0 (.q 1 (.q 2 (.q 3 (.q 4 (.q 5 (.q 6 (.e 7 1 (.q 8 (.q 9 (.q 10 (.q 11 (.q 12 (.q 13 (.q 14 .nil))))))))))))))) [_,_,_] (by kernel_rfl) (by kernel_rfl) (X1 [0,1,2] rfl) (.dq (.load_own_a 2 [_] rfl rfl ty36 rfl) rfl (.go 4 ?_));obtain⟨u94,hu94,r95⟩:=X0 r82;obtain⟨a96,k97,h98,s99⟩:=SlR.sub (SlR.mono e90 s58) hu94;refine .dq (.sliceR (SlR.mono e90 s58) rfl hu94 sl48 ty3.sz (fun _=> .no) (fun h=> .yes' rfl h) h98) rfl (.go 1 ?_);obtain⟨u19,hu19,r26⟩:=X0 r95;refine .cSd [_,_,_] Tryz.call155 (Xi3 mcs s99 s92 hu19) (fun v27 bo so h35=>?_);obtain⟨a47,k59,cs66,a73,k76,cs83,rfl,rfl,rfl,o84,o85⟩:=h35;refine .gn 0 ?_;refine .clsL (HpLe.refl _) (X1 [0,1,2] rfl) (.go 15 ?_);refine .kR (fun y=>y=⟨[(84, .bool (decide ((0<(u19.2.1.length:Int))∨(x2<(u19.1.length:Int)))))],G89::Fs,[],[]⟩) [(1,_),(3,_),(6,_),(10,_),(17,_)] [_,_,_] [0,1,2] [_,_,_,_] [0,1,2,3] 5 ?_ ?_;rintro _ rfl;refine .gn 1 ?_;refine .cH r26 (fun c86 r87=>?_) (fun c86 r88=>?_);cases r87;refine .go 3 ?_;refine .q .ro (.load_own_a 2 [_] rfl rfl ty36 rfl) rfl (.go 2 ?_);refine .freezeR 0 rfl rfl o84 [_,_,_] rfl B91 (fun G93 e100 B101 s102=>?_);obtain⟨u103,hu103,r104⟩:=X0 r88;refine .cS [_,_,_] Tryz.call156 (Xjn mcs (SlR.mono (HpLe.trans (HpLe.trans (HpLe.trans e33 e56) e90) e100) s1) s102 hu103) (fun v105 bo so h106=>?_);obtain⟨a107,k108,cs109,rfl,rfl,rfl,o110⟩:=h106;refine .gn 10 ?_;refine .cH r104 (fun c111 r112=>?_) (fun c111 r113=>?_);cases r112;refine .go 5 ?_;refine .q .ro (.build [_,_] [(0,_),(1,_)] ty206 pl206 rfl rfl) rfl (.store 1 [_,_] [_,_,_] .ro rfl rfl rfl ty206 rfl rfl rfl rfl (.go 2 ?_));refine .freezeR 0 rfl rfl o110 [_,_,_] rfl B101 (fun G114 e115 B116 s117=>?_);cases r113;refine .drop 0 3 _ [] rfl rfl ?_;refine .rW 3 [.cell 6 206, .tmp 7] [_,_] Tryz.func144 Tryz.results144 ⟨RV.cell_a 1 [_,_] rfl rfl ty206 rfl,RV.tmp rfl,trivial⟩ B116 hS0 (fun G' hg=>⟨a47,k59,a107,k108,rfl,rfl,rfl,(SlR.mono hg (SlR.mono e115 s102)),(SlR.mono hg s117)⟩);intro hb118;refine .split 79 rfl (fun c119=>?_) (fun c119=>?_);refine .go 5 ?_;exact(hb118 _ rfl).ax ⟨Xq c119,rfl,rfl,rfl,rfl,rfl,trivial⟩;refine .go 9 ?_;exact(hb118 _ rfl).ax ⟨Xr c119,rfl,rfl,rfl,rfl,rfl,trivial⟩
end Go.Proofs.YtmfppphlhgneeaaGreat
end

section
set_option maxHeartbeats 4000000
set_option maxRecDepth 100000
namespace Go.Proofs.YtmfppphlhgneeaaGreat
open Go.RowKit
set_option linter.unusedSimpArgs false
set_option linter.unusedVariables false
set_option synthInstance.maxSize 2000
set_option synthInstance.maxHeartbeats 400000
variable{Fs:Dm}{G:Hp}{a4 a3 a0 a1 a2:Ar}{k4 k3 k0 k1 k2:Nat}
theorem Xez{x0_0 x1 x2 x3:Int}{x4:Ah}{r:Ac×Ad}(hG:G∈Fs)(s4:SlR (Rep.pair Rep.bool (Rep.sl ri)) G a4 k4 x4)(h:X8h x0_0 x1 x2 x3 x4=some r):RetW Tryz.prog 123 #[.agg #[.int .i64 x0_0], .int .i64 x1, .int .i64 x2, .int .i64 x3, .slice a4 x4.length k4] Fs [] [] (fun v bo so G=>∃(oa0:Ar)(ok0:Nat)(oc0:Au),∃(oa1:Ar)(ok1:Nat)(oc1:Au),v= .tuple #[.slice oa0 r.1.length ok0, .slice oa1 r.2.1.length ok1, .int .i64 r.2.2]∧bo=[]∧so=[.s (.slice oa0 r.1.length ok0) 48 1 r.1.length oc0, .s (.slice oa1 r.2.1.length ok1) 3 1 r.2.1.length oc1]∧OL (Rep.sl ri) G oc0 r.1∧OL ri G oc1 r.2.1):=by
 unfold X8h at h;try dsimp only at h
 refine RetW.st [(0,_),(1,_),(2,_),(3,_),(4,_)] Tryz.func123 Tryz.ntmps123 hG fun w0 S0 hS0 B0=>?_;refine .go 2 ?_;refine .box [_] .ro rfl rfl rfl (fun b1 hb1=>?_);refine .go 10 ?_;refine .kR (fun y=>y=⟨[(37, .bool (decide ((x3<0)∨(64<x3))))],G::Fs,[],[]⟩) [(1,_),(2,_),(3,_),(4,_),(5,_)] [_] [0] [] [] 3 ?_ ?_;rintro _ rfl;refine .gn 1 ?_;refine .cH h (fun c6 r7=>?_) (fun c6 r8=>?_);cases r7;refine .go 9 ?_;refine .cH r8 (fun c9 r10=>?_) (fun c9 r11=>?_);cases r10;refine .go 12 ?_;refine .kB (fun y=>∃(Z0 Z1:_),y=⟨[(13, .int .i64 Z0)],G::Fs,[(b1, .cells #[.int .i64 Z1] 36 (0,0))],[]⟩∧(X24 x1 x2 x3 x4) Z0 Z1=some r) [(1,_),(2,_),(3,_),(4,_),(5,_)] [] [] [] [] ?_ ?_;rintro _ ⟨v63,v64,rfl,r66⟩;refine .gn 0 ?_;unfold X24 at r66;try dsimp only at r66
 refine .go 7 ?_;refine .kB (fun y=>∃(Z0:_),y=⟨[],G::Fs,[(b1, .cells #[.int .i64 Z0] 36 (0,0))],[]⟩∧(X3s v63 x1 x2 x3 x4) Z0=some r) [(13,_),(1,_),(2,_),(3,_),(4,_),(5,_)] [] [] [] [] ?_ ?_;rintro _ ⟨v12,rfl,r13⟩;refine .gn 0 ?_;unfold X3s at r13;try dsimp only at r13
 refine .go 7 ?_;refine .cH r13 (fun c14 r15=>?_) (fun c14 r16=>?_);cases r15;refine .go 5 ?_;obtain⟨u18,hu18,r19⟩:=X0 r16;refine .makeR (G:=G) (Q:=Rep.bool) .ro sl186 ty4 rfl rfl rfl ((Rep.boolI false) :) rfl rfl hu18 rfl rfl (fun b20 cs21 hb20 o22=>?_);refine .go 11 ?_;refine .kB (fun y=>∃(Z0:_)(Z1:Bj)(Z2:_)(Z3:Nat)(Z4:_)(Z5:Ac)(Z6:_)(Z7:Nat)(Z8 Z9:_),y=⟨[(18, .slice Z2 Z1.length Z3),(19, .slice Z6 Z5.length Z7)],Z0::Fs,[(b1, .cells #[.int .i64 Z9] 36 (0,0))],[.s (.slice Z2 Z1.length Z3) 4 1 Z1.length Z4, .s (.slice Z6 Z5.length Z7) 48 1 Z5.length Z8]⟩∧HpLe G Z0∧Bd w0 S0 Fs Z0∧OL Rep.bool Z0 Z4 Z1∧OL (Rep.sl ri) Z0 Z8 Z5∧Xc Z1 Z5 Z9=some r) [] [] [] [] [] ?_ ?_;rintro _ ⟨G23,v24,a25,k26,cs27,v28,a29,k30,cs31,v32,rfl,e33,B34,o35,o38,r39⟩;refine .gn 0 ?_;unfold Xc at r39;try dsimp only at r39
 refine .go 11 ?_;refine .block (.own_nil 3 1 ?_);refine .lp (fun y m=>∃(Z0:Nat)(Z1:Bj)(Z2:Aa)(Z3:_)(Z4:Nat)(Z5:_),y=⟨[(29, .slice Z3 Z2.length Z4),(135, .int .i64 (Z0:Int))],[],[],[.s (.slice Z3 Z2.length Z4) 3 1 Z2.length Z5]⟩∧Z1.length=m∧OL ri G23 Z5 Z2∧List.drop Z0 v24=Z1∧X3q v28 Z1 Z0 Z2=some r) [(19,_),(133,_),(134,_)] [_] [_,_] ⟨0,v24,([]:List Int),none,0,[],rfl,rfl,(OL.nil (Rp':=ri)),rfl,r39⟩ (fun y m hI hb40=>?_);obtain⟨i41,w42,v43,a44,k45,cs46,rfl,rfl,o47,g49,r50⟩:=hI;refine .gn 0 ?_;rcases w42 with _ | ⟨x51,xs52⟩;rw[X3q] at r50;try dsimp only at r50
 refine .go 5 ?_;refine .cond_dec rfl (fun c=>absurd c (X5 g49)) (fun _=>?_);refine .exit rfl (.go 8 ?_);cases r50;refine .drop 1 0 [] _ rfl rfl (.pullS 2 rfl [_,_,_] rfl (.pullS 2 rfl [_,_,_] rfl (.drop 0 1 _ [_,_] rfl rfl ?_)));refine .rW 0 [.tmp 10, .tmp 11, .tmp 12] [_,_,_] Tryz.func123 Tryz.results123 ⟨RV.tmp rfl,RV.tmp rfl,RV.tmp rfl,trivial⟩ B34 hS0 (fun G' hg=>⟨a29,k30,cs31,a44,k45,cs46,rfl,rfl,rfl,(OL.mono hg o38),(OL.mono hg o47)⟩);have r53:X71 v28 (X3q v28 xs52 (i41+1)) x51 i41 v43=some r:=r50;clear r50;unfold X71 at r53;try dsimp only at r53
 refine .go 5 ?_;refine .cond_dec rfl (fun _=>?_) (fun c=>absurd (X9 g49) c);refine .go 2 ?_;refine .block (.go 3 ?_);obtain⟨c54,p55,h56⟩:=OL.get o35 (X2 g49);obtain rfl:=h56;refine .q .ro (.idxO 1 rfl rfl rfl (X2 g49) sl186 ty4.sz) rfl (.q .ro (.loadO 1 0 rfl (X2 g49) p55 rfl (.inl ⟨rfl,rfl⟩) ty4 rfl) rfl (.go 7 ?_));refine .cB r53 (fun c57 r58=>?_) (fun c57 r59=>?_);refine .go 3 ?_;refine .lit [_] [(0,_)] .ro sl48 ty3 rfl rfl rfl rfl rfl rfl (fun b61 hb61=>?_);have o62:OL ri G23 [.int .i64 (i41:Int)] ([(i41:Int)]:List Int):=((OL.cons rfl (Rep.intI .i64 (i41:Int)) (OL.nil (Rp':=ri))) :)
 refine .reval 143 (n':=([(i41:Int)]:List Int).length) rfl rfl ?_;obtain⟨u65,hu65,r67⟩:=X0 r58;refine .appO (Q:=ri) 0 .ro sl48 ty3 rfl rfl rfl rfl rfl rfl o47 o62 rfl rfl rfl B34 hu65 rfl (fun a68 k69 cs70 o71=>?_);refine .go 7 ?_;exact(hb40 _ _ ⟨(i41+1),xs52,u65,a68,k69,cs70,rfl,rfl,o71,(X3 g49),r67⟩ (Nat.lt_succ_self _)).ax ⟨rfl,(congrArg (fun z=>some (Value.int .i64 z)) (X4 (OL.len' o35) g49)),rfl,rfl,rfl,trivial⟩;refine .go 6 ?_;exact(hb40 _ _ ⟨(i41+1),xs52,v43,a44,k45,cs46,rfl,rfl,o47,(X3 g49),r59⟩ (Nat.lt_succ_self _)).ax ⟨rfl,(congrArg (fun z=>some (Value.int .i64 z)) (X4 (OL.len' o35) g49)),rfl,rfl,rfl,trivial⟩;intro hb72;refine .block (.own_nil 48 1 (.pullS 1 rfl [_,_] rfl (.pullS 1 rfl [_,_] rfl ?_)));refine .lp (fun y m=>∃(Z0:Nat)(Z1:_)(Z2:Ac)(Z3:_)(Z4:Nat)(Z5 Z6:_)(Z7:Bj)(Z8:_)(Z9:Nat)(Z10 Z11:_),y=⟨[(19, .slice Z3 Z2.length Z4),(20, .int .i64 Z6),(18, .slice Z8 Z7.length Z9)],[Z1],[(b1, .cells #[.int .i64 Z11] 36 (0,0))],[.s (.slice Z3 Z2.length Z4) 48 1 Z2.length Z5, .s (.slice Z8 Z7.length Z9) 4 1 Z7.length Z10]⟩∧Z0=m∧HpLe G Z1∧Bd w0 S0 Fs Z1∧OL (Rep.sl ri) Z1 Z5 Z2∧OL Rep.bool Z1 Z10 Z7∧Xh Xc x2 x3 x4 Z0 Z2 Z6 Z7 Z11=some r) [(2,_),(3,_),(4,_),(5,_)] [] [] ⟨big,G,([]:List (List Int)),none,0,[],0,u18,(some ⟨b20,0,none⟩),u18.length,cs21,v12,rfl,rfl,(HpLe.refl _),B0,(OL.nil (Rp':=(Rep.sl ri))),o22,r19⟩ (fun y m hI hb73=>?_);obtain⟨n74,G75,v76,a77,k78,cs79,v80,v81,a82,k83,cs84,v85,rfl,rfl,e86,B87,o88,o89,r90⟩:=hI;refine .gn 0 ?_;obtain⟨m91,rfl⟩:∃m,n74=m+1:=by cases n74 with |zero=>exact absurd (show(none:Option _)=some _ from r90) (by simp) |succ m=>exact⟨m,rfl⟩
 have r92:X9f Xc x2 x3 x4 (Xh Xc x2 x3 x4 m91) v76 v80 v81 v85=some r:=r90;clear r90;unfold X9f at r92;try dsimp only at r92
 refine .go 7 ?_;refine .cH r92 (fun c93 r94=>?_) (fun c93 r95=>?_);refine .go 2 ?_;refine .block (.go 11 ?_);refine .kB (fun y=>∃(Z0:Ay)(Z1:_)(Z2:Nat)(Z3 Z4:_),y=⟨[(21, .slice Z1 Z0.length Z2)],G75::Fs,[(b1, .cells #[.int .i64 Z4] 36 (0,0))],[.s (.slice Z1 Z0.length Z2) 204 2 Z0.length Z3]⟩∧OL (Rep.pair ri Rep.bool) G75 Z3 Z0∧(X2u (Xh Xc x2 x3 x4 m91) v80 x2 v76 v81) Z0 Z4=some r) [(19,_),(20,_),(18,_),(2,_),(3,_),(4,_),(5,_)] [] [] [_,_] [0,1] ?_ ?_;rintro _ ⟨v96,a97,k98,cs99,v100,rfl,o101,r102⟩;refine .gn 0 ?_;unfold X2u at r102;try dsimp only at r102
 refine .go 2 ?_;refine .q .ro (.load_own_a 0 [_] rfl rfl ty36 rfl) rfl (.go 2 ?_);refine .freezeR 0 rfl rfl o101 [_,_] rfl B87 (fun G103 e104 B105 s106=>?_);obtain⟨u107,hu107,r109⟩:=X0 r102;refine .cW [_,_,_] Tryz.call144 (Xi4 mcs s106 hu107) B105 (fun v110 bo so G111 e112 B113 h114=>?_);obtain⟨a115,k116,a117,k118,rfl,rfl,rfl,s120,s121⟩:=h114;refine .gn 3 ?_;refine .alloc .ro ty206 rfl (fun b122 hb122=>?_);refine .store 0 [_,_] [_,_] .ro rfl rfl rfl ty206 rfl rfl rfl rfl (.go 8 ?_);refine .cH r109 (fun c124 r125=>?_) (fun c124 r126=>?_);cases r125;refine .go 6 ?_;refine .lit [_] [(0,_)] .ro sl37 ty48 rfl rfl rfl rfl rfl rfl (fun b127 hb127=>?_);have o128:OL (Rep.sl ri) G111 [.slice a115 u107.1.1.length k116] ([u107.1.1]:List (List Int)):=((OL.cons rfl (Rep.slI s120) (OL.nil (Rp':=(Rep.sl ri)))) :)
 refine .reval 120 (n':=([u107.1.1]:List (List Int)).length) rfl rfl ?_;obtain⟨u129,hu129,r130⟩:=X0 r126;refine .appO (Q:=(Rep.sl ri)) 0 .ro sl37 ty48 rfl rfl rfl rfl rfl rfl (OL.mono (HpLe.trans e104 e112) o88) o128 rfl rfl rfl B113 hu129 rfl (fun a131 k132 cs133 o134=>?_);refine .go 9 ?_;refine .block (.pullS 1 rfl [_,_] rfl ?_);refine .lp (fun y m=>∃(Z0:Nat)(Z1:Aa)(Z2:Bj)(Z3:_)(Z4:Nat)(Z5:_),y=⟨[(18, .slice Z3 Z2.length Z4),(125, .int .i64 (Z0:Int))],[],[],[.s (.slice Z3 Z2.length Z4) 4 1 Z2.length Z5]⟩∧Z1.length=m∧OL Rep.bool G111 Z5 Z2∧List.drop Z0 u107.1.2=Z1∧X3r (Xh Xc x2 x3 x4 m91) v80 v100 u129 Z1 Z2=some r) [(19,_),(20,_),(2,_),(3,_),(4,_),(5,_),(123,_),(124,_)] [_,_] [_] ⟨0,u107.1.2,v81,a82,k83,cs84,rfl,rfl,(OL.mono (HpLe.trans e104 e112) o89),rfl,r130⟩ (fun y m hI hb135=>?_);obtain⟨i136,w137,v138,a139,k140,cs141,rfl,rfl,o142,g143,r145⟩:=hI;refine .gn 0 ?_;rcases w137 with _ | ⟨x146,xs147⟩;rw[X3r] at r145;try dsimp only at r145
 refine .go 5 ?_;refine .cond_dec rfl (fun c=>absurd c (X5 g143)) (fun _=>?_);refine .exit rfl (.go 6 ?_);refine .drop 1 0 [_] _ rfl rfl (.pullS 1 rfl [_,_] rfl ?_);exact(hb73 _ _ ⟨m91,G111,u129,a131,k132,cs133,(w64 (v80+1)),v138,a139,k140,cs141,v100,rfl,rfl,(HpLe.trans (HpLe.trans e86 e104) e112),B113,o134,o142,r145⟩ (Nat.lt_succ_self _)).ar;have r148:X72 (Xh Xc x2 x3 x4 m91) v80 v100 u129 (X3r (Xh Xc x2 x3 x4 m91) v80 v100 u129 xs147) x146 v138=some r:=r145;clear r145;unfold X72 at r148;try dsimp only at r148
 refine .go 5 ?_;refine .cond_dec rfl (fun _=>?_) (fun c=>absurd (X9 g143) c);refine .go 2 ?_;refine .block (.go 2 ?_);obtain⟨c149,p150,h151⟩:=SlR.get s121 (X2 g143);obtain rfl:=h151;refine .q .ro (.idxR s121 rfl rfl (X2 g143) sl48 ty3.sz) rfl (.q .ro (.load_rp p150 mcs rfl ty3 rfl) rfl (.go 5 ?_));obtain⟨u152,hu152,r153⟩:=X0 r148;obtain⟨c154,p155,h156⟩:=OL.get o142 hu152;obtain rfl:=h156;refine .q .ro (.idxO 0 rfl rfl rfl hu152 sl186 ty4.sz) rfl ?_;obtain⟨u157,hu157,r158⟩:=X0 r153;refine .storeR 0 0 (Q:=Rep.bool) .ro rfl rfl o142 hu157 rfl (.inl ⟨rfl,rfl⟩) rfl ty4 p155 ((Rep.boolI true) :) rfl rfl (fun cs159 hlcs159 o160=>?_);refine .reval 18 hlcs159 rfl (.reval 129 hlcs159 rfl (.go 6 ?_));exact(hb135 _ _ ⟨(i136+1),xs147,u157,a139,k140,cs159,rfl,rfl,o160,(X3 g143),r158⟩ (Nat.lt_succ_self _)).ax ⟨rfl,(congrArg (fun z=>some (Value.int .i64 z)) (X4 (SlR.len s121) g143)),rfl,rfl,rfl,rfl,rfl,rfl,rfl,rfl,trivial⟩;intro hb161;refine .block (.own_nil 204 2 ?_);refine .lp (fun y m=>∃(Z0:Nat)(Z1:Ah)(Z2:Ay)(Z3:_)(Z4:Nat)(Z5:_),y=⟨[(21, .slice Z3 Z2.length Z4),(88, .int .i64 (Z0:Int))],[],[],[.s (.slice Z3 Z2.length Z4) 204 2 Z2.length Z5]⟩∧Z1.length=m∧OL (Rep.pair ri Rep.bool) G75 Z5 Z2∧List.drop Z0 x4=Z1∧X21 (X2u (Xh Xc x2 x3 x4 m91) v80 x2 v76 v81) v80 v85 Z1 Z2=some r) [(19,_),(20,_),(18,_),(2,_),(3,_),(4,_),(5,_),(86,_),(87,_)] [_] [_,_] ⟨0,x4,([]:List (Int×Bool)),none,0,[],rfl,rfl,(OL.nil (Rp':=(Rep.pair ri Rep.bool))),rfl,r94⟩ (fun y m hI hb162=>?_);obtain⟨i163,w164,v165,a166,k167,cs168,rfl,rfl,o169,g170,r171⟩:=hI;refine .gn 0 ?_;rcases w164 with _ | ⟨x172,xs173⟩;rw[X21] at r171;try dsimp only at r171
 refine .go 5 ?_;refine .cond_dec rfl (fun c=>absurd c (X5 g170)) (fun _=>?_);refine .exit rfl ?_;exact(hb161 _ ⟨v165,a166,k167,cs168,v85,rfl,o169,r171⟩).ar;have r174:X74 (X2u (Xh Xc x2 x3 x4 m91) v80 x2 v76 v81) v80 v85 (X21 (X2u (Xh Xc x2 x3 x4 m91) v80 x2 v76 v81) v80 v85 xs173) x172 v165=some r:=r171;clear r171;unfold X74 at r174;try dsimp only at r174
 refine .go 5 ?_;refine .cond_dec rfl (fun _=>?_) (fun c=>absurd (X9 g170) c);refine .go 2 ?_;refine .block (.go 2 ?_);obtain⟨c175,p176,h177⟩:=SlR.get (SlR.mono e86 s4) (X2 g170);obtain⟨_,_,rfl,rfl,a178,k179,rfl,s180⟩:=h177;refine .q .ro (.idxR (SlR.mono e86 s4) rfl rfl (X2 g170) sl60 ty108.sz) rfl (.q .ro (.load_rp_a [_,_] p176 mcs rfl ty108 rfl) rfl ?_);refine .alloc .ro ty108 rfl (fun b181 hb181=>?_);refine .store 0 [_,_] [_,_] .ro rfl rfl rfl ty108 rfl rfl rfl rfl (.go 5 ?_);refine .q .ro (.build [_,_] [(1,_)] ty204 pl204 rfl rfl) rfl ?_;refine .alloc .ro ty204 rfl (fun b182 hb182=>?_);refine .store 0 [_,_] [_,_,_] .ro rfl rfl rfl ty204 rfl rfl rfl rfl (.go 7 ?_);refine .kI (fun y=>∃(Z0:_),y=⟨[],G75::Fs,[(b182, .cells #[.int .i64 Z0, .bool x172.1] 204 (0,0))],[]⟩∧(X73 (X21 (X2u (Xh Xc x2 x3 x4 m91) v80 x2 v76 v81) v80 v85 xs173) x172.1 v165) Z0=some r) [(21,_),(88,_),(19,_),(20,_),(18,_),(2,_),(3,_),(4,_),(5,_),(86,_),(87,_),(24,_)] [_,_] [1,2] [_,_,_] [0,1,2] ?_ ?_;rintro _ ⟨v183,rfl,r184⟩;refine .gn 0 ?_;unfold X73 at r184;try dsimp only at r184
 refine .go 2 ?_;refine .q .ro (.load_own_a 0 [_,_] rfl rfl ty204 rfl) rfl ?_;refine .lit [_,_] [(0,_)] .ro sl202 ty204 rfl rfl rfl rfl rfl rfl (fun b185 hb185=>?_);have o187:OL (Rep.pair ri Rep.bool) G75 [.int .i64 v183, .bool x172.1] ([(v183,x172.1)]:List (Int×Bool)):=((OL.cons rfl (Rep.pairI (Rep.intI .i64 v183) (Rep.boolI x172.1)) (OL.nil (Rp':=(Rep.pair ri Rep.bool)))) :)
 refine .reval 105 (n':=([(v183,x172.1)]:List (Int×Bool)).length) rfl rfl ?_;obtain⟨u188,hu188,r189⟩:=X0 r184;refine .appO (Q:=(Rep.pair ri Rep.bool)) 0 .ro sl202 ty204 rfl rfl rfl rfl rfl rfl o169 o187 rfl rfl rfl B87 hu188 rfl (fun a190 k191 cs192 o193=>?_);refine .go 7 ?_;refine .drop 2 0 [_] _ rfl rfl ?_;exact(hb162 _ _ ⟨(i163+1),xs173,u188,a190,k191,cs192,rfl,rfl,o193,(X3 g170),r189⟩ (Nat.lt_succ_self _)).ax ⟨rfl,(congrArg (fun z=>some (Value.int .i64 z)) (X4 (SlR.len (SlR.mono e86 s4)) g170)),rfl,rfl,rfl,rfl,rfl,rfl,rfl,rfl,rfl,trivial⟩;intro hb194;refine .cB r174 (fun c195 r196=>?_) (fun c195 r197=>?_);refine .go 4 ?_;obtain⟨u198,hu198,r199⟩:=X0 r196;obtain⟨c200,p201,h203⟩:=SlR.get s180 hu198;obtain rfl:=h203;refine .q .ro (.idxR s180 rfl rfl hu198 sl48 ty3.sz) rfl (.q .ro (.load_rp p201 mcs rfl ty3 rfl) rfl (.go 1 ?_));refine .store 0 [_,_] [_,_,_] .ro rfl rfl rfl ty3 rfl rfl rfl rfl (.go 1 ?_);exact(hb194 _ ⟨(u198),rfl,r199⟩).ar;refine .go 1 ?_;exact(hb194 _ ⟨(0),rfl,r197⟩).ar;refine .exit rfl ?_;refine .pullS 1 rfl [_,_] rfl ?_;exact(hb72 _ ⟨G75,v81,a82,k83,cs84,v76,a77,k78,cs79,v85,rfl,e86,B87,o89,o88,r95⟩).ar;intro hb205;refine .block ?_;refine .lp (fun y m=>∃(Z0:Nat)(Z1:Ah),y=⟨[(61, .int .i64 (Z0:Int))],[],[],[]⟩∧Z1.length=m∧List.drop Z0 x4=Z1∧X3t (X3s v63 x1 x2 x3 x4) v64 Z1=some r) [(13,_),(1,_),(2,_),(3,_),(4,_),(5,_),(59,_),(60,_)] [_] [] ⟨0,x4,rfl,rfl,rfl,r66⟩ (fun y m hI hb207=>?_);obtain⟨i208,w209,rfl,rfl,g210,r211⟩:=hI;refine .gn 0 ?_;rcases w209 with _ | ⟨x212,xs213⟩;rw[X3t] at r211;try dsimp only at r211
 refine .go 5 ?_;refine .cond_dec rfl (fun c=>absurd c (X5 g210)) (fun _=>?_);refine .exit rfl ?_;exact(hb205 _ ⟨(v64),rfl,r211⟩).ar;have r214:X75 (X3s v63 x1 x2 x3 x4) v64 (X3t (X3s v63 x1 x2 x3 x4) v64 xs213) x212=some r:=r211;clear r211;unfold X75 at r214;try dsimp only at r214
 refine .go 5 ?_;refine .cond_dec rfl (fun _=>?_) (fun c=>absurd (X9 g210) c);refine .go 2 ?_;refine .block (.go 2 ?_);obtain⟨c215,p216,h217⟩:=SlR.get s4 (X2 g210);obtain⟨_,_,rfl,rfl,a218,k219,rfl,s220⟩:=h217;refine .q .ro (.idxR s4 rfl rfl (X2 g210) sl60 ty108.sz) rfl (.q .ro (.load_rp_a [_,_] p216 mcs rfl ty108 rfl) rfl ?_);refine .alloc .ro ty108 rfl (fun b221 hb221=>?_);refine .store 0 [_,_] [_,_] .ro rfl rfl rfl ty108 rfl rfl rfl rfl (.go 6 ?_);obtain⟨u222,h223,r224⟩:=X0 r214;refine .kR (fun y=>y=⟨[(73, .bool u222)],G::Fs,[],[]⟩) [(61,_),(13,_),(1,_),(2,_),(3,_),(4,_),(5,_),(59,_),(60,_)] [_,_] [0,1] [] [] 6 ?_ ?_;rintro _ rfl;refine .gn 1 ?_;refine .cB r224 (fun c225 r226=>?_) (fun c225 r227=>?_);cases r226;refine .go 6 ?_;refine .drop 1 0 [_] _ rfl rfl ?_;exact(hb207 _ _ ⟨(i208+1),xs213,rfl,rfl,(X3 g210),r227⟩ (Nat.lt_succ_self _)).ax ⟨(congrArg (fun z=>some (Value.int .i64 z)) (X4 (SlR.len s4) g210)),rfl,rfl,rfl,rfl,rfl,rfl,rfl,rfl,trivial⟩;intro hb228;refine .split_b 67 rfl (fun c229=>?_) (fun c229=>?_);have r230:=ifT h223 c229
 refine .go 1 ?_;refine .q .ro (.load_own_a 1 [_] rfl rfl ty36 rfl) rfl (.go 5 ?_);obtain⟨u231,hu231,r232⟩:=X0 r230;refine .cV [_,_] Tryz.call119 (X4x mcs s220 hu231) ?_;refine .go 3 ?_;exact(hb228 _ rfl).ax ⟨sval r232,rfl,rfl,rfl,rfl,rfl,rfl,rfl,rfl,rfl,trivial⟩;have r233:=ifBF h223 c229
 refine .go 6 ?_;exact(hb228 _ rfl).ax ⟨sval r233,rfl,rfl,rfl,rfl,rfl,rfl,rfl,rfl,rfl,trivial⟩;intro hb234;refine .block ?_;refine .lp (fun y m=>∃(Z0:Nat)(Z1:Ah)(Z2:_),y=⟨[(13, .int .i64 Z2),(44, .int .i64 (Z0:Int))],[],[],[]⟩∧Z1.length=m∧List.drop Z0 x4=Z1∧X25 (X24 x1 x2 x3 x4) x3 x0_0 Z1 Z2=some r) [(1,_),(2,_),(3,_),(4,_),(5,_),(42,_),(43,_)] [_] [] ⟨0,x4,0,rfl,rfl,rfl,r11⟩ (fun y m hI hb235=>?_);obtain⟨i236,w237,v238,rfl,rfl,g239,r240⟩:=hI;refine .gn 0 ?_;rcases w237 with _ | ⟨x241,xs242⟩;rw[X25] at r240;try dsimp only at r240
 refine .go 5 ?_;refine .cond_dec rfl (fun c=>absurd c (X5 g239)) (fun _=>?_);refine .exit rfl ?_;exact(hb234 _ ⟨v238,x0_0,rfl,r240⟩).ar;have r243:X66 (X24 x1 x2 x3 x4) x3 x0_0 (X25 (X24 x1 x2 x3 x4) x3 x0_0 xs242) x241 v238=some r:=r240;clear r240;unfold X66 at r243;try dsimp only at r243
 refine .go 5 ?_;refine .cond_dec rfl (fun _=>?_) (fun c=>absurd (X9 g239) c);refine .go 2 ?_;refine .block (.go 2 ?_);obtain⟨c244,p245,h246⟩:=SlR.get s4 (X2 g239);obtain⟨_,_,rfl,rfl,a247,k248,rfl,s249⟩:=h246;refine .q .ro (.idxR s4 rfl rfl (X2 g239) sl60 ty108.sz) rfl (.q .ro (.load_rp_a [_,_] p245 mcs rfl ty108 rfl) rfl ?_);refine .alloc .ro ty108 rfl (fun b250 hb250=>?_);refine .store 0 [_,_] [_,_] .ro rfl rfl rfl ty108 rfl rfl rfl rfl (.go 8 ?_);refine .cB r243 (fun c251 r252=>?_) (fun c251 r253=>?_);refine .exit rfl ?_;refine .go 4 ?_;refine .drop 1 0 [_] _ rfl rfl ?_;exact(hb235 _ _ ⟨(i236+1),xs242,v238,rfl,rfl,(X3 g239),r252⟩ (Nat.lt_succ_self _)).ax ⟨rfl,(congrArg (fun z=>some (Value.int .i64 z)) (X4 (SlR.len s4) g239)),rfl,rfl,rfl,rfl,rfl,rfl,rfl,trivial⟩;refine .go 15 ?_;refine .cH r253 (fun c254 r255=>?_) (fun c254 r256=>?_);cases r255;refine .go 6 ?_;refine .drop 1 0 [_] _ rfl rfl ?_;exact(hb235 _ _ ⟨(i236+1),xs242,(w64 (v238+1)),rfl,rfl,(X3 g239),r256⟩ (Nat.lt_succ_self _)).ax ⟨rfl,(congrArg (fun z=>some (Value.int .i64 z)) (X4 (SlR.len s4) g239)),rfl,rfl,rfl,rfl,rfl,rfl,rfl,trivial⟩;intro hb3;refine .split 34 rfl (fun c2=>?_) (fun c2=>?_);refine .go 3 ?_;exact(hb3 _ rfl).ax ⟨Xq c2,rfl,rfl,rfl,rfl,rfl,trivial⟩;refine .go 5 ?_;exact(hb3 _ rfl).ax ⟨Xr c2,rfl,rfl,rfl,rfl,rfl,trivial⟩
theorem Xi5{x0_0 x1_0 x1_1 x2:Int}{x3:Ah}{r:Dl}(hG:G∈Fs)(s3:SlR (Rep.pair Rep.bool (Rep.sl ri)) G a3 k3 x3)(h:Xbv x0_0 (x1_0,x1_1) x2 x3=some r):RetW Tryz.prog 88 #[.agg #[.int .i64 x0_0], .agg #[.int .i64 x1_0, .int .i64 x1_1], .int .i64 x2, .slice a3 x3.length k3] Fs [] [] (fun v bo so G=>∃a0:Option Addr,∃k0:Nat,∃a1:Option Addr,∃k1:Nat,v= .tuple #[.agg #[.slice a0 r.1.1.length k0, .slice a1 r.1.2.length k1], .int .i64 r.2]∧bo=[]∧so=[]∧SlR ri G a0 k0 r.1.1∧SlR ri G a1 k1 r.1.2):=by
 unfold Xbv at h;try dsimp only at h
 refine RetW.st [(0,_),(1,_),(2,_),(3,_)] Tryz.func88 Tryz.ntmps88 hG fun w0 S0 hS0 B0=>?_;refine .go 2 ?_;refine .box [_] .ro rfl rfl rfl (fun b1 hb1=>?_);refine .box [_,_] .ro rfl rfl rfl (fun b2 hb2=>?_);refine .alloc .ro ty110 rfl (fun b3 hb3=>?_);refine .go 5 ?_;refine .q .ro (.load_own_a 2 [_] rfl rfl ty36 rfl) rfl (.q .ro (.load_own_a 1 [_,_] rfl rfl ty141 rfl) rfl ?_);obtain⟨u4,hu4,r5⟩:=X0 h;refine .cV [_,_] Tryz.call114 (Xg2 mcs hu4) ?_;refine .go 7 ?_;refine .cH r5 (fun c8 r9=>?_) (fun c8 r10=>?_);cases r9;refine .go 3 ?_;refine .q .ro (.load_own_a 2 [_] rfl rfl ty36 rfl) rfl (.go 7 ?_);obtain⟨u11,hu11,r12⟩:=X0 r10;refine .cW [_,_,_,_,_] Tryz.call123 (Xez mcs s3 hu11) B0 (fun v14 bo so G15 e16 B17 h13=>?_);obtain⟨a20,k21,cs22,a25,k26,cs27,rfl,rfl,rfl,o23,o28⟩:=h13;refine .gn 14 ?_;refine .cH r12 (fun c29 r30=>?_) (fun c29 r31=>?_);cases r30;refine .go 4 ?_;refine .q .ro (.build [_,_] [(1,_)] ty110 pl110 rfl rfl) rfl ?_;refine .alloc .ro ty110 rfl (fun b32 hb32=>?_);refine .store 0 [_,_] [_,_,_,_] .ro rfl rfl rfl ty110 rfl rfl rfl rfl (.go 8 ?_);refine .kB (fun y=>∃(Z0:Aa)(Z1:_)(Z2:Nat)(Z3 Z4 Z5 Z6:_),y=⟨[],G15::Fs,[(b32, .cells #[.slice Z1 Z0.length Z2, .slice a25 u11.2.1.length k26] 110 (0,0)),(b2, .cells #[.int .i64 Z4, .int .i64 Z5] 141 (0,0)),(b1, .cells #[.int .i64 Z6] 36 (0,0))],[.s (.slice Z1 Z0.length Z2) 3 1 Z0.length Z3]⟩∧OL ri G15 Z3 Z0∧(X3d u11.2.1) Z0 Z4 Z5 Z6=some r) [(8,_),(14,_)] [_] [1] [_,_] [0,1] ?_ ?_;rintro _ ⟨v18,a19,k24,cs33,v34,v35,v38,rfl,o39,r40⟩;refine .gn 0 ?_;unfold X3d at r40;try dsimp only at r40
 refine .go 2 ?_;refine .q .ro (.load_own_a 0 [_,_] rfl rfl ty110 rfl) rfl (.store 3 [_,_] [_,_,_,_] .ro rfl rfl rfl ty110 rfl rfl rfl rfl (.go 2 ?_));refine .freezeR 0 rfl rfl o39 [_,_] rfl B17 (fun G41 e42 B43 s44=>?_);refine .freezeR 1 rfl rfl (OL.mono e42 o28) [_] rfl B43 (fun G45 e46 B47 s49=>?_);cases r40;refine .drop 0 1 _ [] rfl rfl ?_;refine .rW 4 [.cell 8 110, .tmp 9] [_,_] Tryz.func88 Tryz.results88 ⟨RV.cell_a 3 [_,_] rfl rfl ty110 rfl,RV.tmp rfl,trivial⟩ B47 hS0 (fun G' hg=>⟨a19,k24,a25,k26,rfl,rfl,rfl,(SlR.mono hg (SlR.mono e46 s44)),(SlR.mono hg s49)⟩);intro hb50;refine .block (.own_nil 3 1 ?_);refine .lp (fun y m=>∃(Z0:Nat)(Z1:Ac)(Z2:Aa)(Z3:_)(Z4:Nat)(Z5:_),y=⟨[(47, .int .i64 (Z0:Int))],[],[(b32, .cells #[.slice Z3 Z2.length Z4, .slice a25 u11.2.1.length k26] 110 (0,0))],[.s (.slice Z3 Z2.length Z4) 3 1 Z2.length Z5]⟩∧Z1.length=m∧OL ri G15 Z5 Z2∧List.drop Z0 u11.1=Z1∧X3e (X3d u11.2.1) x1_0 x1_1 x0_0 Z1 Z2=some r) [(4,_),(8,_),(14,_),(45,_),(46,_)] [_,_,_] [_,_] ⟨0,u11.1,([]:List Int),none,0,[],rfl,rfl,(OL.nil (Rp':=ri)),rfl,r31⟩ (fun y m hI hb51=>?_);obtain⟨i52,w53,v54,a55,k56,cs57,rfl,rfl,o58,g59,r60⟩:=hI;refine .gn 0 ?_;rcases w53 with _ | ⟨x61,xs62⟩;rw[X3e] at r60;try dsimp only at r60
 refine .go 5 ?_;refine .cond_dec rfl (fun c=>absurd c (X5 g59)) (fun _=>?_);refine .exit rfl (.pull 1 rfl [_,_,_,_] rfl (.pull 3 rfl [_,_,_,_] rfl (.pull 3 rfl [_,_,_,_] rfl (.pull 3 rfl [_,_,_,_] rfl ?_))));exact(hb50 _ ⟨v54,a55,k56,cs57,x1_0,x1_1,x0_0,rfl,o58,r60⟩).ar;have r63:X84 (X3d u11.2.1) x1_0 x1_1 x0_0 (X3e (X3d u11.2.1) x1_0 x1_1 x0_0 xs62) x61 v54=some r:=r60;clear r60;unfold X84 at r63;try dsimp only at r63
 refine .go 5 ?_;refine .cond_dec rfl (fun _=>?_) (fun c=>absurd (X9 g59) c);refine .go 2 ?_;refine .block (.go 2 ?_);obtain⟨c65,p66,h67⟩:=OL.get o23 (X2 g59);obtain⟨a68,k69,rfl,s70⟩:=h67;refine .q .ro (.idxO 1 rfl rfl rfl (X2 g59) sl37 ty48.sz) rfl (.q .ro (.loadO 1 0 rfl (X2 g59) p66 rfl (.inl ⟨rfl,rfl⟩) ty48 rfl) rfl (.go 4 ?_));refine .q .ro (.load_own_a 3 [_] rfl rfl ty36 rfl) rfl (.go 1 ?_);obtain⟨u71,hu71,r72⟩:=X0 r63;refine .cV [_,_,_] Tryz.call118 (Xcc mcs s70 hu71) ?_;refine .go 10 ?_;refine .lit [_] [(0,_)] .ro sl48 ty3 rfl rfl rfl rfl rfl rfl (fun b73 hb73=>?_);have o74:OL ri G15 [.int .i64 u71.1] ([u71.1]:List Int):=((OL.cons rfl (Rep.intI .i64 u71.1) (OL.nil (Rp':=ri))) :)
 refine .reval 60 (n':=([u71.1]:List Int).length) rfl rfl ?_;obtain⟨u75,hu75,r76⟩:=X0 r72;refine .appO (Q:=ri) 0 .ro sl48 ty3 rfl rfl rfl rfl rfl rfl o58 o74 rfl rfl rfl B17 hu75 rfl (fun a77 k78 cs79 o80=>?_);refine .go 1 ?_;refine .store 0 [_,_] [_,_,_,_] .ro rfl rfl rfl ty48 rfl rfl rfl rfl (.go 6 ?_);exact(hb51 _ _ ⟨(i52+1),xs62,u75,a77,k78,cs79,rfl,rfl,o80,(X3 g59),r76⟩ (Nat.lt_succ_self _)).ax ⟨(congrArg (fun z=>some (Value.int .i64 z)) (X4 (OL.len' o23) g59)),rfl,rfl,rfl,rfl,rfl,trivial⟩
theorem Xi6{x0_0 x1_0 x1_1 x1_2 x2:Int}{x3:Ah}{r:Ac×Ad}(hG:G∈Fs)(s3:SlR (Rep.pair Rep.bool (Rep.sl ri)) G a3 k3 x3)(h:Xbw x0_0 (x1_0,x1_1,x1_2) x2 x3=some r):RetW Tryz.prog 89 #[.agg #[.int .i64 x0_0], .agg #[.int .i64 x1_0, .int .i64 x1_1, .int .i64 x1_2], .int .i64 x2, .slice a3 x3.length k3] Fs [] [] (fun v bo so G=>∃(oa0:Ar)(ok0:Nat)(oc0:Au),∃(oa1:Ar)(ok1:Nat)(oc1:Au),v= .tuple #[.slice oa0 r.1.length ok0, .slice oa1 r.2.1.length ok1, .int .i64 r.2.2]∧bo=[]∧so=[.s (.slice oa0 r.1.length ok0) 48 1 r.1.length oc0, .s (.slice oa1 r.2.1.length ok1) 3 1 r.2.1.length oc1]∧OL (Rep.sl ri) G oc0 r.1∧OL ri G oc1 r.2.1):=by
 unfold Xbw at h;try dsimp only at h
 refine RetW.st [(0,_),(1,_),(2,_),(3,_)] Tryz.func89 Tryz.ntmps89 hG fun w0 S0 hS0 B0=>?_;refine .go 2 ?_;refine .box [_] .ro rfl rfl rfl (fun b1 hb1=>?_);refine .box [_,_,_] .ro rfl rfl rfl (fun b2 hb2=>?_);refine .go 7 ?_;refine .q .ro (.load_own_a 1 [_] rfl rfl ty36 rfl) rfl (.q .ro (.load_own_a 0 [_,_,_] rfl rfl ty145 rfl) rfl ?_);obtain⟨u3,hu3,r4⟩:=X0 h;refine .cV [_,_] Tryz.call115 (Xe8 mcs hu3) ?_;refine .go 7 ?_;refine .cH r4 (fun c7 r8=>?_) (fun c7 r9=>?_);cases r8;refine .go 3 ?_;refine .q .ro (.load_own_a 1 [_] rfl rfl ty36 rfl) rfl (.go 11 ?_);obtain⟨u10,hu10,r11⟩:=X0 r9;refine .cW [_,_,_,_,_] Tryz.call123 (Xez mcs s3 hu10) B0 (fun v13 bo so G14 e15 B16 h12=>?_);obtain⟨a19,k20,cs21,a24,k25,cs26,rfl,rfl,rfl,o22,o27⟩:=h12;refine .gn 14 ?_;refine .cH r11 (fun c28 r29=>?_) (fun c28 r30=>?_);cases r29;refine .go 10 ?_;refine .block (.own_nil 48 1 (.pull 1 rfl [_,_] rfl (.pull 1 rfl [_,_] rfl ?_)));refine .lp (fun y m=>∃(Z0:Nat)(Z1:_)(Z2:Ac)(Z3:_)(Z4:Nat)(Z5 Z6 Z7 Z8 Z9 Z10:_),y=⟨[(15, .slice Z3 Z2.length Z4),(16, .int .i64 Z6)],[Z1],[(b2, .cells #[.int .i64 Z7, .int .i64 Z8, .int .i64 Z9] 145 (0,0)),(b1, .cells #[.int .i64 Z10] 36 (0,0))],[.s (.slice Z3 Z2.length Z4) 48 1 Z2.length Z5]⟩∧Z0=m∧HpLe G14 Z1∧Bd w0 S0 Fs Z1∧OL (Rep.sl ri) Z1 Z5 Z2∧X20 x2 u10.1 u10.2.1 Z0 Z2 Z6 Z7 Z8 Z9 Z10=some r) [(2,_),(5,_),(12,_),(13,_)] [] [_,_] ⟨big,G14,([]:List (List Int)),none,0,[],0,x1_0,x1_1,x1_2,x0_0,rfl,rfl,(HpLe.refl _),B16,(OL.nil (Rp':=(Rep.sl ri))),r30⟩ (fun y m hI hb23=>?_);obtain⟨n31,G32,v33,a34,k35,cs38,v39,v40,v41,v42,v43,rfl,rfl,e44,B45,o46,r47⟩:=hI;refine .gn 0 ?_;obtain⟨m49,rfl⟩:∃m,n31=m+1:=by cases n31 with |zero=>exact absurd (show(none:Option _)=some _ from r47) (by simp) |succ m=>exact⟨m,rfl⟩
 have r50:Xao x2 u10.1 u10.2.1 (X20 x2 u10.1 u10.2.1 m49) v33 v39 v40 v41 v42 v43=some r:=r47;clear r47;unfold Xao at r50;try dsimp only at r50
 refine .go 8 ?_;refine .cH r50 (fun c51 r52=>?_) (fun c51 r53=>?_);refine .go 2 ?_;refine .block (.go 3 ?_);obtain⟨u54,hu54,r55⟩:=X0 r52;refine .makeR (G:=G32) (Q:=ri) .ro sl48 ty3 rfl rfl rfl ((Rep.intI .i64 0) :) rfl rfl hu54 rfl rfl (fun b56 cs57 hb56 o58=>?_);refine .go 9 ?_;refine .kB (fun y=>∃(Z0:Aa)(Z1:_)(Z2:Nat)(Z3 Z4 Z5 Z6 Z7:_),y=⟨[(17, .slice Z1 Z0.length Z2)],G32::Fs,[(b2, .cells #[.int .i64 Z4, .int .i64 Z5, .int .i64 Z6] 145 (0,0)),(b1, .cells #[.int .i64 Z7] 36 (0,0))],[.s (.slice Z1 Z0.length Z2) 3 1 Z0.length Z3]⟩∧OL ri G32 Z3 Z0∧(X4p (X20 x2 u10.1 u10.2.1 m49) v39 v33) Z0 Z4 Z5 Z6 Z7=some r) [(15,_),(16,_),(2,_),(5,_),(12,_),(13,_)] [] [] [_,_,_] [1,2,3] ?_ ?_;rintro _ ⟨v59,a60,k61,cs62,v63,v65,v66,v67,rfl,o68,r69⟩;refine .gn 0 ?_;unfold X4p at r69;try dsimp only at r69
 refine .go 3 ?_;refine .freezeR 0 rfl rfl o68 [_,_,_] rfl B45 (fun G70 e71 B72 s73=>?_);refine .lit [_] [(0,_)] .ro sl37 ty48 rfl rfl rfl rfl rfl rfl (fun b74 hb74=>?_);have o75:OL (Rep.sl ri) G70 [.slice a60 v59.length k61] ([v59]:List (List Int)):=((OL.cons rfl (Rep.slI s73) (OL.nil (Rp':=(Rep.sl ri)))) :)
 refine .reval 75 (n':=([v59]:List (List Int)).length) rfl rfl ?_;obtain⟨u76,hu76,r77⟩:=X0 r69;refine .appO (Q:=(Rep.sl ri)) 0 .ro sl37 ty48 rfl rfl rfl rfl rfl rfl (OL.mono e71 o46) o75 rfl rfl rfl B72 hu76 rfl (fun a78 k79 cs80 o81=>?_);refine .go 8 ?_;exact(hb23 _ _ ⟨m49,G70,u76,a78,k79,cs80,(w64 (v39+1)),v63,v65,v66,v67,rfl,rfl,(HpLe.trans e44 e71),B72,o81,r77⟩ (Nat.lt_succ_self _)).ar;intro hb82;refine .block ?_;refine .lp (fun y m=>∃(Z0:Nat)(Z1:Ac)(Z2:Aa)(Z3:_)(Z4:Nat)(Z5:_),y=⟨[(17, .slice Z3 Z2.length Z4),(56, .int .i64 (Z0:Int))],[],[],[.s (.slice Z3 Z2.length Z4) 3 1 Z2.length Z5]⟩∧Z1.length=m∧OL ri G32 Z5 Z2∧List.drop Z0 u10.1=Z1∧X2h (X4p (X20 x2 u10.1 u10.2.1 m49) v39 v33) v39 v40 v41 v42 v43 Z1 Z0 Z2=some r) [(15,_),(16,_),(2,_),(5,_),(12,_),(13,_),(54,_),(55,_)] [_,_] [_,_,_] ⟨0,u10.1,u54,(some ⟨b56,0,none⟩),u54.length,cs57,rfl,rfl,o58,rfl,r55⟩ (fun y m hI hb83=>?_);obtain⟨i84,w85,v86,a87,k88,cs90,rfl,rfl,o91,g92,r93⟩:=hI;refine .gn 0 ?_;rcases w85 with _ | ⟨x94,xs95⟩;rw[X2h] at r93;try dsimp only at r93
 refine .go 5 ?_;refine .cond_dec rfl (fun c=>absurd c (X5 g92)) (fun _=>?_);refine .exit rfl ?_;exact(hb82 _ ⟨v86,a87,k88,cs90,v40,v41,v42,v43,rfl,o91,r93⟩).ar;have r96:X85 (X4p (X20 x2 u10.1 u10.2.1 m49) v39 v33) v39 v40 v41 v42 v43 (X2h (X4p (X20 x2 u10.1 u10.2.1 m49) v39 v33) v39 v40 v41 v42 v43 xs95 (i84+1)) x94 i84 v86=some r:=r93;clear r93;unfold X85 at r96;try dsimp only at r96
 refine .go 5 ?_;refine .cond_dec rfl (fun _=>?_) (fun c=>absurd (X9 g92) c);refine .go 2 ?_;refine .block (.go 3 ?_);obtain⟨c97,p98,h99⟩:=OL.get (OL.mono e44 o22) (X2 g92);obtain⟨a100,k101,rfl,s102⟩:=h99;refine .q .ro (.idxO 2 rfl rfl rfl (X2 g92) sl37 ty48.sz) rfl (.q .ro (.loadO 2 0 rfl (X2 g92) p98 rfl (.inl ⟨rfl,rfl⟩) ty48 rfl) rfl (.go 10 ?_));refine .cH r96 (fun c103 r104=>?_) (fun c103 r105=>?_);refine .go 5 ?_;obtain⟨u106,hu106,r107⟩:=X0 r104;obtain⟨c108,p109,h110⟩:=SlR.get s102 hu106;obtain rfl:=h110;refine .q .ro (.idxR s102 rfl rfl hu106 sl48 ty3.sz) rfl (.q .ro (.load_rp p109 mcs rfl ty3 rfl) rfl ?_);obtain⟨u111,hu111,r112⟩:=X0 r107;obtain⟨c113,p114,h116⟩:=OL.get o91 hu111;obtain rfl:=h116;refine .q .ro (.idxO 0 rfl rfl rfl hu111 sl48 ty3.sz) rfl ?_;obtain⟨u117,hu117,r118⟩:=X0 r112;refine .storeR 0 0 (Q:=ri) .ro rfl rfl o91 hu117 rfl (.inl ⟨rfl,rfl⟩) rfl ty3 p114 ((Rep.intI .i64 u106) :) rfl rfl (fun cs119 hlcs119 o120=>?_);refine .reval 17 hlcs119 rfl (.reval 65 hlcs119 rfl (.go 6 ?_));exact(hb83 _ _ ⟨(i84+1),xs95,u117,a87,k88,cs119,rfl,rfl,o120,(X3 g92),r118⟩ (Nat.lt_succ_self _)).ax ⟨rfl,(congrArg (fun z=>some (Value.int .i64 z)) (X4 (OL.len' o22) g92)),rfl,rfl,rfl,rfl,rfl,rfl,rfl,rfl,trivial⟩;refine .go 6 ?_;exact(hb83 _ _ ⟨(i84+1),xs95,v86,a87,k88,cs90,rfl,rfl,o91,(X3 g92),r105⟩ (Nat.lt_succ_self _)).ax ⟨rfl,(congrArg (fun z=>some (Value.int .i64 z)) (X4 (OL.len' o22) g92)),rfl,rfl,rfl,rfl,rfl,rfl,rfl,rfl,trivial⟩;refine .exit rfl ?_;refine .go 8 ?_;cases r53;refine .drop 2 0 [] _ rfl rfl (.pullS 2 rfl [_,_,_] rfl (.pullS 1 rfl [_,_,_] rfl (.pullS 2 rfl [_,_,_] rfl (.drop 0 1 _ [_,_] rfl rfl ?_))));refine .rW 0 [.tmp 8, .tmp 9, .tmp 10] [_,_,_] Tryz.func89 Tryz.results89 ⟨RV.tmp rfl,RV.tmp rfl,RV.tmp rfl,trivial⟩ B45 hS0 (fun G' hg=>⟨a34,k35,cs38,a24,k25,cs26,rfl,rfl,rfl,(OL.mono hg o46),(OL.mono hg (OL.mono e44 o27))⟩)
theorem Xfg{x0_0 x0_1 x0_2 x0_3 x1_0 x2 x3:Int}{x4:Ah}{r:Dl}(hG:G∈Fs)(s4:SlR (Rep.pair Rep.bool (Rep.sl ri)) G a4 k4 x4)(h:X50 (x0_0,x0_1,x0_2,x0_3) x1_0 x2 x3 x4=some r):RetW Tryz.prog 45 #[.agg #[.int .i64 x0_0, .int .i64 x0_1, .int .i64 x0_2, .int .i64 x0_3], .agg #[.int .i64 x1_0], .int .i64 x2, .int .i64 x3, .slice a4 x4.length k4] Fs [] [] (fun v bo so G=>∃a0:Option Addr,∃k0:Nat,∃a1:Option Addr,∃k1:Nat,v= .tuple #[.agg #[.slice a0 r.1.1.length k0, .slice a1 r.1.2.length k1], .int .i64 r.2]∧bo=[]∧so=[]∧SlR ri G a0 k0 r.1.1∧SlR ri G a1 k1 r.1.2):=by
 unfold X50 at h;try dsimp only at h
 refine RetW.st [(0,_),(1,_),(2,_),(3,_),(4,_)] Tryz.func45 Tryz.ntmps45 hG fun w0 S0 hS0 B0=>?_;refine .go 2 ?_;refine .box [_,_,_,_] .ro rfl rfl rfl (fun b1 hb1=>?_);refine .box [_] .ro rfl rfl rfl (fun b2 hb2=>?_);refine .alloc .ro ty110 rfl (fun b3 hb3=>?_);refine .go 5 ?_;refine .q .ro (.load_own_a 2 [_,_,_,_] rfl rfl ty44 rfl) rfl (.q .ro (.load_own_a 1 [_] rfl rfl ty36 rfl) rfl ?_);obtain⟨u4,hu4,r5⟩:=X0 h;refine .cV [_,_] Tryz.call37 (X6i mcs hu4) ?_;refine .go 2 ?_;refine .cB r5 (fun c8 r9=>?_) (fun c8 r10=>?_);cases r9;refine .go 7 ?_;refine .cH r10 (fun c11 r12=>?_) (fun c11 r13=>?_);cases r12;refine .go 10 ?_;refine .cH r13 (fun c14 r15=>?_) (fun c14 r16=>?_);cases r15;refine .go 7 ?_;refine .block (.go 5 ?_);refine .cH r16 (fun c17 r18=>?_) (fun c17 r33=>?_);refine .go 2 ?_;refine .q .ro (.load_own_a 1 [_] rfl rfl ty36 rfl) rfl (.go 2 ?_);obtain⟨u19,hu19,r20⟩:=X0 r18;refine .cW [_,_,_] Tryz.call87 (Xi0 mcs s4 hu19) B0 (fun v22 bo so G23 e24 B25 h21=>?_);obtain⟨a27,k28,a30,k31,rfl,rfl,rfl,s29,s32⟩:=h21;refine .gn 2 ?_;refine .store 0 [_,_] [_,_,_] .ro rfl rfl rfl ty110 rfl rfl rfl rfl (.go 2 ?_);cases r20;refine .rW 3 [.cell 10 110, .tmp 11] [_,_] Tryz.func45 Tryz.results45 ⟨RV.cell_a 0 [_,_] rfl rfl ty110 rfl,RV.tmp rfl,trivial⟩ B25 hS0 (fun G' hg=>⟨a27,k28,a30,k31,rfl,rfl,rfl,(SlR.mono hg s29),(SlR.mono hg s32)⟩);refine .go 5 ?_;refine .cH r33 (fun c34 r35=>?_) (fun c34 r54=>?_);refine .go 1 ?_;refine .drawL (.q 0 (.q 1 (.q 3 (.q 4 (.e 2 1 (.e 5 1 (.q 6 (.q 7 (.e 8 1 (.q 9 .nil)))))))))) [_,_] (by kernel_rfl) (by kernel_rfl) (X1 [1,2] rfl) (.dq (.load_own_a 0 [_] rfl rfl ty36 rfl) rfl (.dq (.load_own_a 1 [_,_,_,_] rfl rfl ty44 rfl) rfl (.go 2 ?_)));obtain⟨u36,hu36,r37⟩:=X0 r35;refine .cVd [_] Tryz.call77 (Xex mcs hu36) ?_;refine .clsL (HpLe.refl _) (X1 [1,2] rfl) ?_;obtain⟨u40,hu40,r41⟩:=X0 r37;refine .callW (b1:=[]) (b2:=[_,_,_]) (s1:=[]) [_,_,_,_] [] .d1 rfl rfl Tryz.call88 rfl rfl (Xi5 mcs s4 hu40) rfl B0 (fun v43 bo so G44 e45 B46 h42=>?_);obtain⟨a48,k49,a51,k52,rfl,rfl,rfl,s50,s53⟩:=h42;refine .gn 0 ?_;refine .clsL e45 (X1 [1,2] rfl) (.go 2 ?_);refine .store 0 [_,_] [_,_,_] .d1 rfl rfl rfl ty110 rfl rfl rfl rfl (.clsL e45 (X1 [1,2] rfl) (.go 2 ?_));cases r41;refine .rW 3 [.cell 10 110, .tmp 11] [_,_] Tryz.func45 Tryz.results45 ⟨RV.cell_a 0 [_,_] rfl rfl ty110 rfl,RV.tmp rfl,trivial⟩ B46 hS0 (fun G' hg=>⟨a48,k49,a51,k52,rfl,rfl,rfl,(SlR.mono hg s50),(SlR.mono hg s53)⟩);refine .go 3 ?_;refine .drawL (.q 0 (.q 1 (.q 3 (.q 4 (.e 2 1 (.e 5 1 (.q 6 (.q 7 (.q 8 (.q 9 (.q 10 (.q 11 (.q 12 .nil))))))))))))) [_,_,_] (by kernel_rfl) (by kernel_rfl) (X1 [0,1,2] rfl) (.dq (.load_own_a 1 [_] rfl rfl ty36 rfl) rfl (.dq (.load_own_a 2 [_,_,_,_] rfl rfl ty44 rfl) rfl (.go 2 ?_)))
 obtain⟨u55,hu55,r56⟩:=X0 r54;refine .cVd [_] Tryz.call79 (Xar mcs hu55) ?_;refine .clsL (HpLe.refl _) (X1 [0,1,2] rfl) ?_;obtain⟨u59,hu59,r60⟩:=X0 r56;refine .callW (b1:=[]) (b2:=[_,_,_]) (s1:=[]) [_,_,_,_] [] .d1 rfl rfl Tryz.call89 rfl rfl (Xi6 mcs s4 hu59) rfl B0 (fun v62 bo so G63 e64 B65 h61=>?_);obtain⟨a68,k69,cs70,a73,k74,cs75,rfl,rfl,rfl,o71,o76⟩:=h61;refine .gn 0 ?_;refine .clsL e64 (X1 [0,1,2] rfl) (.go 14 ?_);refine .cH r60 (fun c77 r78=>?_) (fun c77 r79=>?_);cases r78;refine .go 7 ?_;obtain⟨u80,hu80,r81⟩:=X0 r79;refine .q .ro (.remt rfl rfl (Xj hu80)) rfl ?_;obtain⟨u82,hu82,r83⟩:=X0 r81;obtain⟨c84,p85,h86⟩:=OL.get o71 hu82;obtain⟨a87,k88,rfl,s89⟩:=h86;refine .q .ro (.idxO 0 rfl rfl rfl hu82 sl37 ty48.sz) rfl (.q .ro (.loadO 0 0 rfl hu82 p85 rfl (.inl ⟨rfl,rfl⟩) ty48 rfl) rfl (.go 1 ?_));refine .q .ro (.build [_,_] [(0,_),(1,_)] ty110 pl110 rfl rfl) rfl (.store 0 [_,_] [_,_,_] .ro rfl rfl rfl ty110 rfl rfl rfl rfl (.go 2 ?_));refine .freezeR 1 rfl rfl o76 [_] rfl B65 (fun G90 e91 B92 s93=>?_);cases r83;refine .drop 0 1 _ [] rfl rfl ?_;refine .rW 3 [.cell 10 110, .tmp 11] [_,_] Tryz.func45 Tryz.results45 ⟨RV.cell_a 0 [_,_] rfl rfl ty110 rfl,RV.tmp rfl,trivial⟩ B92 hS0 (fun G' hg=>⟨a87,k88,a73,k74,rfl,rfl,rfl,(SlR.mono hg (SlR.mono e91 s89)),(SlR.mono hg s93)⟩)
theorem Xi7{x0_0 x0_1 x0_2 x0_3 x1_0 x2:Int}{x3:Aa}{x4:Db}{r:As×Int}(hG:G∈Fs)(s3:SlR ri G a3 k3 x3)(s4:SlR (Rep.sl (Rep.pair Rep.bool (Rep.sl ri))) G a4 k4 x4)(h:Xbx (x0_0,x0_1,x0_2,x0_3) x1_0 x2 x3 x4=some r):RetW Tryz.prog 17 #[.agg #[.int .i64 x0_0, .int .i64 x0_1, .int .i64 x0_2, .int .i64 x0_3], .agg #[.int .i64 x1_0], .int .i64 x2, .slice a3 x3.length k3, .slice a4 x4.length k4] Fs [] [] (fun v bo so G=>∃(oa0:Ar)(ok0:Nat)(oc0:Au),v= .tuple #[.slice oa0 r.1.length ok0, .int .i64 r.2]∧bo=[]∧so=[.s (.slice oa0 r.1.length ok0) 80 3 r.1.length oc0]∧OL (Rep.pair ri (Rep.pair (Rep.sl ri) (Rep.sl ri))) G oc0 r.1):=by
 unfold Xbx at h;try dsimp only at h
 refine RetW.st [(0,_),(1,_),(2,_),(3,_),(4,_)] Tryz.func17 Tryz.ntmps17 hG fun w0 S0 hS0 B0=>?_;refine .go 2 ?_;refine .box [_,_,_,_] .ro rfl rfl rfl (fun b1 hb1=>?_);refine .box [_] .ro rfl rfl rfl (fun b2 hb2=>?_);refine .go 6 ?_;refine .q .ro (.load_own_a 1 [_,_,_,_] rfl rfl ty44 rfl) rfl (.q .ro (.load_own_a 0 [_] rfl rfl ty36 rfl) rfl ?_);obtain⟨u3,hu3,r4⟩:=X0 h;refine .cV [_,_] Tryz.call37 (X6i mcs hu3) ?_;refine .go 2 ?_;refine .cB r4 (fun c7 r8=>?_) (fun c7 r9=>?_);cases r8;refine .go 8 ?_;refine .kR (fun y=>y=⟨[(29, .bool (decide (((x3.length:Int)<1)∨(16<(x3.length:Int)))))],G::Fs,[],[]⟩) [(2,_),(3,_),(4,_),(5,_),(6,_)] [_,_] [0,1] [] [] 4 ?_ ?_;rintro _ rfl;refine .gn 1 ?_;refine .cH r9 (fun c14 r15=>?_) (fun c14 r16=>?_);cases r15;refine .go 6 ?_;refine .kB (fun y=>∃(Z0 Z1 Z2 Z3 Z4:_),y=⟨[],G::Fs,[(b2, .cells #[.int .i64 Z0] 36 (0,0)),(b1, .cells #[.int .i64 Z1, .int .i64 Z2, .int .i64 Z3, .int .i64 Z4] 44 (0,0))],[]⟩∧(X3f x2 x3 x4) Z0 Z1 Z2 Z3 Z4=some r) [(2,_),(3,_),(4,_),(5,_),(6,_)] [] [] [] [] ?_ ?_;rintro _ ⟨v61,v62,v63,v64,v65,rfl,r67⟩;refine .gn 0 ?_;unfold X3f at r67;try dsimp only at r67
 refine .go 9 ?_;refine .cH r67 (fun c71 r72=>?_) (fun c71 r73=>?_);cases r72;refine .go 10 ?_;refine .block (.own_nil 80 3 ?_);refine .lp (fun y m=>∃(Z0:Nat)(Z1:_)(Z2:As)(Z3:_)(Z4:Nat)(Z5 Z6:_),y=⟨[(13, .slice Z3 Z2.length Z4),(14, .int .i64 Z6)],[Z1],[],[.s (.slice Z3 Z2.length Z4) 80 3 Z2.length Z5]⟩∧Z0=m∧HpLe G Z1∧Bd w0 S0 Fs Z1∧OL (Rep.pair ri (Rep.pair (Rep.sl ri) (Rep.sl ri))) Z1 Z5 Z2∧X2i x2 x3 x4 v61 v62 v63 v64 v65 Z0 Z2 Z6=some r) [(2,_),(3,_),(4,_),(5,_),(6,_)] [_,_] [] ⟨big,G,([]:List (Int×(List Int)×(List Int))),none,0,[],0,rfl,rfl,(HpLe.refl _),B0,(OL.nil (Rp':=(Rep.pair ri (Rep.pair (Rep.sl ri) (Rep.sl ri))))),r73⟩ (fun y m hI hb12=>?_);obtain⟨n13,G18,v19,a20,k21,cs22,v25,rfl,rfl,e26,B27,o28,r29⟩:=hI;refine .gn 0 ?_;obtain⟨m30,rfl⟩:∃m,n13=m+1:=by cases n13 with |zero=>exact absurd (show(none:Option _)=some _ from r29) (by simp) |succ m=>exact⟨m,rfl⟩
 have r31:X86 x2 x3 x4 v61 v62 v63 v64 v65 (X2i x2 x3 x4 v61 v62 v63 v64 v65 m30) v19 v25=some r:=r29;clear r29;unfold X86 at r31;try dsimp only at r31
 refine .go 8 ?_;refine .cH r31 (fun c32 r33=>?_) (fun c32 r34=>?_);refine .go 2 ?_;refine .block (.go 1 ?_);refine .kG (fun y=>∃(Z0:_)(Z1:Nat)(Z2:Aa)(Z3:_)(Z4:Nat)(Z5:Aa)(Z6:_)(Z7:Nat)(Z8:_),y=⟨[(15, .pointer (some ⟨Z1,0,none⟩)),(16, .int .i64 Z8)],Z0::Fs,[(Z1, .cells #[.slice Z3 Z2.length Z4, .slice Z6 Z5.length Z7] 110 (0,0))],[]⟩∧HpLe G18 Z0∧Bd w0 S0 Fs Z0∧SlR ri Z0 Z3 Z4 Z2∧SlR ri Z0 Z6 Z7 Z5∧(Xaq (X2i x2 x3 x4 v61 v62 v63 v64 v65 m30) v25 x3 v19) Z2 Z5 Z8=some r) [(13,_),(14,_),(2,_),(3,_),(4,_),(5,_),(6,_)] [_,_] [0,1] [_] [0] ?_ ?_;rintro _ ⟨G35,b38,v39,a40,k41,v42,a43,k46,v47,rfl,e49,B50,s51,s52,r53⟩;refine .gn 0 ?_;unfold Xaq at r53;try dsimp only at r53
 refine .go 7 ?_;refine .q .ro (.build [_,_,_] [(0,_),(1,_),(2,_)] ty80 pl80 rfl rfl) rfl ?_;refine .alloc .ro ty80 rfl (fun b54 hb54=>?_);refine .store 0 [_,_,_] [_,_,_,_] .ro rfl rfl rfl ty80 rfl rfl rfl rfl (.go 6 ?_);obtain⟨u55,hu55,r56⟩:=X0 r53;obtain⟨c57,p58,h66⟩:=SlR.get (SlR.mono (HpLe.trans e26 e49) s3) hu55;obtain rfl:=h66;refine .q .ro (.idxR (SlR.mono (HpLe.trans e26 e49) s3) rfl rfl hu55 sl48 ty3.sz) rfl (.q .ro (.load_rp p58 mcs rfl ty3 rfl) rfl (.go 2 ?_));refine .cutI (β:=Unit) (fun y=>[]) [(13,_),(14,_),(2,_),(3,_),(4,_),(5,_),(6,_),(17,_)] (fun y=>G35::Fs) (fun y=>[]) [_,_,_,_] (fun y=>[]) [_] (fun y=>(Xap (X2i x2 x3 x4 v61 v62 v63 v64 v65 m30) v25 v47 v39 v42 v19)=some r) ⟨rfl,rfl,rfl,rfl,rfl,rfl,rfl,rfl,trivial⟩ [0,1,2,3] rfl [0] rfl ?_ ?_;intro _ hI;have r68:=hI;clear hI
 refine .gn 0 ?_;unfold Xap at r68;try dsimp only at r68
 refine .go 2 ?_;refine .q .ro (.load_own_a 0 [_,_,_] rfl rfl ty80 rfl) rfl ?_;refine .lit [_,_,_] [(0,_)] .ro sl63 ty80 rfl rfl rfl rfl rfl rfl (fun b69 hb69=>?_);have o70:OL (Rep.pair ri (Rep.pair (Rep.sl ri) (Rep.sl ri))) G35 [.int .i64 v47, .slice a40 v39.length k41, .slice a43 v42.length k46] ([(v47,v39,v42)]:List (Int×(List Int)×(List Int))):=((OL.cons rfl (Rep.pairI (Rep.intI .i64 v47) (Rep.pairI (Rep.slI s51) (Rep.slI s52))) (OL.nil (Rp':=(Rep.pair ri (Rep.pair (Rep.sl ri) (Rep.sl ri)))))) :)
 refine .reval 82 (n':=([(v47,v39,v42)]:List (Int×(List Int)×(List Int))).length) rfl rfl ?_;obtain⟨u74,hu74,r75⟩:=X0 r68;refine .appO (Q:=(Rep.pair ri (Rep.pair (Rep.sl ri) (Rep.sl ri)))) 0 .ro sl63 ty80 rfl rfl rfl rfl rfl rfl (OL.mono e49 o28) o70 rfl rfl rfl B50 hu74 rfl (fun a76 k77 cs78 o79=>?_);refine .go 8 ?_;refine .drop 2 0 [_,_] _ rfl rfl ?_;exact(hb12 _ _ ⟨m30,G35,u74,a76,k77,cs78,(w64 (v25+1)),rfl,rfl,(HpLe.trans e26 e49),B50,o79,r75⟩ (Nat.lt_succ_self _)).ar;intro hb81;refine .cH r56 (fun c82 r83=>?_) (fun c82 r84=>?_);cases r83;refine .go 1 ?_;exact .arr (hb81 () r84) ⟨rfl,rfl,rfl,rfl,rfl,rfl,rfl,rfl,trivial⟩;intro hb85;refine .drawL (.q 0 (.q 1 (.q 2 (.q 3 (.q 4 (.q 5 (.q 6 (.q 7 (.q 8 (.q 9 (.q 10 (.q 11 (.alt (.e 12 1 (.q 13 (.q 14 (.q 15 (.e 16 1 (.e 17 1 (.q 18 .nil))))))) (.e 16 1 (.e 12 1 (.q 13 (.q 14 (.q 15 (.e 17 1 (.q 18 .nil)))))))))))))))))))) [_,_] (by kernel_rfl) (by kernel_rfl) (X1 [0,1] rfl) ?_;obtain⟨u86,hu86,r87⟩:=X0 r33;obtain⟨u88,hu88,r89⟩:=X0 r87;obtain⟨u90,hu90,r91⟩:=X0 r89;refine .dq (.load_own_a 1 [_,_,_,_] rfl rfl ty44 rfl) rfl (.dq (.load_own_a 0 [_] rfl rfl ty36 rfl) rfl (.go 3 ?_));obtain⟨c92,p93,h94⟩:=SlR.get (SlR.mono e26 s3) hu86;obtain rfl:=h94;refine .dq (.idxR (SlR.mono e26 s3) rfl rfl hu86 sl48 ty3.sz) rfl (.dq (.load_rp p93 mcs rfl ty3 rfl) rfl (.dq (.max2 rfl rfl) rfl (.go 2 ?_)));obtain⟨c95,p96,h97⟩:=SlR.get (SlR.mono e26 s4) hu88;obtain⟨a98,k99,rfl,s100⟩:=h97;refine .dq (.idxR (SlR.mono e26 s4) rfl rfl hu88 sl59 ty60.sz) rfl (.dq (.load_rp p96 mcs rfl ty60 rfl) rfl ?_);refine .alt ?_ ?_;refine .callW (b1:=[]) (b2:=[_,_]) (s1:=[]) [_,_,_,_,_] [] .d1 rfl rfl Tryz.call45 rfl rfl (Xfg mcs s100 hu90) rfl B27 (fun v101 bo so G102 e103 B104 h105=>?_);obtain⟨a106,k107,a108,k109,rfl,rfl,rfl,s111,s112⟩:=h105;refine .gn 0 ?_;refine .clsL e103 (X1 [0,1] rfl) (.go 3 ?_);refine .alloc .d1 ty110 rfl (fun b113 hb113=>?_);refine .clsL e103 (X1 [1,2] rfl) (.store 0 [_,_] [_,_,_] .d1 rfl rfl rfl ty110 rfl rfl rfl rfl (.clsL e103 (X1 [1,2] rfl) (.go 2 ?_)));exact(hb85 _ ⟨G102,b113,u90.1.1,a106,k107,u90.1.2,a108,k109,u90.2,rfl,e103,B104,s111,s112,r91⟩).ar;refine .alloc .d1 ty110 rfl (fun b114 hb114=>?_);refine .clsL (HpLe.refl _) (X1 [1,2] rfl) ?_;refine .callW (b1:=[]) (b2:=[_,_,_]) (s1:=[]) [_,_,_,_,_] [] .d1 rfl rfl Tryz.call45 rfl rfl (Xfg mcs s100 hu90) rfl B27 (fun v115 bo so G116 e117 B118 h119=>?_);obtain⟨a120,k121,a122,k123,rfl,rfl,rfl,s124,s125⟩:=h119;refine .gn 0 ?_;refine .clsL e117 (X1 [1,2] rfl) (.go 3 ?_);refine .store 0 [_,_] [_,_,_] .d1 rfl rfl rfl ty110 rfl rfl rfl rfl (.clsL e117 (X1 [1,2] rfl) (.go 2 ?_));exact(hb85 _ ⟨G116,b114,u90.1.1,a120,k121,u90.1.2,a122,k123,u90.2,rfl,e117,B118,s124,s125,r91⟩).ar;refine .exit rfl ?_
 refine .go 6 ?_;cases r34;refine .drop 2 0 [] _ rfl rfl ?_;refine .rW 0 [.tmp 10, .tmp 11] [_,_] Tryz.func17 Tryz.results17 ⟨RV.tmp rfl,RV.tmp rfl,trivial⟩ B27 hS0 (fun G' hg=>⟨a20,k21,cs22,rfl,rfl,rfl,(OL.mono hg o28)⟩);intro hb126;refine .block ?_;refine .lp (fun y m=>∃(Z0:Nat)(Z1:_),y=⟨[(12, .int .i64 Z1)],[],[],[]⟩∧Z0=m∧X4q (X3f x2 x3 x4) x3 x1_0 x0_0 x0_1 x0_2 x0_3 Z0 Z1=some r) [(2,_),(3,_),(4,_),(5,_),(6,_)] [_,_] [] ⟨big,0,rfl,rfl,r16⟩ (fun y m hI hb127=>?_);obtain⟨n128,v129,rfl,rfl,r130⟩:=hI;refine .gn 0 ?_;obtain⟨m131,rfl⟩:∃m,n128=m+1:=by cases n128 with |zero=>exact absurd (show(none:Option _)=some _ from r130) (by simp) |succ m=>exact⟨m,rfl⟩
 have r132:X87 (X3f x2 x3 x4) x3 x1_0 x0_0 x0_1 x0_2 x0_3 (X4q (X3f x2 x3 x4) x3 x1_0 x0_0 x0_1 x0_2 x0_3 m131) v129=some r:=r130;clear r130;unfold X87 at r132;try dsimp only at r132
 refine .go 8 ?_;refine .cH r132 (fun c133 r134=>?_) (fun c133 r135=>?_);refine .go 2 ?_;refine .block (.go 4 ?_);obtain⟨u136,hu136,r137⟩:=X0 r134;obtain⟨c138,p139,h140⟩:=SlR.get s3 hu136;obtain rfl:=h140;refine .q .ro (.idxR s3 rfl rfl hu136 sl48 ty3.sz) rfl (.q .ro (.load_rp p139 mcs rfl ty3 rfl) rfl (.go 2 ?_));refine .cH r137 (fun c141 r142=>?_) (fun c141 r143=>?_);cases r142;refine .go 7 ?_;exact(hb127 _ _ ⟨m131,(w64 (v129+1)),rfl,rfl,r143⟩ (Nat.lt_succ_self _)).ar;refine .exit rfl ?_;exact(hb126 _ ⟨x1_0,x0_0,x0_1,x0_2,x0_3,rfl,r135⟩).ar;intro hb11;refine .split 25 rfl (fun c10=>?_) (fun c10=>?_);refine .go 4 ?_;exact(hb11 _ rfl).ax ⟨Xq c10,rfl,rfl,rfl,rfl,rfl,trivial⟩;refine .go 7 ?_;exact(hb11 _ rfl).ax ⟨Xr c10,rfl,rfl,rfl,rfl,rfl,trivial⟩
theorem Xfv{x0:Int}{r:Bool}(hG:G∈Fs)(h:X8i x0=some r):RetS Tryz.prog 91 #[.int .i64 x0] Fs [] [] (rv (.bool r)):=by
 unfold X8i at h;try dsimp only at h
 refine RetS.st [(0,_)] Tryz.func91 Tryz.ntmps91 hG fun w0 S0 hS0 B0=>?_;refine .go 9 ?_;refine .kR (fun y=>y=⟨[(8, .bool (decide ((x0<0)∨(256≤x0))))],G::Fs,[],[]⟩) [(2,_)] [] [] [] [] 3 ?_ ?_;rintro _ rfl;refine .gn 2 ?_;cases h;refine .rS [.tmp 2] [_] Tryz.func91 Tryz.results91 ⟨rfl,rfl,rfl⟩;intro hb2;refine .split 5 rfl (fun c1=>?_) (fun c1=>?_);refine .go 3 ?_;exact(hb2 _ rfl).ax ⟨Xq c1,rfl,trivial⟩;refine .go 5 ?_;exact(hb2 _ rfl).ax ⟨Xr c1,rfl,trivial⟩
theorem Xgm{x0:Aa}{r:Bh}(hG:G∈Fs)(s0:SlR ri G a0 k0 x0)(h:X79 x0=some r):RetS Tryz.prog 46 #[.slice a0 x0.length k0] Fs [] [] (rv (.tuple #[.string r.1, .bool r.2])):=by
 unfold X79 at h;try dsimp only at h
 refine RetS.st [(0,_)] Tryz.func46 Tryz.ntmps46 hG fun w0 S0 hS0 B0=>?_;refine .go 9 ?_;obtain⟨u1,hu1,r2⟩:=X0 h;refine .cV [_,_] Tryz.call90 (X76 mcs s0 Tryz.call91 (fun Fs' G1 hle hm y0 r hr=>Xfv (G:=G1) hm hr) hu1) ?_;refine .go 1 ?_;refine .cB r2 (fun c5 r6=>?_) (fun c5 r7=>?_);cases r6;refine .go 5 ?_;obtain⟨u8,hu8,r9⟩:=X0 r7;refine .makeR (G:=G) (Q:=(Rep.int .u8)) .ro sl22 ty5 rfl rfl rfl ((Rep.intI .u8 0) :) rfl rfl hu8 rfl rfl (fun b10 cs11 hb10 o12=>?_);refine .go 9 ?_;refine .kB (fun y=>∃(Z0:Aa)(Z1:_)(Z2:Nat)(Z3:_),y=⟨[(4, .slice Z1 Z0.length Z2)],G::Fs,[],[.s (.slice Z1 Z0.length Z2) 5 1 Z0.length Z3]⟩∧OL (Rep.int .u8) G Z3 Z0∧X26 Z0=some r) [] [] [] [] [] ?_ ?_;rintro _ ⟨v64,a65,k66,cs67,rfl,o68,r71⟩;refine .gn 0 ?_;unfold X26 at r71;try dsimp only at r71
 refine .go 3 ?_;refine .freezeR 0 rfl rfl o68 [] rfl B0 (fun G72 e73 B74 s75=>?_);refine .q .ro (.b2s s75 mcs rfl Tryz.underlying22 Tryz.underlying5 Tryz.underlying9) rfl (.go 3 ?_);cases r71;refine .rS [.tmp 2, .tmp 3] [_,_] Tryz.func46 Tryz.results46 ⟨rfl,rfl,rfl⟩;intro hb77;refine .block ?_;refine .lp (fun y m=>∃(Z0:Nat)(Z1 Z2:Aa)(Z3:_)(Z4:Nat)(Z5:_),y=⟨[(4, .slice Z3 Z2.length Z4),(14, .int .i64 (Z0:Int))],[],[],[.s (.slice Z3 Z2.length Z4) 5 1 Z2.length Z5]⟩∧Z1.length=m∧OL (Rep.int .u8) G Z5 Z2∧List.drop Z0 x0=Z1∧X27 X26 Z1 Z0 Z2=some r) [(12,_),(13,_)] [] [] ⟨0,x0,u8,(some ⟨b10,0,none⟩),u8.length,cs11,rfl,rfl,o12,rfl,r9⟩ (fun y m hI hb13=>?_);obtain⟨i99,w14,v15,a16,k17,cs18,rfl,rfl,o19,g20,r21⟩:=hI;refine .gn 0 ?_;rcases w14 with _ | ⟨x23,xs24⟩;rw[X27] at r21;try dsimp only at r21
 refine .go 5 ?_;refine .cond_dec rfl (fun c=>absurd c (X5 g20)) (fun _=>?_);refine .exit rfl ?_;exact(hb77 _ ⟨v15,a16,k17,cs18,rfl,o19,r21⟩).ar;have r25:X8j X26 (X27 X26 xs24 (i99+1)) x23 i99 v15=some r:=r21;clear r21;unfold X8j at r25;try dsimp only at r25
 refine .go 5 ?_;refine .cond_dec rfl (fun _=>?_) (fun c=>absurd (X9 g20) c);refine .go 2 ?_;refine .block (.go 3 ?_);obtain⟨c26,p27,h28⟩:=SlR.get s0 (X2 g20);obtain rfl:=h28;refine .q .ro (.idxR s0 rfl rfl (X2 g20) sl48 ty3.sz) rfl (.q .ro (.load_rp p27 mcs rfl ty3 rfl) rfl (.go 7 ?_));refine .q .ro (.convw Tryz.underlying3 Tryz.underlying5 rfl) rfl ?_;obtain⟨u29,hu29,r30⟩:=X0 r25;obtain⟨c31,p32,h33⟩:=OL.get o19 hu29;obtain rfl:=h33;refine .q .ro (.idxO 0 rfl rfl rfl hu29 sl22 ty5.sz) rfl ?_;obtain⟨u34,hu34,r35⟩:=X0 r30;refine .storeR 0 0 (Q:=(Rep.int .u8)) .ro rfl rfl o19 hu34 rfl (.inl ⟨rfl,rfl⟩) rfl ty5 p32 ((Rep.intI .u8 (wu8 x23)) :) rfl rfl (fun cs36 hlcs36 o37=>?_);refine .reval 4 hlcs36 rfl (.reval 19 hlcs36 rfl (.go 6 ?_));exact(hb13 _ _ ⟨(i99+1),xs24,u34,a16,k17,cs36,rfl,rfl,o37,(X3 g20),r35⟩ (Nat.lt_succ_self _)).ax ⟨rfl,(congrArg (fun z=>some (Value.int .i64 z)) (X4 (SlR.len s0) g20)),rfl,rfl,trivial⟩
theorem Xgn{x0:Int}{x1:ByteArray}{r:Ab×Int}(hG:G∈Fs)(h:X7a x0 x1=some r):RetW Tryz.prog 47 #[.int .i64 x0, .string x1] Fs [] [] (fun v bo so G=>∃a0:Option Addr,∃k0:Nat,v= .tuple #[.slice a0 r.1.length k0, .int .i64 r.2]∧bo=[]∧so=[]∧SlR (Rep.pair Rep.str ri) G a0 k0 r.1):=by
 unfold X7a at h;try dsimp only at h
 refine RetW.st [(0,_),(1,_)] Tryz.func47 Tryz.ntmps47 hG fun w0 S0 hS0 B0=>?_;refine .go 9 ?_;obtain⟨u1,hu1,r2⟩:=X0 h;refine .cV [_] Tryz.call68 (Xb5 mcs hu1) ?_;refine .go 2 ?_;refine .cB r2 (fun c5 r6=>?_) (fun c5 r7=>?_);cases r6;refine .go 9 ?_;refine .q .ro (.len_s rfl Tryz.underlying9) rfl (.go 5 ?_);refine .cH r7 (fun c8 r9=>?_) (fun c8 r10=>?_);cases r9;refine .go 11 ?_;refine .kB (fun y=>∃(Z0:Ab)(Z1:_)(Z2:Nat)(Z3:_),y=⟨[(7, .slice Z1 Z0.length Z2)],G::Fs,[],[.s (.slice Z1 Z0.length Z2) 69 2 Z0.length Z3]⟩∧OL (Rep.pair Rep.str ri) G Z3 Z0∧(X1d x0 x1) Z0=some r) [(0,_),(1,_)] [] [] [] [] ?_ ?_;rintro _ ⟨v11,a12,k13,cs14,rfl,o15,r16⟩;refine .gn 0 ?_;unfold X1d at r16;try dsimp only at r16
 refine .go 5 ?_;refine .freezeR 0 rfl rfl o15 [] rfl B0 (fun G17 e18 B19 s20=>?_);obtain⟨u21,hu21,r22⟩:=X0 r16;refine .cV [_,_] Tryz.call34 (Xee mcs s20 hu21) ?_;refine .go 11 ?_;refine .kR (fun y=>y=⟨[(80, .bool (decide ((u21.2≠0)∨(u21.1≠x1))))],G17::Fs,[],[]⟩) [(7,_)] [] [] [] [] 4 ?_ ?_;rintro _ rfl;refine .gn 1 ?_;refine .cH r22 (fun c23 r24=>?_) (fun c23 r25=>?_);cases r24;refine .go 7 ?_;cases r25;refine .rW 0 [.tmp 4, .tmp 5] [_,_] Tryz.func47 Tryz.results47 ⟨RV.tmp rfl,RV.tmp rfl,trivial⟩ B19 hS0 (fun G' hg=>⟨a12,k13,rfl,rfl,rfl,(SlR.mono hg s20)⟩);intro hb26;refine .split 76 rfl (fun c27=>?_) (fun c27=>?_);refine .go 4 ?_;exact(hb26 _ rfl).ax ⟨Xq c27,rfl,trivial⟩;refine .go 5 ?_;refine .q .ro (.neq_s rfl rfl) rfl (.go 1 ?_);exact(hb26 _ rfl).ax ⟨Xr c27,rfl,trivial⟩;intro hb28;refine .block (.own_nil 69 2 ?_);refine .lp (fun y m=>∃(Z0:Nat)(Z1:Ab)(Z2:_)(Z3:Nat)(Z4 Z5:_),y=⟨[(7, .slice Z2 Z1.length Z3),(25, .int .i64 Z5)],[],[],[.s (.slice Z2 Z1.length Z3) 69 2 Z1.length Z4]⟩∧Z0=m∧OL (Rep.pair Rep.str ri) G Z4 Z1∧X28 (X1d x0 x1) x0 x1 Z0 Z1 Z5=some r) [(0,_),(1,_),(6,_),(24,_)] [] [] ⟨big,([]:List (ByteArray×Int)),none,0,[],0,rfl,rfl,(OL.nil (Rp':=(Rep.pair Rep.str ri))),r10⟩ (fun y m hI hb29=>?_);obtain⟨n30,v31,a33,k35,cs36,v37,rfl,rfl,o38,r39⟩:=hI;refine .gn 0 ?_;obtain⟨m40,rfl⟩:∃m,n30=m+1:=by cases n30 with |zero=>exact absurd (show(none:Option _)=some _ from r39) (by simp) |succ m=>exact⟨m,rfl⟩
 have r41:Xb4 (X1d x0 x1) x0 x1 (X28 (X1d x0 x1) x0 x1 m40) v31 v37=some r:=r39;clear r39;unfold Xb4 at r41;try dsimp only at r41
 refine .go 5 ?_;refine .cH r41 (fun c42 r43=>?_) (fun c42 r44=>?_);refine .go 2 ?_;refine .block (.go 15 ?_);obtain⟨u45,hu45,r46⟩:=X0 r43;refine .q .ro (.ssub rfl Tryz.underlying9 hu45 (fun h=> .yes' rfl h) (fun h=> .yes' rfl h)) rfl (.go 5 ?_);obtain⟨u48,hu48,r49⟩:=X0 r46;refine .q .ro (.sidx rfl rfl Tryz.underlying9 hu48) rfl (.q .ro (.convw Tryz.underlying5 Tryz.underlying3 rfl) rfl (.go 8 ?_));refine .cH r49 (fun c50 r51=>?_) (fun c50 r52=>?_);refine .exit rfl ?_;exact(hb28 _ ⟨v31,a33,k35,cs36,rfl,o38,r51⟩).ar;refine .go 7 ?_;refine .cH r52 (fun c53 r54=>?_) (fun c53 r55=>?_);cases r54;refine .go 6 ?_;obtain⟨u56,hu56,r57⟩:=X0 r55;refine .q .ro (.ssub rfl Tryz.underlying9 hu56 (fun h=> .yes' rfl h) (fun h=> .yes' rfl h)) rfl (.q .ro (.build [_,_] [(0,_)] ty69 pl69 rfl rfl) rfl ?_);refine .alloc .ro ty69 rfl (fun b58 hb58=>?_);refine .store 0 [_,_] [_] .ro rfl rfl rfl ty69 rfl rfl rfl rfl (.go 6 ?_);refine .kB (fun y=>∃(Z0:ByteArray)(Z1:_),y=⟨[],G::Fs,[(b58, .cells #[.string Z0, .int .i64 Z1] 69 (0,0))],[]⟩∧(X4f (X28 (X1d x0 x1) x0 x1 m40) v37 v31) Z0 Z1=some r) [(7,_),(25,_),(0,_),(1,_),(6,_),(24,_),(11,_)] [] [] [_] [0] ?_ ?_;rintro _ ⟨v59,v60,rfl,r61⟩;refine .gn 0 ?_;unfold X4f at r61;try dsimp only at r61
 refine .go 2 ?_;refine .q .ro (.load_own_a 0 [_,_] rfl rfl ty69 rfl) rfl ?_;refine .lit [_,_] [(0,_)] .ro sl32 ty69 rfl rfl rfl rfl rfl rfl (fun b62 hb62=>?_);have o63:OL (Rep.pair Rep.str ri) G [.string v59, .int .i64 v60] ([(v59,v60)]:List (ByteArray×Int)):=((OL.cons rfl (Rep.pairI (Rep.strI v59) (Rep.intI .i64 v60)) (OL.nil (Rp':=(Rep.pair Rep.str ri)))) :)
 refine .reval 65 (n':=([(v59,v60)]:List (ByteArray×Int)).length) rfl rfl ?_;obtain⟨u65,hu65,r66⟩:=X0 r61;refine .appO (Q:=(Rep.pair Rep.str ri)) 0 .ro sl32 ty69 rfl rfl rfl rfl rfl rfl o38 o63 rfl rfl rfl B0 hu65 rfl (fun a67 k70 cs71 o72=>?_);refine .go 7 ?_;refine .drop 1 0 [] _ rfl rfl ?_;exact(hb29 _ _ ⟨m40,u65,a67,k70,cs71,(w64 (v37+1)),rfl,rfl,o72,r66⟩ (Nat.lt_succ_self _)).ar;intro hb73;refine .block ?_;refine .lp (fun y m=>∃(Z0:Nat)(Z1 Z2:_),y=⟨[(12, .int .i64 Z1)],[],[(b58, .cells #[.string u56, .int .i64 Z2] 69 (0,0))],[]⟩∧Z0=m∧X8k (X4f (X28 (X1d x0 x1) x0 x1 m40) v37 v31) u45 u56 Z0 Z1 Z2=some r) [(7,_),(25,_),(0,_),(1,_),(6,_),(24,_),(9,_),(11,_)] [] [_] ⟨big,3,0,rfl,rfl,r57⟩ (fun y m hI hb74=>?_);obtain⟨n75,v76,v77,rfl,rfl,r78⟩:=hI;refine .gn 0 ?_;obtain⟨m79,rfl⟩:∃m,n75=m+1:=by cases n75 with |zero=>exact absurd (show(none:Option _)=some _ from r78) (by simp) |succ m=>exact⟨m,rfl⟩
 have r80:Xb3 (X4f (X28 (X1d x0 x1) x0 x1 m40) v37 v31) u45 u56 (X8k (X4f (X28 (X1d x0 x1) x0 x1 m40) v37 v31) u45 u56 m79) v76 v77=some r:=r78;clear r78;unfold Xb3 at r80;try dsimp only at r80
 refine .go 6 ?_;refine .cH r80 (fun c81 r82=>?_) (fun c81 r83=>?_);refine .go 2 ?_;refine .block (.drawL (.q 0 (.q 1 (.q 2 (.q 3 (.q 4 (.q 5 (.q 6 (.q 7 (.q 8 (.q 9 (.e 10 2 .nil))))))))))) [_] (by kernel_rfl) (by kernel_rfl) (X1 [0] rfl) (.go 2 ?_));refine .dq (.shlw rfl rfl (by decide)) rfl (.go 3 ?_);obtain⟨u84,hu84,r85⟩:=X0 r82;refine .dq (.sidx rfl rfl Tryz.underlying9 hu84) rfl (.dq (.convw Tryz.underlying5 Tryz.underlying3 rfl) rfl (.dq (.orw rfl rfl) rfl (.go 1 ?_)));refine .store 0 [_,_] [_] .d2 rfl rfl rfl ty3 rfl rfl rfl rfl (.go 7 ?_);exact(hb74 _ _ ⟨m79,(w64 (v76-1)),(orI .i64 (shlI .i64 v77 8) (w64 u84)),rfl,rfl,r85⟩ (Nat.lt_succ_self _)).ar;refine .exit rfl ?_;exact(hb73 _ ⟨u56,v77,rfl,r83⟩).ar;refine .exit rfl ?_;exact(hb28 _ ⟨v31,a33,k35,cs36,rfl,o38,r44⟩).ar
theorem Xi8{x0:ByteArray}{x1:Bu}{r:Eo}(hG:G∈Fs)(s1:SlR (Rep.sl (Rep.pair Rep.str ri)) G a1 k1 x1)(h:Xd9 x0 x1=some r):RetS Tryz.prog 48 #[.string x0, .slice a1 x1.length k1] Fs [] [] (rv (.tuple #[.int .i64 r.1, .bool r.2.1, .int .i64 r.2.2])):=by
 unfold Xd9 at h;try dsimp only at h
 refine RetS.st [(0,_),(1,_)] Tryz.func48 Tryz.ntmps48 hG fun w0 S0 hS0 B0=>?_;refine .go 10 ?_;obtain⟨u1,hu1,r2⟩:=X0 h;refine .cV [_] Tryz.call74 (Xc3 mcs hu1) ?_;refine .go 2 ?_;refine .cB r2 (fun c5 r6=>?_) (fun c5 r7=>?_);cases r6;refine .go 8 ?_;refine .block ?_;refine .lp (fun y m=>∃(Z0:Nat)(Z1:Bu),y=⟨[(16, .int .i64 (Z0:Int))],[],[],[]⟩∧Z1.length=m∧List.drop Z0 x1=Z1∧X13 x0 Z1=some r) [(0,_),(14,_),(15,_)] [] [] ⟨0,x1,rfl,rfl,rfl,r7⟩ (fun y m hI hb61=>?_);obtain⟨i57,w58,rfl,rfl,g59,r60⟩:=hI;refine .gn 0 ?_;rcases w58 with _ | ⟨x66,xs67⟩;rw[X13] at r60;try dsimp only at r60
 refine .go 5 ?_;refine .cond_dec rfl (fun c=>absurd c (X5 g59)) (fun _=>?_);refine .exit rfl (.go 6 ?_);cases r60;refine .rS [.tmp 4, .tmp 5, .tmp 6] [_,_,_] Tryz.func48 Tryz.results48 ⟨rfl,rfl,rfl⟩;have r65:X89 x0 (X13 x0 xs67) x66=some r:=r60;clear r60;unfold X89 at r65;try dsimp only at r65
 refine .go 5 ?_;refine .cond_dec rfl (fun _=>?_) (fun c=>absurd (X9 g59) c);refine .go 2 ?_;refine .block (.go 2 ?_);obtain⟨c68,p69,h70⟩:=SlR.get s1 (X2 g59);obtain⟨a71,k72,rfl,s73⟩:=h70;refine .q .ro (.idxR s1 rfl rfl (X2 g59) sl29 ty32.sz) rfl (.q .ro (.load_rp p69 mcs rfl ty32 rfl) rfl (.go 8 ?_));refine .block ?_;refine .lp (fun y m=>∃(Z0:Nat)(Z1:Ab),y=⟨[(22, .int .i64 (Z0:Int))],[],[],[]⟩∧Z1.length=m∧List.drop Z0 x66=Z1∧X2j (X13 x0 xs67) x0 Z1=some r) [(16,_),(0,_),(14,_),(15,_),(20,_),(21,_)] [] [] ⟨0,x66,rfl,rfl,rfl,r65⟩ (fun y m hI hb93=>?_);obtain⟨i89,w90,rfl,rfl,g91,r92⟩:=hI;refine .gn 0 ?_;rcases w90 with _ | ⟨x10,xs11⟩;rw[X2j] at r92;try dsimp only at r92
 refine .go 5 ?_;refine .cond_dec rfl (fun c=>absurd c (X5 g91)) (fun _=>?_);refine .exit rfl (.go 5 ?_);exact(hb61 _ _ ⟨(i57+1),xs67,rfl,rfl,(X3 g59),r92⟩ (Nat.lt_succ_self _)).ax ⟨(congrArg (fun z=>some (Value.int .i64 z)) (X4 (SlR.len s1) g59)),rfl,rfl,rfl,trivial⟩;have r12:X88 (X13 x0 xs67) x0 (X2j (X13 x0 xs67) x0 xs11) x10=some r:=r92;clear r92;unfold X88 at r12;try dsimp only at r12
 refine .go 5 ?_;refine .cond_dec rfl (fun _=>?_) (fun c=>absurd (X9 g91) c);refine .go 2 ?_;refine .block (.go 2 ?_);obtain⟨c13,p14,h15⟩:=SlR.get s73 (X2 g91);obtain⟨_,_,rfl,rfl,rfl⟩:=h15;refine .q .ro (.idxR s73 rfl rfl (X2 g91) sl32 ty69.sz) rfl (.q .ro (.load_rp_a [_,_] p14 mcs rfl ty69 rfl) rfl ?_);refine .alloc .ro ty69 rfl (fun b16 hb16=>?_);refine .store 0 [_,_] [_] .ro rfl rfl rfl ty69 rfl rfl rfl rfl (.go 6 ?_);refine .q .ro (.eql_s rfl rfl) rfl (.go 1 ?_);refine .cH r12 (fun c17 r18=>?_) (fun c17 r19=>?_);refine .go 8 ?_;cases r18;refine .drop 1 0 [] _ rfl rfl ?_;refine .rS [.tmp 4, .tmp 5, .tmp 6] [_,_,_] Tryz.func48 Tryz.results48 ⟨rfl,rfl,rfl⟩;refine .go 6 ?_;refine .drop 1 0 [] _ rfl rfl ?_;exact(hb93 _ _ ⟨(i89+1),xs11,rfl,rfl,(X3 g91),r19⟩ (Nat.lt_succ_self _)).ax ⟨(congrArg (fun z=>some (Value.int .i64 z)) (X4 (SlR.len s73) g91)),rfl,rfl,rfl,rfl,rfl,rfl,trivial⟩
theorem Xjo{x0:Int}{x1:ByteArray}{x2:As}{r:Eo}(hG:G∈Fs)(s2:SlR (Rep.pair ri (Rep.pair (Rep.sl ri) (Rep.sl ri))) G a2 k2 x2)(h:Xcz x0 x1 x2=some r):RetS Tryz.prog 18 #[.int .i64 x0, .string x1, .slice a2 x2.length k2] Fs [] [] (rv (.tuple #[.int .i64 r.1, .bool r.2.1, .int .i64 r.2.2])):=by
 unfold Xcz at h;try dsimp only at h
 refine RetS.st [(0,_),(1,_),(2,_)] Tryz.func18 Tryz.ntmps18 hG fun w0 S0 hS0 B0=>?_;refine .go 13 ?_;refine .cutB (β:=Unit) (fun y=>[]) [(0,_),(1,_),(2,_)] (fun y=>G::Fs) (fun y=>[]) [] (fun y=>[]) [] (fun y=>(X5r x0 x1 x2)=some r) ⟨rfl,rfl,rfl,trivial⟩ [] rfl [] rfl ?_ ?_;intro _ hI;have r48:=hI;clear hI
 refine .gn 0 ?_;unfold X5r at r48;try dsimp only at r48
 refine .go 4 ?_;obtain⟨u52,hu52,r53⟩:=X0 r48;refine .makeR (G:=G) (Q:=Rep.str) .ro sl46 ty9 rfl rfl rfl ((Rep.strI ByteArray.empty) :) rfl rfl hu52 rfl rfl (fun b54 cs55 hb54 o56=>?_);refine .go 9 ?_;refine .kB (fun y=>∃(Z0:Ag)(Z1:_)(Z2:Nat)(Z3:_),y=⟨[(11, .slice Z1 Z0.length Z2)],G::Fs,[],[.s (.slice Z1 Z0.length Z2) 9 1 Z0.length Z3]⟩∧OL Rep.str G Z3 Z0∧(X5q x0 x1) Z0=some r) [(0,_),(1,_)] [] [] [] [] ?_ ?_;rintro _ ⟨v10,a11,k12,cs13,rfl,o14,r15⟩;refine .gn 0 ?_;unfold X5q at r15;try dsimp only at r15
 refine .go 11 ?_;refine .kB (fun y=>∃(Z0:_)(Z1:Bu)(Z2:_)(Z3:Nat)(Z4:_),y=⟨[(16, .slice Z2 Z1.length Z3)],Z0::Fs,[],[.s (.slice Z2 Z1.length Z3) 32 1 Z1.length Z4]⟩∧HpLe G Z0∧Bd w0 S0 Fs Z0∧OL (Rep.sl (Rep.pair Rep.str ri)) Z0 Z4 Z1∧(X5p x1) Z1=some r) [(1,_)] [] [] [_] [0] ?_ ?_;rintro _ ⟨G16,v17,a19,k20,cs21,rfl,e22,B23,o24,r25⟩;refine .gn 0 ?_;unfold X5p at r25;try dsimp only at r25
 refine .go 4 ?_;refine .freezeR 0 rfl rfl o24 [_] rfl B23 (fun G26 e27 B28 s30=>?_);obtain⟨u31,hu31,r33⟩:=X0 r25;refine .cV [_,_] Tryz.call48 (Xi8 mcs s30 hu31) ?_;refine .go 7 ?_;cases r33;refine .drop 0 1 _ [] rfl rfl ?_;refine .rS [.tmp 6, .tmp 7, .tmp 8] [_,_,_] Tryz.func18 Tryz.results18 ⟨rfl,rfl,rfl⟩;intro hb34;refine .block (.own_nil 32 1 ?_);refine .lp (fun y m=>∃(Z0:Nat)(Z1:Ag)(Z2:_)(Z3:Bu)(Z4:_)(Z5:Nat)(Z6:_),y=⟨[(16, .slice Z4 Z3.length Z5),(58, .int .i64 (Z0:Int))],[Z2],[],[.s (.slice Z4 Z3.length Z5) 32 1 Z3.length Z6]⟩∧Z1.length=m∧HpLe G Z2∧Bd w0 S0 Fs Z2∧OL (Rep.sl (Rep.pair Rep.str ri)) Z2 Z6 Z3∧List.drop Z0 v10=Z1∧X4c (X5p x1) x0 Z1 Z3=some r) [(0,_),(1,_),(56,_),(57,_)] [] [_] ⟨0,v10,G,([]:List (List (ByteArray×Int))),none,0,[],rfl,rfl,(HpLe.refl _),B0,(OL.nil (Rp':=(Rep.sl (Rep.pair Rep.str ri)))),rfl,r15⟩ (fun y m hI hb35=>?_);obtain⟨i36,w37,G38,v39,a40,k41,cs42,rfl,rfl,e43,B44,o45,g49,r50⟩:=hI;refine .gn 0 ?_;rcases w37 with _ | ⟨x51,xs57⟩;rw[X4c] at r50;try dsimp only at r50
 refine .go 5 ?_;refine .cond_dec rfl (fun c=>absurd c (X5 g49)) (fun _=>?_);refine .exit rfl ?_;exact(hb34 _ ⟨G38,v39,a40,k41,cs42,rfl,e43,B44,o45,r50⟩).ar;have r58:X97 (X5p x1) x0 (X4c (X5p x1) x0 xs57) x51 v39=some r:=r50;clear r50;unfold X97 at r58;try dsimp only at r58
 refine .go 5 ?_;refine .cond_dec rfl (fun _=>?_) (fun c=>absurd (X9 g49) c);refine .go 2 ?_;refine .block (.go 2 ?_);obtain⟨c59,p60,h61⟩:=OL.get (OL.mono e43 o14) (X2 g49);obtain rfl:=h61;refine .q .ro (.idxO 1 rfl rfl rfl (X2 g49) sl46 ty9.sz) rfl (.q .ro (.loadO 1 0 rfl (X2 g49) p60 rfl (.inl ⟨rfl,rfl⟩) ty9 rfl) rfl (.go 6 ?_));obtain⟨u62,hu62,r65⟩:=X0 r58;refine .cW [_,_] Tryz.call47 (Xgn mcs hu62) B44 (fun v66 bo so G67 e68 B69 h70=>?_);obtain⟨a71,k72,rfl,rfl,rfl,s73⟩:=h70;refine .gn 12 ?_;refine .cH r65 (fun c74 r75=>?_) (fun c74 r76=>?_);cases r75;refine .go 4 ?_;refine .lit [_] [(0,_)] .ro sl29 ty32 rfl rfl rfl rfl rfl rfl (fun b77 hb77=>?_);have o78:OL (Rep.sl (Rep.pair Rep.str ri)) G67 [.slice a71 u62.1.length k72] ([u62.1]:List (List (ByteArray×Int))):=((OL.cons rfl (Rep.slI s73) (OL.nil (Rp':=(Rep.sl (Rep.pair Rep.str ri))))) :)
 refine .reval 73 (n':=([u62.1]:List (List (ByteArray×Int))).length) rfl rfl ?_;obtain⟨u79,hu79,r81⟩:=X0 r76;refine .appO (Q:=(Rep.sl (Rep.pair Rep.str ri))) 0 .ro sl29 ty32 rfl rfl rfl rfl rfl rfl (OL.mono e68 o45) o78 rfl rfl rfl B69 hu79 rfl (fun a82 k83 cs84 o85=>?_);refine .go 7 ?_;exact(hb35 _ _ ⟨(i36+1),xs57,G67,u79,a82,k83,cs84,rfl,rfl,(HpLe.trans e43 e68),B69,o85,(X3 g49),r81⟩ (Nat.lt_succ_self _)).ax ⟨rfl,(congrArg (fun z=>some (Value.int .i64 z)) (X4 (OL.len' o14) g49)),rfl,rfl,rfl,rfl,trivial⟩;intro hb86;refine .block ?_;refine .lp (fun y m=>∃(Z0:Nat)(Z1:As)(Z2:Ag)(Z3:_)(Z4:Nat)(Z5:_),y=⟨[(11, .slice Z3 Z2.length Z4),(38, .int .i64 (Z0:Int))],[],[],[.s (.slice Z3 Z2.length Z4) 9 1 Z2.length Z5]⟩∧Z1.length=m∧OL Rep.str G Z5 Z2∧List.drop Z0 x2=Z1∧X4d (X5q x0 x1) Z1 Z0 Z2=some r) [(0,_),(1,_),(36,_),(37,_)] [] [] ⟨0,x2,u52,(some ⟨b54,0,none⟩),u52.length,cs55,rfl,rfl,o56,rfl,r53⟩ (fun y m hI hb87=>?_);obtain⟨i88,w89,v90,a91,k92,cs93,rfl,rfl,o94,g95,r96⟩:=hI;refine .gn 0 ?_;rcases w89 with _ | ⟨x97,xs98⟩;rw[X4d] at r96;try dsimp only at r96
 refine .go 5 ?_;refine .cond_dec rfl (fun c=>absurd c (X5 g95)) (fun _=>?_);refine .exit rfl ?_;exact(hb86 _ ⟨v90,a91,k92,cs93,rfl,o94,r96⟩).ar;have r99:X98 (X5q x0 x1) (X4d (X5q x0 x1) xs98 (i88+1)) x97 i88 v90=some r:=r96;clear r96;unfold X98 at r99;try dsimp only at r99
 refine .go 5 ?_;refine .cond_dec rfl (fun _=>?_) (fun c=>absurd (X9 g95) c);refine .go 2 ?_;refine .block (.go 3 ?_);obtain⟨c100,p101,h102⟩:=SlR.get s2 (X2 g95);obtain⟨_,_,rfl,rfl,_,_,rfl,⟨a103,k104,rfl,s105⟩,a106,k107,rfl,s108⟩:=h102;refine .q .ro (.idxR s2 rfl rfl (X2 g95) sl63 ty80.sz) rfl (.q .ro (.load_rp_a [_,_,_] p101 mcs rfl ty80 rfl) rfl ?_);refine .alloc .ro ty80 rfl (fun b109 hb109=>?_);refine .go 1 ?_;refine .store 0 [_,_,_] [_] .ro rfl rfl rfl ty80 rfl rfl rfl rfl (.go 5 ?_);obtain⟨u110,hu110,r111⟩:=X0 r99;refine .cV [_] Tryz.call46 (Xgm mcs s105 hu110) ?_;refine .go 12 ?_;refine .cB r111 (fun c112 r113=>?_) (fun c112 r114=>?_);cases r113;refine .go 5 ?_;obtain⟨u115,hu115,r116⟩:=X0 r114;obtain⟨c117,p118,h119⟩:=OL.get o94 hu115;obtain rfl:=h119;refine .q .ro (.idxO 0 rfl rfl rfl hu115 sl46 ty9.sz) rfl ?_;obtain⟨u120,hu120,r121⟩:=X0 r116;refine .storeR 0 0 (Q:=Rep.str) .ro rfl rfl o94 hu120 rfl (.inl ⟨rfl,rfl⟩) rfl ty9 p118 ((Rep.strI u110.1) :) rfl rfl (fun cs122 hlcs122 o123=>?_);refine .reval 11 hlcs122 rfl (.reval 51 hlcs122 rfl (.go 6 ?_));refine .drop 1 0 [] _ rfl rfl ?_;exact(hb87 _ _ ⟨(i88+1),xs98,u120,a91,k92,cs122,rfl,rfl,o123,(X3 g95),r121⟩ (Nat.lt_succ_self _)).ax ⟨rfl,(congrArg (fun z=>some (Value.int .i64 z)) (X4 (SlR.len s2) g95)),rfl,rfl,rfl,rfl,trivial⟩;intro hb124;refine .block ?_;refine .lp (fun y m=>∃(Z0:Nat)(Z1:As),y=⟨[(23, .int .i64 (Z0:Int))],[],[],[]⟩∧Z1.length=m∧List.drop Z0 x2=Z1∧X5s (X5r x0 x1 x2) Z1=some r) [(0,_),(1,_),(2,_),(21,_),(22,_)] [] [] ⟨0,x2,rfl,rfl,rfl,h⟩ (fun y m hI hb125=>?_);obtain⟨i126,w127,rfl,rfl,g128,r129⟩:=hI;refine .gn 0 ?_;rcases w127 with _ | ⟨x130,xs131⟩;rw[X5s] at r129;try dsimp only at r129
 refine .go 5 ?_;refine .cond_dec rfl (fun c=>absurd c (X5 g128)) (fun _=>?_);refine .exit rfl ?_;exact .arr (hb124 () r129) ⟨rfl,rfl,rfl,trivial⟩;have r132:X99 (X5r x0 x1 x2) (X5s (X5r x0 x1 x2) xs131) x130=some r:=r129;clear r129;unfold X99 at r132;try dsimp only at r132
 refine .go 5 ?_;refine .cond_dec rfl (fun _=>?_) (fun c=>absurd (X9 g128) c);refine .go 2 ?_;refine .block (.go 2 ?_);obtain⟨c133,p134,h135⟩:=SlR.get s2 (X2 g128);obtain⟨_,_,rfl,rfl,_,_,rfl,⟨a136,k137,rfl,s138⟩,a139,k140,rfl,s141⟩:=h135;refine .q .ro (.idxR s2 rfl rfl (X2 g128) sl63 ty80.sz) rfl (.q .ro (.load_rp_a [_,_,_] p134 mcs rfl ty80 rfl) rfl ?_);refine .alloc .ro ty80 rfl (fun b142 hb142=>?_);refine .store 0 [_,_,_] [_] .ro rfl rfl rfl ty80 rfl rfl rfl rfl (.go 7 ?_);refine .cH r132 (fun c143 r144=>?_) (fun c143 r145=>?_);cases r144;refine .go 6 ?_;refine .drop 1 0 [] _ rfl rfl ?_;exact(hb125 _ _ ⟨(i126+1),xs131,rfl,rfl,(X3 g128),r145⟩ (Nat.lt_succ_self _)).ax ⟨(congrArg (fun z=>some (Value.int .i64 z)) (X4 (SlR.len s2) g128)),rfl,rfl,rfl,rfl,rfl,trivial⟩
end Go.Proofs.YtmfppphlhgneeaaGreat
end

section
set_option maxHeartbeats 4000000
set_option maxRecDepth 100000
namespace Go.Proofs.YtmfppphlhgneeaaGreat
open Go.RowKit
set_option linter.unusedSimpArgs false
set_option linter.unusedVariables false
set_option synthInstance.maxSize 2000
set_option synthInstance.maxHeartbeats 400000
variable{Fs:Dm}{G:Hp}{a0:Ar}{k0:Nat}
theorem Xfw{x0:Aa}{r:Bool}(hG:G∈Fs)(s0:SlR (Rep.int .u8) G a0 k0 x0)(h:X8l x0=some r):RetS Tryz.prog 3 #[.slice a0 x0.length k0] Fs [] [] (rv (.bool r)):=by
 unfold X8l at h;try dsimp only at h
 refine RetS.st [(0,_)] Tryz.func3 Tryz.ntmps3 hG fun w0 S0 hS0 B0=>?_;refine .go 7 ?_;obtain⟨u1,hu1,r2⟩:=X0 h;refine .cV [] Tryz.call5 (Xkl mcs hu1) ?_;refine .go 2 ?_;refine .cB r2 (fun c5 r6=>?_) (fun c5 r7=>?_);cases r6;refine .go 4 ?_;obtain⟨u8,hu8,r9⟩:=X0 r7;refine .cS [_] Tryz.call6 (Xmw mcs s0 hu8) (fun v11 bo so h10=>?_);obtain⟨a13,k14,b12,rfl,rfl,rfl,s15⟩:=h10;refine .gn 5 ?_;obtain⟨u16,hu16,r17⟩:=X0 r9;refine .callW (b1:=[_]) (b2:=[]) (s1:=[]) [_] [] .ro rfl rfl Tryz.call7 rfl rfl (Xg8 mcs s15 hu16) rfl B0 (fun v19 bo so G20 e21 B22 h18=>?_);obtain⟨a24,k25,a27,k28,a30,k31,a33,k34,rfl,rfl,rfl,s26,s29,s32,s35⟩:=h18;refine .gn 3 ?_;refine .alloc .ro ty31 rfl (fun b36 hb36=>?_);refine .store 0 [_,_,_,_] [_,_] .ro rfl rfl rfl ty31 rfl rfl rfl rfl (.go 4 ?_);refine .q .ro (.build [_] [(0,_)] ty36 pl36 rfl rfl) rfl ?_;refine .alloc .ro ty36 rfl (fun b37 hb37=>?_);refine .store 0 [_] [_,_,_] .ro rfl rfl rfl ty36 rfl rfl rfl rfl (.go 3 ?_);refine .q .ro (.load_own_a 0 [_] rfl rfl ty36 rfl) rfl (.q .ro (.load_own_a 1 [_,_,_,_] rfl rfl ty31 rfl) rfl ?_);obtain⟨u38,hu38,r39⟩:=X0 r17;refine .cW [_,_,_] Tryz.call8 (Xfc mcs s26 s29 hu38) B22 (fun v41 bo so G42 e43 B44 h40=>?_);obtain⟨a46,k47,rfl,rfl,rfl,s48⟩:=h40;refine .gn 3 ?_;refine .alloc .ro ty39 rfl (fun b49 hb49=>?_);refine .store 0 [_,_,_,_] [_,_,_,_] .ro rfl rfl rfl ty39 rfl rfl rfl rfl (.go 8 ?_);refine .cH r39 (fun c50 r51=>?_) (fun c50 r52=>?_);cases r51;refine .go 4 ?_;obtain⟨u53,hu53,r54⟩:=X0 r52;refine .pull 3 rfl [_,_,_,_] rfl ?_;refine .callS (b1:=[_]) (b2:=[_,_,_]) (s1:=[]) [_] [] .ro rfl rfl Tryz.call9 rfl rfl (Xg1 mcs (SlR.mono e43 s35) hu53) rfl (fun v56 bo so h55=>?_);obtain⟨a57,k58,rfl,rfl,rfl,s59⟩:=h55;refine .gn 0 ?_;refine .alloc .ro ty44 rfl (fun b60 hb60=>?_);refine .store 0 [_,_,_,_] [_,_,_,_,_] .ro rfl rfl rfl ty44 rfl rfl rfl rfl (.go 3 ?_);refine .lit [_,_,_,_,_,_,_] [(0,_),(1,_),(2,_),(3,_),(4,_),(5,_),(6,_)] .ro sl46 ty9 rfl rfl rfl rfl rfl rfl (fun b61 hb61=>?_);have o62:OL Rep.str G42 [.string ⟨#[97,110,116]⟩, .string ⟨#[98,101,101]⟩, .string ⟨#[99,97,116]⟩, .string ⟨#[100,111,103]⟩, .string ⟨#[101,101,108]⟩, .string ⟨#[102,111,120]⟩, .string ⟨#[103,110,117]⟩] ([⟨#[97,110,116]⟩,⟨#[98,101,101]⟩,⟨#[99,97,116]⟩,⟨#[100,111,103]⟩,⟨#[101,101,108]⟩,⟨#[102,111,120]⟩,⟨#[103,110,117]⟩]:List ByteArray):=((OL.cons rfl (Rep.strI ⟨#[97,110,116]⟩) (OL.cons rfl (Rep.strI ⟨#[98,101,101]⟩) (OL.cons rfl (Rep.strI ⟨#[99,97,116]⟩) (OL.cons rfl (Rep.strI ⟨#[100,111,103]⟩) (OL.cons rfl (Rep.strI ⟨#[101,101,108]⟩) (OL.cons rfl (Rep.strI ⟨#[102,111,120]⟩) (OL.cons rfl (Rep.strI ⟨#[103,110,117]⟩) (OL.nil (Rp':=Rep.str))))))))) :)
 refine .reval 50 (n':=([⟨#[97,110,116]⟩,⟨#[98,101,101]⟩,⟨#[99,97,116]⟩,⟨#[100,111,103]⟩,⟨#[101,101,108]⟩,⟨#[102,111,120]⟩,⟨#[103,110,117]⟩]:List ByteArray).length) rfl rfl (.go 1 ?_);obtain⟨u64,hu64,r65⟩:=X0 r54;refine .pull 1 rfl [_,_,_,_,_] rfl ?_;refine .callS (b1:=[_]) (b2:=[_,_,_,_]) (s1:=[]) [_,_] [] .ro rfl rfl Tryz.call10 rfl rfl (Xa mcs s59 hu64) rfl (fun v67 bo so h66=>?_);obtain⟨a68,k69,rfl,rfl,rfl,s70⟩:=h66;refine .gn 0 ?_;obtain⟨u71,hu71,r72⟩:=X0 r65;obtain⟨c73,p74,h75⟩:=OL.get o62 hu71;obtain rfl:=h75;refine .q .ro (.idxO 0 rfl rfl rfl hu71 sl46 ty9.sz) rfl (.q .ro (.loadO 0 0 rfl hu71 p74 rfl (.inl ⟨rfl,rfl⟩) ty9 rfl) rfl (.go 5 ?_));refine .q .ro (.load_own_a 4 [_,_] rfl rfl ty28 rfl) rfl (.go 1 ?_);obtain⟨u76,hu76,r77⟩:=X0 r72;refine .cS [_,_] Tryz.call11 (Xg0 mcs (SlR.mono e43 s26) hu76) (fun v79 bo so h78=>?_);obtain⟨a81,k82,cs83,rfl,rfl,rfl,o84⟩:=h78;refine .gn 8 ?_;refine .q .ro (.load_own_a 1 [_,_,_,_] rfl rfl ty44 rfl) rfl (.q .ro (.load_own_a 3 [_] rfl rfl ty36 rfl) rfl (.go 5 ?_));obtain⟨u85,hu85,r86⟩:=X0 r77;refine .cS [_,_,_,_] Tryz.call12 (Xhw mcs hu85) (fun v88 bo so h87=>?_);obtain⟨a90,k91,cs92,rfl,rfl,rfl,o93⟩:=h87;refine .gn 7 ?_;refine .kG (fun y=>∃(Z0:_)(Z1:Aa)(Z2:_)(Z3:Nat)(Z4:Co)(Z5:_)(Z6:Nat)(Z7:_)(Z8:Aa)(Z9:_)(Z10:Nat)(Z11:_),y=⟨[(11, .slice Z2 Z1.length Z3),(15, .slice Z5 Z4.length Z6),(17, .int .i64 Z7)],Z0::Fs,[(b12, .cells #[.slice Z9 Z8.length Z10, .int .i64 Z11] 91 (0,0))],[]⟩∧HpLe G42 Z0∧Bd w0 S0 Fs Z0∧SlR ri Z0 Z2 Z3 Z1∧SlR (Rep.sl (Rep.sl ri)) Z0 Z5 Z6 Z4∧SlR (Rep.int .u8) Z0 Z9 Z10 Z8∧(X5z u16.2.1 u71 u76.2 u85.2 u53.1.1 u53.1.2.1 u53.1.2.2.1 u53.1.2.2.2 u38.1.1 u38.1.2.1 u38.1.2.2.1 u38.1.2.2.2 u16.1.1.1 u16.1.2.1) Z1 Z4 Z7 Z8 Z11=some r) [(3,_),(4,_),(5,_),(6,_),(7,_),(9,_),(10,_),(12,_),(14,_)] [_,_,_,_] [1,2,3,4] [_] [2] ?_ ?_;rintro _ ⟨G45,v63,a80,k89,v94,a95,k96,v97,v98,a99,k100,v101,rfl,e102,B103,s104,s105,s106,r107⟩;refine .gn 0 ?_;unfold X5z at r107;try dsimp only at r107
 refine .go 6 ?_;refine .kR (fun y=>y=⟨[(92, .bool (decide ((u76.2≠0)∨(u85.2≠0))))],G45::Fs,[],[]⟩) [(11,_),(15,_),(17,_),(3,_),(4,_),(5,_),(6,_),(7,_),(9,_),(10,_)] [_,_,_,_,_] [0,1,2,3,4] [_] [0] 3 ?_ ?_;rintro _ rfl;refine .gn 1 ?_;refine .kR (fun y=>y=⟨[(96, .bool (decide (((u76.2≠0)∨(u85.2≠0))∨(v97≠0))))],G45::Fs,[],[]⟩) [(11,_),(15,_),(3,_),(4,_),(5,_),(6,_),(7,_),(9,_),(10,_)] [_,_,_,_,_] [0,1,2,3,4] [_] [0] 3 ?_ ?_;rintro _ rfl;refine .gn 1 ?_;refine .cH r107 (fun c108 r109=>?_) (fun c108 r110=>?_);cases r109;refine .go 8 ?_;refine .q .ro (.load_own_a 1 [_,_,_,_] rfl rfl ty44 rfl) rfl ?_;obtain⟨u111,hu111,r112⟩:=X0 r110;refine .cV [_,_,_] Tryz.call15 (Xji mcs hu111) ?_;refine .go 1 ?_;refine .kI (fun y=>∃(Z0:_),y=⟨[(18, .int .i64 Z0)],G45::Fs,[],[]⟩∧(X2l v63 v94 u16.2.1 u71 v98 v101 u53.1.1 u53.1.2.1 u53.1.2.2.1 u53.1.2.2.2 u38.1.1 u38.1.2.1 u38.1.2.2.1 u38.1.2.2.2 u16.1.1.1 u16.1.2.1) Z0=some r) [(11,_),(15,_),(3,_),(4,_),(5,_),(6,_),(7,_),(9,_),(10,_)] [_,_,_,_,_] [0,1,2,3,4] [_] [0] ?_ ?_;rintro _ ⟨v113,rfl,r114⟩;refine .gn 0 ?_;unfold X2l at r114;try dsimp only at r114
 refine .go 11 ?_;refine .kB (fun y=>∃(Z0:_)(Z1:Db)(Z2:_)(Z3:Nat)(Z4:_)(Z5:Aa)(Z6:_)(Z7:Nat)(Z8 Z9 Z10 Z11 Z12 Z13 Z14 Z15 Z16 Z17 Z18:_),y=⟨[(19, .slice Z2 Z1.length Z3)],Z0::Fs,[(b12, .cells #[.slice Z6 Z5.length Z7, .int .i64 Z8] 91 (0,0)),(b60, .cells #[.int .i64 Z9, .int .i64 Z10, .int .i64 Z11, .int .i64 Z12] 44 (0,0)),(b49, .cells #[.int .i64 Z13, .int .i64 Z14, .int .i64 Z15, .slice a46 u38.1.2.2.2.length k47] 39 (0,0)),(b37, .cells #[.int .i64 Z16] 36 (0,0)),(b36, .cells #[.int .i64 Z17, .slice a24 u16.1.1.2.length k25, .int .i64 Z18, .slice a27 u16.1.2.2.length k28] 31 (0,0))],[.s (.slice Z2 Z1.length Z3) 60 1 Z1.length Z4]⟩∧HpLe G45 Z0∧Bd w0 S0 Fs Z0∧OL (Rep.sl (Rep.pair Rep.bool (Rep.sl ri))) Z0 Z4 Z1∧SlR (Rep.int .u8) Z0 Z6 Z7 Z5∧(Xz v63 u16.2.1 u71) Z1 Z5 Z8 Z9 Z10 Z11 Z12 Z13 Z14 Z15 Z16 Z17 Z18=some r) [(11,_),(4,_),(5,_),(6,_),(7,_),(9,_),(10,_)] [] [] [_] [0] ?_ ?_;rintro _ ⟨G115,v116,a117,k118,cs119,v120,a121,k122,v123,v124,v125,v126,v127,v128,v129,v130,v131,v132,v133,rfl,e134,B135,o136,s137,r138⟩;refine .gn 0 ?_;unfold Xz at r138;try dsimp only at r138
 refine .go 2 ?_;refine .q .ro (.load_own_a 1 [_,_,_,_] rfl rfl ty44 rfl) rfl (.q .ro (.load_own_a 3 [_] rfl rfl ty36 rfl) rfl (.go 4 ?_));refine .freezeR 0 rfl rfl o136 [_] rfl B135 (fun G139 e140 B141 s142=>?_);obtain⟨u143,hu143,r144⟩:=X0 r138;refine .cW [_,_,_,_,_] Tryz.call17 (Xi7 mcs (SlR.mono (HpLe.trans e134 e140) s104) s142 hu143) B141 (fun v145 bo so G146 e147 B148 h149=>?_);obtain⟨a150,k151,cs152,rfl,rfl,rfl,o153⟩:=h149;refine .gn 12 ?_;refine .freezeR 0 rfl rfl o153 [_] rfl B148 (fun G154 e155 B156 s157=>?_);obtain⟨u158,hu158,r159⟩:=X0 r144;refine .cV [_,_,_] Tryz.call18 (Xjo mcs s157 hu158) ?_;refine .go 14 ?_;refine .kR (fun y=>y=⟨[(145, .bool (decide ((u143.2≠0)∨(u158.2.2≠0))))],G154::Fs,[],[]⟩) [(5,_),(10,_),(25,_),(26,_)] [_,_,_,_,_] [0,1,2,3,4] [_] [0] 3 ?_ ?_;rintro _ rfl;refine .gn 1 ?_;refine .cH r159 (fun c160 r161=>?_) (fun c160 r162=>?_);cases r161;refine .go 8 ?_;refine .kB (fun y=>∃(Z0 Z1 Z2 Z3 Z4 Z5 Z6 Z7 Z8 Z9 Z10:_),y=⟨[],G154::Fs,[(b12, .cells #[.slice a121 v120.length k122, .int .i64 Z0] 91 (0,0)),(b60, .cells #[.int .i64 Z1, .int .i64 Z2, .int .i64 Z3, .int .i64 Z4] 44 (0,0)),(b49, .cells #[.int .i64 Z5, .int .i64 Z6, .int .i64 Z7, .slice a46 u38.1.2.2.2.length k47] 39 (0,0)),(b37, .cells #[.int .i64 Z8] 36 (0,0)),(b36, .cells #[.int .i64 Z9, .slice a24 u16.1.1.2.length k25, .int .i64 Z10, .slice a27 u16.1.2.2.length k28] 31 (0,0))],[]⟩∧(X1v u158.1 u158.2.1) Z0 Z1 Z2 Z3 Z4 Z5 Z6 Z7 Z8 Z9 Z10=some r) [(25,_),(26,_)] [] [] [_] [0] ?_ ?_;rintro _ ⟨v163,v164,v165,v166,v167,v168,v169,v170,v171,v172,v173,rfl,r174⟩;refine .gn 0 ?_;unfold X1v at r174;try dsimp only at r174
 refine .go 5 ?_;refine .kR (fun y=>y=⟨[(169, .bool (decide (((!u158.2.1)=true)∧(u158.1=0))))],G154::Fs,[],[]⟩) [] [_,_,_,_,_] [0,1,2,3,4] [_] [0] 3 ?_ ?_;rintro _ rfl;refine .gn 2 ?_;cases r174;refine .drop 5 0 [] _ rfl rfl (.drop 0 1 _ [] rfl rfl ?_);refine .rS [.tmp 2] [_] Tryz.func3 Tryz.results3 ⟨rfl,rfl,rfl⟩;intro hb175;refine .split_b 166 rfl (fun c176=>?_) (fun c176=>?_);refine .go 5 ?_;exact(hb175 _ rfl).ax ⟨X2m c176,trivial⟩;refine .go 3 ?_;exact(hb175 _ rfl).ax ⟨X2n (Xfx c176),trivial⟩;intro hb177;refine .block ?_;refine .lp (fun y m=>∃(Z0:Nat)(Z1:Ab),y=⟨[(148, .int .i64 (Z0:Int))],[],[],[]⟩∧Z1.length=m∧List.drop Z0 u16.2.1=Z1∧Xy (X1v u158.1 u158.2.1) u71 u158.1 u158.2.1 v123 v124 v125 v126 v127 v128 v129 v130 v131 v132 v133 Z1=some r) [(10,_),(25,_),(26,_),(146,_),(147,_)] [_,_,_,_,_] [_] ⟨0,u16.2.1,rfl,rfl,rfl,r162⟩ (fun y m hI hb178=>?_);obtain⟨i179,w180,rfl,rfl,g181,r182⟩:=hI;refine .gn 0 ?_;rcases w180 with _ | ⟨x183,xs184⟩;rw[Xy] at r182;try dsimp only at r182
 refine .go 5 ?_;refine .cond_dec rfl (fun c=>absurd c (X5 g181)) (fun _=>?_);refine .exit rfl ?_;exact(hb177 _ ⟨v123,v124,v125,v126,v127,v128,v129,v130,v131,v132,v133,rfl,r182⟩).ar;have r185:X42 (X1v u158.1 u158.2.1) u71 u158.1 u158.2.1 v123 v124 v125 v126 v127 v128 v129 v130 v131 v132 v133 (Xy (X1v u158.1 u158.2.1) u71 u158.1 u158.2.1 v123 v124 v125 v126 v127 v128 v129 v130 v131 v132 v133 xs184) x183=some r:=r182;clear r182;unfold X42 at r185;try dsimp only at r185
 refine .go 5 ?_;refine .cond_dec rfl (fun _=>?_) (fun c=>absurd (X9 g181) c);refine .go 2 ?_;refine .block (.go 2 ?_);obtain⟨c186,p187,h188⟩:=SlR.get (SlR.mono (HpLe.trans (HpLe.trans (HpLe.trans (HpLe.trans (HpLe.trans e43 e102) e134) e140) e147) e155) s32) (X2 g181);obtain⟨_,_,rfl,rfl,rfl⟩:=h188;refine .q .ro (.idxR (SlR.mono (HpLe.trans (HpLe.trans (HpLe.trans (HpLe.trans (HpLe.trans e43 e102) e134) e140) e147) e155) s32) rfl rfl (X2 g181) sl32 ty69.sz) rfl (.q .ro (.load_rp_a [_,_] p187 mcs rfl ty69 rfl) rfl ?_);refine .alloc .ro ty69 rfl (fun b189 hb189=>?_);refine .store 0 [_,_] [_,_,_,_,_,_] .ro rfl rfl rfl ty69 rfl rfl rfl rfl (.go 6 ?_);refine .q .ro (.eql_s rfl rfl) rfl (.go 1 ?_);refine .cH r185 (fun c190 r191=>?_) (fun c190 r192=>?_);refine .go 4 ?_;refine .kR (fun y=>y=⟨[(162, .bool (decide ((u158.2.1=true)∧(u158.1=x183.2))))],G154::Fs,[],[]⟩) [] [_,_,_,_,_,_] [0,1,2,3,4,5] [_] [0] 5 ?_ ?_;rintro _ rfl;refine .gn 2 ?_;cases r191;refine .drop 6 0 [] _ rfl rfl (.drop 0 1 _ [] rfl rfl ?_);refine .rS [.tmp 2] [_] Tryz.func3 Tryz.results3 ⟨rfl,rfl,rfl⟩;intro hb193;refine .split_b 157 rfl (fun c194=>?_) (fun c194=>?_);refine .go 9 ?_;exact(hb193 _ rfl).ax ⟨X2m c194,trivial⟩;refine .go 5 ?_;exact(hb193 _ rfl).ax ⟨X2n (Xfx c194),trivial⟩;refine .go 6 ?_;refine .drop 1 0 [_,_,_,_,_] _ rfl rfl ?_;exact(hb178 _ _ ⟨(i179+1),xs184,rfl,rfl,(X3 g181),r192⟩ (Nat.lt_succ_self _)).ax ⟨(congrArg (fun z=>some (Value.int .i64 z)) (X4 (SlR.len (SlR.mono (HpLe.trans (HpLe.trans (HpLe.trans (HpLe.trans (HpLe.trans e43 e102) e134) e140) e147) e155) s32)) g181)),rfl,rfl,rfl,rfl,rfl,trivial⟩;intro hb195;refine .split 142 rfl (fun c196=>?_) (fun c196=>?_);refine .go 3 ?_;exact(hb195 _ rfl).ax ⟨Xq c196,rfl,rfl,rfl,rfl,trivial⟩;refine .go 5 ?_;exact(hb195 _ rfl).ax ⟨Xr c196,rfl,rfl,rfl,rfl,trivial⟩;intro hb197;refine .block (.own_nil 60 1 ?_);refine .lp (fun y m=>∃(Z0:Nat)(Z1:Co)(Z2:_)(Z3:Db)(Z4:_)(Z5:Nat)(Z6:_)(Z7:Aa)(Z8:_)(Z9:Nat)(Z10:_),y=⟨[(19, .slice Z4 Z3.length Z5),(101, .int .i64 (Z0:Int))],[Z2],[(b12, .cells #[.slice Z8 Z7.length Z9, .int .i64 Z10] 91 (0,0))],[.s (.slice Z4 Z3.length Z5) 60 1 Z3.length Z6]⟩∧Z1.length=m∧HpLe G45 Z2∧Bd w0 S0 Fs Z2∧OL (Rep.sl (Rep.pair Rep.bool (Rep.sl ri))) Z2 Z6 Z3∧SlR (Rep.int .u8) Z2 Z8 Z9 Z7∧List.drop Z0 v94=Z1∧X1w (Xz v63 u16.2.1 u71) v113 u53.1.1 u53.1.2.1 u53.1.2.2.1 u53.1.2.2.2 u38.1.1 u38.1.2.1 u38.1.2.2.1 u38.1.2.2.2 u16.1.1.1 u16.1.2.1 Z1 Z3 Z7 Z10=some r) [(18,_),(11,_),(15,_),(3,_),(4,_),(5,_),(6,_),(7,_),(9,_),(10,_),(100,_)] [_,_,_,_] [_] ⟨0,v94,G45,([]:List (List (Bool×(List Int)))),none,0,[],v98,a99,k100,v101,rfl,rfl,(HpLe.refl _),B103,(OL.nil (Rp':=(Rep.sl (Rep.pair Rep.bool (Rep.sl ri))))),s106,rfl,r114⟩ (fun y m hI hb198=>?_)
 obtain⟨i199,w200,G201,v202,a203,k204,cs205,v206,a207,k208,v209,rfl,rfl,e210,B211,o212,s213,g214,r215⟩:=hI;refine .gn 0 ?_;rcases w200 with _ | ⟨x216,xs217⟩;rw[X1w] at r215;try dsimp only at r215
 refine .go 5 ?_;refine .cond_dec rfl (fun c=>absurd c (X5 g214)) (fun _=>?_);refine .exit rfl ?_;exact(hb197 _ ⟨G201,v202,a203,k204,cs205,v206,a207,k208,v209,u53.1.1,u53.1.2.1,u53.1.2.2.1,u53.1.2.2.2,u38.1.1,u38.1.2.1,u38.1.2.2.1,257,u16.1.1.1,u16.1.2.1,rfl,e210,B211,o212,s213,r215⟩).ar;have r218:X43 (Xz v63 u16.2.1 u71) v113 u53.1.1 u53.1.2.1 u53.1.2.2.1 u53.1.2.2.2 u38.1.1 u38.1.2.1 u38.1.2.2.1 u38.1.2.2.2 u16.1.1.1 u16.1.2.1 (X1w (Xz v63 u16.2.1 u71) v113 u53.1.1 u53.1.2.1 u53.1.2.2.1 u53.1.2.2.2 u38.1.1 u38.1.2.1 u38.1.2.2.1 u38.1.2.2.2 u16.1.1.1 u16.1.2.1 xs217) x216 v202 v206 v209=some r:=r215;clear r215;unfold X43 at r218;try dsimp only at r218
 refine .go 5 ?_;refine .cond_dec rfl (fun _=>?_) (fun c=>absurd (X9 g214) c);refine .go 2 ?_;refine .block (.go 6 ?_);refine .drawL (.q 0 (.q 1 (.q 2 (.q 3 (.q 4 (.q 5 (.q 6 (.q 7 (.e 8 1 (.q 9 (.q 10 (.q 11 (.q 12 (.q 13 .nil)))))))))))))) [_,_,_,_] (by kernel_rfl) (by kernel_rfl) (X1 [1,2,3,4] rfl) (.go 1 ?_);refine .dq (.load_own_a 0 [_,_,_,_] rfl rfl ty44 rfl) rfl (.dq (.load_own_a 1 [_,_,_,_] rfl rfl ty39 rfl) rfl (.go 2 ?_));obtain⟨c219,p220,h221⟩:=SlR.get (SlR.mono e210 s105) (X2 g214);obtain⟨a222,k223,rfl,s224⟩:=h221;refine .dq (.idxR (SlR.mono e210 s105) rfl rfl (X2 g214) sl52 ty37.sz) rfl (.dq (.load_rp p220 mcs rfl ty37 rfl) rfl (.go 1 ?_));obtain⟨u225,hu225,r226⟩:=X0 r218;refine .callW (b1:=[_]) (b2:=[_,_,_,_]) (s1:=[]) [_,_,_,_,_,_] [] .d1 rfl rfl Tryz.call16 rfl rfl (Xfs mcs s213 (SlR.mono (HpLe.trans e102 e210) s48) s224 hu225) rfl B211 (fun v227 bo so G228 e229 B230 h231=>?_);obtain⟨a232,k233,a234,k235,cs236,a237,k238,cs239,rfl,rfl,rfl,s240,o241,o242⟩:=h231;refine .gn 0 ?_;refine .clsL e229 (X1 [1,2,3,4] rfl) (.go 9 ?_);refine .freezeR 0 rfl rfl o241 [_,_,_] rfl B230 (fun G243 e244 B245 s246=>?_);refine .lit [_] [(0,_)] .ro sl59 ty60 rfl rfl rfl rfl rfl rfl (fun b247 hb247=>?_);have o248:OL (Rep.sl (Rep.pair Rep.bool (Rep.sl ri))) G243 [.slice a234 u225.1.length k235] ([u225.1]:List (List (Bool×(List Int)))):=((OL.cons rfl (Rep.slI s246) (OL.nil (Rp':=(Rep.sl (Rep.pair Rep.bool (Rep.sl ri)))))) :)
 refine .reval 118 (n':=([u225.1]:List (List (Bool×(List Int)))).length) rfl rfl ?_;obtain⟨u249,hu249,r250⟩:=X0 r226;refine .appO (Q:=(Rep.sl (Rep.pair Rep.bool (Rep.sl ri)))) 1 .ro sl59 ty60 rfl rfl rfl rfl rfl rfl (OL.mono (HpLe.trans e229 e244) o212) o248 rfl rfl rfl B245 hu249 rfl (fun a251 k252 cs253 o254=>?_);refine .go 7 ?_;refine .drop 0 1 _ [_,_] rfl rfl ?_;exact(hb198 _ _ ⟨(i199+1),xs217,G243,u249,a251,k252,cs253,u225.2.2.1,a232,k233,u225.2.2.2,rfl,rfl,(HpLe.trans (HpLe.trans e210 e229) e244),B245,o254,(SlR.mono e244 s240),(X3 g214),r250⟩ (Nat.lt_succ_self _)).ax ⟨rfl,(congrArg (fun z=>some (Value.int .i64 z)) (X4 (SlR.len s105) g214)),rfl,rfl,rfl,rfl,rfl,rfl,rfl,rfl,rfl,rfl,rfl,trivial⟩;intro hb255;refine .cB r112 (fun c256 r257=>?_) (fun c256 r258=>?_);refine .go 3 ?_;exact(hb255 _ ⟨(1),rfl,r257⟩).ar;refine .go 1 ?_;exact(hb255 _ ⟨(0),rfl,r258⟩).ar;intro hb259;refine .split 93 rfl (fun c260=>?_) (fun c260=>?_);refine .go 3 ?_;exact(hb259 _ rfl).ax ⟨Xq c260,rfl,rfl,rfl,rfl,rfl,rfl,rfl,rfl,rfl,trivial⟩;refine .go 5 ?_;exact(hb259 _ rfl).ax ⟨Xr c260,rfl,rfl,rfl,rfl,rfl,rfl,rfl,rfl,rfl,trivial⟩;intro hb261;refine .split 89 rfl (fun c262=>?_) (fun c262=>?_);refine .go 3 ?_;exact(hb261 _ rfl).ax ⟨Xq c262,rfl,rfl,rfl,rfl,rfl,rfl,rfl,rfl,rfl,rfl,trivial⟩;refine .go 5 ?_;exact(hb261 _ rfl).ax ⟨Xr c262,rfl,rfl,rfl,rfl,rfl,rfl,rfl,rfl,rfl,rfl,trivial⟩;intro hb263;refine .freezeR 1 rfl rfl o84 [_,_] rfl B44 (fun G264 e265 B266 s267=>?_);refine .freezeR 0 rfl rfl (OL.mono e265 o93) [_] rfl B266 (fun G268 e269 B270 s271=>?_);refine .drawL (.q 0 (.q 1 (.q 2 (.q 3 (.q 4 (.q 5 (.q 6 (.q 7 (.alt (.e 8 1 (.alt (.e 9 1 (.q 10 (.q 11 (.q 12 (.q 13 (.e 14 1 (.q 15 (.e 16 1 (.q 17 .nil))))))))) (.e 14 1 (.e 9 1 (.q 10 (.q 11 (.q 12 (.q 13 (.q 15 (.e 16 1 (.q 17 .nil))))))))))) (.e 14 1 (.e 8 1 (.e 9 1 (.q 10 (.q 11 (.q 12 (.q 13 (.q 15 (.e 16 1 (.q 17 .nil))))))))))))))))))) [_,_,_,_] (by kernel_rfl) (by kernel_rfl) (X1 [1,2,3,4] rfl) ?_;obtain⟨u272,hu272,r273⟩:=X0 r86;obtain⟨u274,hu274,r275⟩:=X0 r273;refine .dq (.load_own_a 0 [_,_,_,_] rfl rfl ty44 rfl) rfl (.dq (.load_own_a 2 [_] rfl rfl ty36 rfl) rfl (.go 6 ?_));refine .alt ?_ ?_;refine .callW (b1:=[_]) (b2:=[_,_,_,_]) (s1:=[]) [_,_] [] .d1 rfl rfl Tryz.call14 rfl rfl (Xeg mcs (SlR.mono (HpLe.trans e265 e269) s70) s271 hu272) rfl B270 (fun v276 bo so G277 e278 B279 h280=>?_);obtain⟨a281,k282,a283,k284,rfl,rfl,rfl,s285,s286⟩:=h280;refine .gn 0 ?_;refine .clsL e278 (X1 [1,2,3,4] rfl) ?_;refine .alt ?_ ?_;refine .callW (b1:=[]) (b2:=[_,_,_,_,_]) (s1:=[]) [_,_,_,_,_] [] .d1 rfl rfl Tryz.call13 rfl rfl (Xd1 mcs (SlR.mono (HpLe.trans e269 e278) s267) s285 hu274) rfl B279 (fun v287 bo so G288 e289 B290 h291=>?_)
 obtain⟨a292,k293,a294,k295,rfl,rfl,rfl,s296,s297⟩:=h291;refine .gn 0 ?_;refine .clsL (HpLe.trans e278 e289) (X1 [1,2,3,4] rfl) (.go 4 ?_);refine .alloc .d1 ty54 rfl (fun b298 hb298=>?_);refine .clsL (HpLe.trans e278 e289) (X1 [2,3,4,5] rfl) (.go 1 ?_);refine .store 0 [_,_] [_,_,_,_,_,_] .d1 rfl rfl rfl ty54 rfl rfl rfl rfl (.clsL (HpLe.trans e278 e289) (X1 [2,3,4,5] rfl) (.go 2 ?_));refine .drop 1 0 [_,_,_,_,_] _ rfl rfl ?_;exact(hb263 _ ⟨G288,u76.1,a81,k82,u274.1,a292,k293,u274.2.2,u272.2.1,a283,k284,u272.2.2,rfl,(HpLe.trans (HpLe.trans (HpLe.trans e265 e269) e278) e289),B290,(SlR.mono (HpLe.trans (HpLe.trans e269 e278) e289) s267),s296,(SlR.mono e289 s286),r275⟩).ar;refine .alloc .d1 ty54 rfl (fun b299 hb299=>?_);refine .clsL e278 (X1 [2,3,4,5] rfl) ?_;refine .callW (b1:=[]) (b2:=[_,_,_,_,_,_]) (s1:=[]) [_,_,_,_,_] [] .d1 rfl rfl Tryz.call13 rfl rfl (Xd1 mcs (SlR.mono (HpLe.trans e269 e278) s267) s285 hu274) rfl B279 (fun v300 bo so G301 e302 B303 h304=>?_);obtain⟨a305,k306,a307,k308,rfl,rfl,rfl,s309,s310⟩:=h304;refine .gn 0 ?_;refine .clsL (HpLe.trans e278 e302) (X1 [2,3,4,5] rfl) (.go 5 ?_);refine .store 0 [_,_] [_,_,_,_,_,_] .d1 rfl rfl rfl ty54 rfl rfl rfl rfl (.clsL (HpLe.trans e278 e302) (X1 [2,3,4,5] rfl) (.go 2 ?_));refine .drop 1 0 [_,_,_,_,_] _ rfl rfl ?_;exact(hb263 _ ⟨G301,u76.1,a81,k82,u274.1,a305,k306,u274.2.2,u272.2.1,a283,k284,u272.2.2,rfl,(HpLe.trans (HpLe.trans (HpLe.trans e265 e269) e278) e302),B303,(SlR.mono (HpLe.trans (HpLe.trans e269 e278) e302) s267),s309,(SlR.mono e302 s286),r275⟩).ar;refine .alloc .d1 ty54 rfl (fun b311 hb311=>?_);refine .clsL (HpLe.refl _) (X1 [2,3,4,5] rfl) (.pull 1 rfl [_,_,_,_,_,_] rfl ?_);refine .callW (b1:=[_]) (b2:=[_,_,_,_,_]) (s1:=[]) [_,_] [] .d1 rfl rfl Tryz.call14 rfl rfl (Xeg mcs (SlR.mono (HpLe.trans e265 e269) s70) s271 hu272) rfl B270 (fun v312 bo so G313 e314 B315 h316=>?_);obtain⟨a317,k318,a319,k320,rfl,rfl,rfl,s321,s322⟩:=h316;refine .gn 0 ?_;refine .clsL e314 (X1 [2,3,4,5] rfl) ?_;refine .callW (b1:=[]) (b2:=[_,_,_,_,_,_]) (s1:=[]) [_,_,_,_,_] [] .d1 rfl rfl Tryz.call13 rfl rfl (Xd1 mcs (SlR.mono (HpLe.trans e269 e314) s267) s321 hu274) rfl B315 (fun v323 bo so G324 e325 B326 h327=>?_);obtain⟨a328,k329,a330,k331,rfl,rfl,rfl,s332,s333⟩:=h327;refine .gn 0 ?_;refine .clsL (HpLe.trans e314 e325) (X1 [2,3,4,5] rfl) (.go 5 ?_);refine .store 1 [_,_] [_,_,_,_,_,_] .d1 rfl rfl rfl ty54 rfl rfl rfl rfl (.clsL (HpLe.trans e314 e325) (X1 [2,3,4,5] rfl) (.go 2 ?_))
 refine .pull 5 rfl [_,_,_,_,_,_] rfl (.pull 5 rfl [_,_,_,_,_,_] rfl (.pull 5 rfl [_,_,_,_,_,_] rfl (.pull 5 rfl [_,_,_,_,_,_] rfl (.pull 4 rfl [_,_,_,_,_,_] rfl (.pull 5 rfl [_,_,_,_,_,_] rfl (.drop 1 0 [_,_,_,_,_] _ rfl rfl ?_))))));exact(hb263 _ ⟨G324,u76.1,a81,k82,u274.1,a328,k329,u274.2.2,u272.2.1,a319,k320,u272.2.2,rfl,(HpLe.trans (HpLe.trans (HpLe.trans e265 e269) e314) e325),B326,(SlR.mono (HpLe.trans (HpLe.trans e269 e314) e325) s267),s332,(SlR.mono e325 s322),r275⟩).ar
end Go.Proofs.YtmfppphlhgneeaaGreat
end

section
namespace Go.Proofs.YtmfppphlhgneeaaGreat.Alg
set_option linter.unusedVariables false
def Cg(p a b:Int):Prop:=∃k,a-b=p*k
section
variable{p a b c d x y:Int}
theorem Cg.refl(p a:Int):Cg p a a:=⟨0,by simp⟩
theorem Cg.of(h:a=b):Cg p a b:=h▸Cg.refl p a
theorem Cg.symm(h:Cg p a b):Cg p b a:=by obtain⟨k,h⟩:=h;exact⟨-k,by rw[Int.mul_neg];omega⟩
theorem Cg.trans(h:Cg p a b)(k:Cg p b c):Cg p a c:=by obtain⟨i,h⟩:=h;obtain⟨j,k⟩:=k;exact⟨i+j,by rw[Int.mul_add];omega⟩
theorem Cg.add(h:Cg p a b)(k:Cg p c d):Cg p (a+c) (b+d):=by obtain⟨i,h⟩:=h;obtain⟨j,k⟩:=k;exact⟨i+j,by rw[Int.mul_add];omega⟩
theorem Cg.neg(h:Cg p a b):Cg p (-a) (-b):=by obtain⟨i,h⟩:=h;exact⟨-i,by rw[Int.mul_neg];omega⟩
theorem Cg.sub(h:Cg p a b)(k:Cg p c d):Cg p (a-c) (b-d):=by obtain⟨i,h⟩:=h;obtain⟨j,k⟩:=k;exact⟨i-j,by rw[Int.mul_sub];omega⟩
theorem Cg.mul(h:Cg p a b)(k:Cg p c d):Cg p (a*c) (b*d):=by
 obtain⟨i,h⟩:=h;obtain⟨j,k⟩:=k
 refine⟨i*c+b*j,?_⟩
 have e1:a*c-b*d=(a-b)*c+b*(c-d):=by rw[Int.sub_mul,Int.mul_sub];omega
 rw[e1,h,k,Int.mul_add,Int.mul_assoc,Int.mul_left_comm b p j]
theorem Cg.emod(p a:Int):Cg p (a%p) a:=⟨-(a/p),by have:=Int.emod_add_mul_ediv a p;rw[Int.mul_neg];omega⟩
theorem Cg.tmod(p a:Int):Cg p (Int.tmod a p) a:=⟨-(Int.tdiv a p),by have:=Int.tmod_add_mul_tdiv a p;rw[Int.mul_neg];omega⟩
theorem Cg.p0(p a:Int):Cg p (p*a) 0:=⟨a,by omega⟩
theorem Cg.small(h:Cg p a 0)(h0:0≤a)(h1:a<p):a=0:=by
 obtain⟨k,h⟩:=h
 have hp:0<p:=by omega
 have:k=0:=by
  rcases Int.lt_trichotomy k 0 with hk |hk |hk
  ·have:=Int.mul_le_mul_of_nonneg_left (show k≤ -1 by omega) (Int.le_of_lt hp)
   omega
  ·exact hk
  ·have:=Int.mul_le_mul_of_nonneg_left (show 1≤k by omega) (Int.le_of_lt hp)
   omega
 subst this;omega
theorem Cg.eq(h:Cg p a b)(ha:0≤a)(ha':a<p)(hb:0≤b)(hb':b<p):a=b:=by
 rcases Int.le_total b a with hh |hh
 ·have h2:Cg p (a-b) 0:=by obtain⟨k,h⟩:=h;exact⟨k,by omega⟩
  have:=h2.small (by omega) (by omega);omega
 ·have h2:Cg p (b-a) 0:=by obtain⟨k,h⟩:=h.symm;exact⟨k,by omega⟩
  have:=h2.small (by omega) (by omega);omega
theorem Cg.sub0(h:Cg p a b):Cg p (a-b) 0:=by obtain⟨k,h⟩:=h;exact⟨k,by omega⟩
theorem Cg.of_sub0(h:Cg p (a-b) 0):Cg p a b:=by obtain⟨k,h⟩:=h;exact⟨k,by omega⟩
theorem Cg.dvd_iff:Cg p a 0↔p ∣ a:=⟨fun⟨k,h⟩=>⟨k,by omega⟩,fun⟨k,h⟩=>⟨k,by omega⟩⟩
end
structure Pr(p:Int):Prop where
 two:2≤p
 dom:∀{a b:Int},Cg p (a*b) 0→Cg p a 0∨Cg p b 0
theorem Pr.one{p:Int}(h:Pr p):¬Cg p 1 0:=fun hc=>by have:=hc.small (by omega) (by have:=h.two;omega);omega
def noDiv(n:Nat):Prop:=∀d,2≤d→d*d≤n→n%d≠0
theorem Xjp{n:Nat}(h2:2≤n)(h:noDiv n){a:Nat}(ha:¬n ∣ a):Nat.Coprime n a:=by
 have hg:=Nat.gcd_dvd_left n a
 have hg2:=Nat.gcd_dvd_right n a
 show Nat.gcd n a=1
 generalize Nat.gcd n a=g at hg hg2
 obtain⟨k,hk⟩:=hg
 have hg0:g≠0:=by rintro rfl;simp at hk;omega
 have hk0:k≠0:=by rintro rfl;simp at hk;omega
 have hgn:g≠n:=by rintro rfl;exact ha hg2
 have hk1:k≠1:=by rintro rfl;rw[Nat.mul_one] at hk;exact hgn hk.symm
 apply Classical.byContradiction
 intro hg1
 rcases Nat.le_total g k with hle |hle
 ·have h3:g*g≤n:=by rw[hk];exact Nat.mul_le_mul_left g hle
  exact h g (by omega) h3 (by rw[hk];exact Nat.mul_mod_right g k)
 ·have h3:k*k≤n:=by rw[hk];exact Nat.mul_le_mul_right k hle
  exact h k (by omega) h3 (by rw[hk];exact Nat.mul_mod_left g k)
theorem Pr.of{n:Nat}(h2:2≤n)(h:noDiv n):Pr (n:Int):=⟨by omega,fun {a b} hc=>by
 rw[Cg.dvd_iff] at hc
 rw[Cg.dvd_iff,Cg.dvd_iff]
 by_cases ha:(n:Int) ∣ a
 ·exact .inl ha
 ·refine .inr ?_
  have ha':¬n ∣ a.natAbs:=fun hd=>ha (by exact Int.ofNat_dvd_left.2 hd)
  have hcop:=Xjp h2 h ha'
  rw[Int.ofNat_dvd_left,Int.natAbs_mul] at hc
  rw[Int.ofNat_dvd_left]
  exact hcop.dvd_of_dvd_mul_left hc⟩
def pv:List Int→Int→Int
 | [],_=>0
 |c::l,x=>pv l x*x+c
def gd(l:List Int)(i:Nat):Int:=l.getD i 0
theorem Xpx(i:Nat):gd [] i=0:=rfl
theorem Xlx(c:Int)(l:List Int):gd (c::l) 0=c:=rfl
theorem Xg9(c:Int)(l:List Int)(i:Nat):gd (c::l) (i+1)=gd l i:=rfl
theorem Xds{l:List Int}{i:Nat}(h:l.length≤i):gd l i=0:=by simp [gd,List.getD_eq_getElem?_getD,List.getElem?_eq_none h]
theorem Xnm{l:List Int}{i:Nat}(h:i<l.length):gd l i∈l:=by
 simp only [gd,List.getD_eq_getElem?_getD,List.getElem?_eq_getElem h,Option.getD_some];exact List.getElem_mem h
def Z0(p:Int)(l:List Int):Prop:=∀i,Cg p (gd l i) 0
theorem Z0.cons{p c:Int}{l:List Int}:Z0 p (c::l)↔Cg p c 0∧Z0 p l:=
 ⟨fun h=>⟨h 0,fun i=>h (i+1)⟩,fun h i=>by cases i with |zero=>exact h.1 |succ i=>exact h.2 i⟩
theorem Z0.nil{p:Int}:Z0 p []:=fun i=>Cg.refl p 0
theorem Z0.pv{p:Int}:∀{l:List Int},Z0 p l→∀x,Cg p (pv l x) 0
 | [],_,_=>Cg.refl _ _
 |c::l,h,x=>by
  have:=((Z0.pv (Z0.cons.1 h).2 x).mul (Cg.refl p x)).add (Z0.cons.1 h).1
  simpa [Proofs.YtmfppphlhgneeaaGreat.Alg.pv] using this
def syn:List Int→Int→List Int
 | [],_=>[]
 |c::l,a=>pv (c::l) a::syn l a
theorem Xij(a:Int):∀l,(syn l a).length=l.length
 | []=>rfl
 |c::l=>by simp [syn,Xij a l]
theorem Xpy(a x:Int):∀l,pv l x*x-pv l a*a=(x-a)*pv (syn l a) x
 | []=>by simp [pv,syn]
 |c::l=>by
  have ih:=Xpy a x l
  simp only [pv,syn] at ih ⊢
  generalize pv l x=u at*
  generalize pv l a=v at*
  generalize pv (syn l a) x=w at*
  have e1:(x-a)*(w*x+(v*a+c))=((x-a)*w)*x+(x-a)*(v*a+c):=by rw[Int.mul_add,Int.mul_assoc]
  rw[e1, ← ih]
  simp only [Int.add_mul,Int.mul_add,Int.sub_mul]
  have e2:v*a*x=x*(v*a):=Int.mul_comm _ _
  have e3:v*a*a=a*(v*a):=Int.mul_comm _ _
  have e4:c*x=x*c:=Int.mul_comm _ _
  have e5:c*a=a*c:=Int.mul_comm _ _
  omega
theorem Xpz{p a:Int}:∀{l:List Int},Z0 p (syn l a)→Z0 p l∧Cg p (pv l a) 0
 | [],_=>⟨Z0.nil,Cg.refl _ _⟩
 |c::l,h=>by
  obtain⟨h1,h2⟩:=Z0.cons.1 h
  obtain⟨h3,h4⟩:=Xpz h2
  refine⟨Z0.cons.2 ⟨?_,h3⟩,h1⟩
  have:=h1.sub (h4.mul (Cg.refl p a))
  simp only [pv,Int.zero_mul,Int.sub_zero] at this
  exact(Cg.of (by omega)).trans this
def Apart(p:Int)(xs:List Int):Prop:=xs.Pairwise fun x y=>¬Cg p (x-y) 0
theorem roots{p:Int}(hp:Pr p):∀(l xs:List Int),l.length≤xs.length→Apart p xs→(∀x∈xs,Cg p (pv l x) 0)→Z0 p l
 | [],_,_,_,_=>Z0.nil
 |c::l,[],h,_,_=>by simp at h
 |c::l,a::xs,h,ha,hr=>by
  have hr0:=hr a List.mem_cons_self
  have hs:Z0 p (syn l a):=by
   refine roots hp (syn l a) xs (by rw[Xij];simpa using h) (List.pairwise_cons.1 ha).2 fun x hx=>?_
   have hrx:=hr x (List.mem_cons_of_mem _ hx)
   have h1:=(hrx.sub hr0)
   simp only [pv,Int.sub_zero] at h1
   have h2:Cg p ((x-a)*pv (syn l a) x) 0:=by
    rw[← Xpy]
    exact(Cg.of (by omega)).trans h1
   rcases hp.dom h2 with h3 |h3
   ·exfalso
    refine(List.pairwise_cons.1 ha).1 x hx ?_
    have:=h3.neg
    exact(Cg.of (by omega)).trans this
   ·exact h3
  obtain⟨h1,h2⟩:=Xpz hs
  refine Z0.cons.2 ⟨?_,h1⟩
  have:=hr0.sub (h2.mul (Cg.refl p a))
  simp only [pv,Int.zero_mul,Int.sub_zero] at this
  exact(Cg.of (by omega)).trans this
def padd:List Int→List Int→List Int
 | [],m=>m
 |l,[]=>l
 |a::l,b::m=>(a+b)::padd l m
def psc(c:Int)(l:List Int):List Int:=l.map (c* ·)
def pmul:List Int→List Int→List Int
 | [],_=>[]
 |c::l,m=>padd (psc c m) (0::pmul l m)
theorem X5t:∀l m,(padd l m).length=max l.length m.length
 | [],m=>by simp [padd]
 |a::l,[]=>by simp [padd]
 |a::l,b::m=>by simp [padd,X5t l m]
theorem Xdi:∀(l m:List Int)(i:Nat),gd (padd l m) i=gd l i+gd m i
 | [],m,i=>by simp [padd,Xpx]
 |a::l,[],i=>by simp [padd,Xpx]
 |a::l,b::m,0=>rfl
 |a::l,b::m,i+1=>by simp only [padd,Xg9];exact Xdi l m i
theorem Xd3(x:Int):∀l m,pv (padd l m) x=pv l x+pv m x
 | [],m=>by simp [padd,pv]
 |a::l,[]=>by simp [padd,pv]
 |a::l,b::m=>by simp only [padd,pv];rw[Xd3 x l m,Int.add_mul];omega
theorem Xb7(c:Int)(l:List Int):(psc c l).length=l.length:=by simp [psc]
theorem Xgi(c:Int)(l:List Int)(i:Nat):gd (psc c l) i=c*gd l i:=by
 simp only [gd,psc,List.getD_eq_getElem?_getD,List.getElem?_map]
 cases l[i]?<;>simp
theorem Xg5(c x:Int):∀l,pv (psc c l) x=c*pv l x
 | []=>by simp [psc,pv]
 |a::l=>by
  have:=Xg5 c x l
  simp only [psc,List.map_cons,pv] at this ⊢
  rw[this,Int.mul_add,Int.mul_assoc]
theorem Xga(x:Int)(m:List Int):∀l,pv (pmul l m) x=pv l x*pv m x
 | []=>by simp [pmul,pv]
 |c::l=>by
  simp only [pmul,Xd3,Xg5,pv]
  rw[Xga x m l,Int.add_mul]
  have:pv l x*x*pv m x=pv l x*pv m x*x:=by rw[Int.mul_assoc,Int.mul_comm x, ← Int.mul_assoc]
  omega
theorem Xhc(m:List Int):∀l,(pmul l m).length≤l.length+m.length
 | []=>by simp [pmul]
 |c::l=>by
  have:=Xhc m l
  simp only [pmul,X5t,Xb7,List.length_cons];omega
theorem Xc0(m:List Int)(hm:m≠[]):∀l,l≠[]→(pmul l m).length+1=l.length+m.length
 | [],h=>absurd rfl h
 | [c],_=>by
  have:0<m.length:=List.length_pos_iff.2 hm
  simp only [pmul,X5t,Xb7,List.length_cons,List.length_nil];omega
 |c::d::l,_=>by
  have:=Xc0 m hm (d::l) (by simp)
  have:0<m.length:=List.length_pos_iff.2 hm
  simp only [pmul,X5t,Xb7,List.length_cons] at*;omega
theorem Z0.pmul{p:Int}{m:List Int}:∀{l:List Int},Z0 p l→Z0 p (pmul l m)
 | [],_=>Z0.nil
 |c::l,h=>fun i=>by
  obtain⟨h1,h2⟩:=Z0.cons.1 h
  simp only [Proofs.YtmfppphlhgneeaaGreat.Alg.pmul,Xdi,Xgi]
  have h3:Cg p (gd (0::Proofs.YtmfppphlhgneeaaGreat.Alg.pmul l m) i) 0:=by
   cases i with
   |zero=>exact Cg.refl _ _
   |succ i=>exact Z0.pmul h2 i
  have:=(h1.mul (Cg.refl p (gd m i))).add h3
  simpa using this
theorem Xik{p:Int}{E:List Int}:∀(g:List Int),(∀i,E.length≤i→Cg p (gd (pmul g (E++[1])) i) 0)→Z0 p g
 | [],_=>Z0.nil
 |c::g,h=>by
  have hz:Z0 p g:=Xik (E:=E) g fun i hi=>by
   have:=h (i+1) (by omega)
   simp only [pmul,Xdi,Xgi,Xg9] at this
   rw[Xds (l:=E++[1]) (i:=i+1) (by simp;omega)] at this
   simpa using this
  refine Z0.cons.2 ⟨?_,hz⟩
  have:=h E.length (Nat.le_refl _)
  simp only [pmul,Xdi,Xgi] at this
  have e1:gd (E++[1]) E.length=1:=by simp [gd,List.getD_eq_getElem?_getD]
  have h3:Cg p (gd (0::pmul g (E++[1])) E.length) 0:=by
   cases hE:E.length with
   |zero=>exact Cg.refl _ _
   |succ i=>exact Z0.pmul hz i
  rw[e1,Int.mul_one] at this
  have:=this.sub h3
  exact(Cg.of (by omega)).trans this
end Go.Proofs.YtmfppphlhgneeaaGreat.Alg
end

section
namespace Go.Proofs.YtmfppphlhgneeaaGreat.Alg
set_option linter.unusedVariables false
def sm:Nat→(Nat→Int)→Int
 |0,_=>0
 |n+1,f=>sm n f+f n
theorem X9g{p:Int}:∀{n:Nat}{f g:Nat→Int},(∀i,i<n→Cg p (f i) (g i))→Cg p (sm n f) (sm n g)
 |0,_,_,_=>Cg.refl _ _
 |n+1,f,g,h=>(X9g fun i hi=>h i (by omega)).add (h n (by omega))
theorem Xhd:∀{n:Nat}{f g:Nat→Int},(∀i,i<n→f i=g i)→sm n f=sm n g
 |0,_,_,_=>rfl
 |n+1,f,g,h=>by simp only [sm];rw[Xhd fun i hi=>h i (by omega),h n (by omega)]
theorem Xly(f g:Nat→Int):∀n,sm n (fun i=>f i+g i)=sm n f+sm n g
 |0=>rfl
 |n+1=>by simp only [sm];rw[Xly f g n];omega
theorem Xil(c:Int)(f:Nat→Int):∀n,sm n (fun i=>c*f i)=c*sm n f
 |0=>by simp [sm]
 |n+1=>by simp only [sm];rw[Xil c f n,Int.mul_add]
theorem Xhe:∀n,sm n (fun _=>0)=0
 |0=>rfl
 |n+1=>by simp only [sm];rw[Xhe n];rfl
theorem Xg6(f:Nat→Int)(a:Nat):∀b,sm (a+b) f=sm a f+sm b (fun j=>f (a+j))
 |0=>by simp [sm]
 |b+1=>by rw[← Nat.add_assoc];simp only [sm];rw[Xg6 f a b];omega
theorem Xkr{p:Int}{f:Nat→Int}{q:Nat}:∀{n:Nat},(∀i,i<n→i≠q→Cg p (f i) 0)→q<n→Cg p (sm n f) (f q)
 |0,_,h=>by omega
 |n+1,hf,h=>by
  rcases Nat.lt_or_ge q n with hq |hq
  ·have:=(Xkr (fun i hi hne=>hf i (by omega) hne) hq).add (hf n (by omega) (by omega))
   simpa [sm] using this
  ·have hq':q=n:=by omega
   subst hq'
   have:=(X9g (n:=q) (g:=fun _=>0) fun i hi=>hf i (by omega) (by omega)).add (Cg.refl p (f q))
   rw[Xhe] at this
   simpa [sm] using this
theorem Xnn{p:Int}{f:Nat→Int}{n:Nat}(h:∀i,i<n→Cg p (f i) 0):Cg p (sm n f) 0:=by
 have:=X9g (g:=fun _=>0) h
 rwa [Xhe] at this
theorem Xlz(c x:Int)(f:Nat→Int):∀n,sm (n+1) (fun i=>(match i with |0=>c |j+1=>f j)*x ^ i)=sm n (fun i=>f i*x ^ i)*x+c
 |0=>by simp [sm]
 |n+1=>by
  rw[sm,Xlz c x f n]
  simp only [sm]
  rw[Int.add_mul,Int.pow_succ,Int.mul_assoc (f n) (x ^ n) x]
  omega
theorem Xpd(x:Int):∀l:List Int,pv l x=sm l.length (fun i=>gd l i*x ^ i)
 | []=>rfl
 |c::l=>by
  simp only [pv,List.length_cons]
  rw[Xpd x l, ← Xlz c x (gd l) l.length]
  refine Xhd fun i _=>?_
  cases i<;>rfl
theorem Xrl{f:Nat→Int}{a b:Nat}(h:a≤b)(h0:∀i,a≤i→i<b→f i=0):sm b f=sm a f:=by
 obtain⟨d,rfl⟩:∃d,b=a+d:=⟨b-a,by omega⟩
 rw[Xg6]
 have:sm d (fun j=>f (a+j))=sm d (fun _=>0):=Xhd fun i hi=>h0 _ (by omega) (by omega)
 rw[this,Xhe];omega
theorem Xm0(x:Int){l:List Int}{n:Nat}(h:l.length≤n):pv l x=sm n (fun i=>gd l i*x ^ i):=by
 rw[Xpd,Xrl h]
 intro i hi _
 show gd l i*x ^ i=0
 rw[Xds hi,Int.zero_mul]
def SolM(p:Int)(n m:Nat)(M:Nat→Nat→Int)(z:Nat→Int):Prop:=∀i,i<n→Cg p (sm m (fun j=>M i j*z j)) 0
structure GI(p:Int)(n m:Nat)(M0 M:Nat→Nat→Int)(k r:Nat)(L:Nat→Nat):Prop where
 rn:r≤n
 sol:∀z,SolM p n m M z↔SolM p n m M0 z
 low:∀i,r≤i→i<n→∀j,j<k→Cg p (M i j) 0
 led:∀j,j<k→L j≠0→L j≤r∧∀i,i<n→Cg p (M i j) (if i+1=L j then 1 else 0)
 inj:∀j j',j<k→j'<k→L j≠0→L j=L j'→j=j'
 sur:∀i,i<r→∃j,j<k∧L j=i+1
theorem GI.start(p:Int)(n m:Nat)(M:Nat→Nat→Int)(L:Nat→Nat):GI p n m M M 0 0 L:=
 ⟨Nat.zero_le _,fun _=>Iff.rfl,fun _ _ _ _ h=>absurd h (Nat.not_lt_zero _),fun _ h=>absurd h (Nat.not_lt_zero _),fun _ _ h=>absurd h (Nat.not_lt_zero _),fun _ h=>absurd h (Nat.not_lt_zero _)⟩
section
variable{p:Int}{n m k r:Nat}{M0 M M':Nat→Nat→Int}{L L':Nat→Nat}
theorem GI.skip(h:GI p n m M0 M k r L)(h0:∀i,r≤i→i<n→Cg p (M i k) 0)(hL:∀j,j<k→L' j=L j)(hk:L' k=0):GI p n m M0 M (k+1) r L':=by
 have cs:∀j,j<k+1→j=k∨j<k:=fun j hj=>by omega
 refine⟨h.rn,h.sol,fun i hi hn j hj=>?_,fun j hj hne=>?_,fun j j' hj hj' hne he=>?_,fun i hi=>?_⟩
 ·rcases cs j hj with rfl |hj
  ·exact h0 i hi hn
  ·exact h.low i hi hn j hj
 ·rcases cs j hj with rfl |hj
  ·exact absurd hk hne
  ·rw[hL j hj] at hne ⊢;exact h.led j hj hne
 ·rcases cs j hj with rfl |hj
  ·exact absurd hk hne
  ·rcases cs j' hj' with rfl |hj'
   ·rw[hk] at he;exact absurd he hne
   ·rw[hL j hj] at hne he;rw[hL j' hj'] at he;exact h.inj j j' hj hj' hne he
 ·obtain⟨j,hj,he⟩:=h.sur i hi
  exact⟨j,by omega,by rw[hL j hj];exact he⟩
def swp(a b:Nat)(M:Nat→Nat→Int)(i:Nat):Nat→Int:=if i=a then M b else if i=b then M a else M i
theorem GI.lead(h:GI p n m M0 M k r L)(i0:Nat)(hi0:r≤i0)(hi1:i0<n)(by_:Int)(hby:Cg p (M i0 k*by_) 1)
  (hr:∀j,j<m→Cg p (M' r j) (M i0 j*by_))
  (ho:∀i,i<n→i≠r→∀j,j<m→Cg p (M' i j) (swp r i0 M i j-swp r i0 M i k*M' r j))
  (hkm:k<m) (hL:∀j,j<k→L' j=L j) (hk:L' k=r+1):GI p n m M0 M' (k+1) (r+1) L':=by
 have cs:∀j,j<k+1→j=k∨j<k:=fun j hj=>by omega
 have hrn:r<n:=by omega
 have hsw:∀z,SolM p n m (swp r i0 M) z↔SolM p n m M z:=fun z=>by
  refine⟨fun hs i hi=>?_,fun hs i hi=>?_⟩
  ·by_cases e1:i=r
   ·have:=hs i0 hi1
    by_cases e2:i0=r
    ·rw[e1];rw[e2] at this;simpa [swp,e2] using this
    ·have e3:swp r i0 M i0=M r:=by simp [swp,e2]
     rw[e3] at this;rw[e1];exact this
   ·by_cases e2:i=i0
    ·have:=hs r hrn
     have e3:swp r i0 M r=M i0:=by simp [swp]
     rw[e3] at this;rw[e2];exact this
    ·have:=hs i hi
     have e3:swp r i0 M i=M i:=by simp [swp,e1,e2]
     rw[e3] at this;exact this
  ·by_cases e1:i=r
   ·have e3:swp r i0 M i=M i0:=by simp [swp,e1]
    rw[e3];exact hs i0 hi1
   ·by_cases e2:i=i0
    ·have e3:swp r i0 M i=M r:=by unfold swp;rw[if_neg e1,if_pos e2]
     rw[e3];exact hs r hrn
    ·have e3:swp r i0 M i=M i:=by simp [swp,e1,e2]
     rw[e3];exact hs i hi
 have hsr:swp r i0 M r=M i0:=by simp [swp]
 have s1:∀z:Nat→Int,Cg p (sm m (fun j=>M' r j*z j)) (by_*sm m (fun j=>M i0 j*z j)):=fun z=>by
  rw[← Xil]
  refine X9g fun j hj=>?_
  have:=(hr j hj).mul (Cg.refl p (z j))
  refine this.trans (Cg.of ?_)
  rw[Int.mul_comm (M i0 j),Int.mul_assoc]
 have s2:∀(z:Nat→Int)(i:Nat),i<n→i≠r→Cg p (sm m (fun j=>M' i j*z j)) (sm m (fun j=>swp r i0 M i j*z j)-swp r i0 M i k*sm m (fun j=>M' r j*z j)):=fun z i hi hne=>by
  have e:sm m (fun j=>swp r i0 M i j*z j)-swp r i0 M i k*sm m (fun j=>M' r j*z j)=sm m (fun j=>(swp r i0 M i j*z j)+(- swp r i0 M i k)*(M' r j*z j)):=by
   rw[Xly (fun j=>swp r i0 M i j*z j) (fun j=>(- swp r i0 M i k)*(M' r j*z j)),Xil,Int.neg_mul];omega
  rw[e]
  refine X9g fun j hj=>?_
  refine((ho i hi hne j hj).mul (Cg.refl p (z j))).trans (Cg.of ?_)
  rw[Int.sub_mul,Int.neg_mul,Int.mul_assoc];omega
 have hM'r:∀j,j<m→Cg p (M' r j) (swp r i0 M r j*by_):=fun j hj=>by rw[hsr];exact hr j hj
 have kr:Cg p (M' r k) 1:=(hr k hkm).trans hby
 have ko:∀i,i<n→i≠r→Cg p (M' i k) 0:=fun i hi hne=>by
  refine(ho i hi hne k hkm).trans ?_
  have:=(Cg.refl p (swp r i0 M i k)).sub ((Cg.refl p (swp r i0 M i k)).mul kr)
  refine this.trans (Cg.of ?_)
  rw[Int.mul_one];omega
 have swlow:∀i,r≤i→i<n→∀j,j<k→Cg p (swp r i0 M i j) 0:=fun i hi hn j hj=>by
  unfold swp
  split
  ·exact h.low i0 hi0 hi1 j hj
  ·split
   ·exact h.low r (Nat.le_refl _) hrn j hj
   ·exact h.low i hi hn j hj
 have r0:∀j,j<k→Cg p (M' r j) 0:=fun j hj=>by
  have:=(h.low i0 hi0 hi1 j hj).mul (Cg.refl p by_)
  rw[Int.zero_mul] at this
  exact(hr j (by omega)).trans this
 have oj:∀i,i<n→i≠r→∀j,j<k→Cg p (M' i j) (swp r i0 M i j):=fun i hi hne j hj=>by
  refine(ho i hi hne j (by omega)).trans ?_
  have:=(Cg.refl p (swp r i0 M i j)).sub ((Cg.refl p (swp r i0 M i k)).mul (r0 j hj))
  refine this.trans (Cg.of ?_)
  rw[Int.mul_zero];omega
 refine⟨hrn,fun z=>?_,fun i hi hn j hj=>?_,fun j hj hne=>?_,fun j j' hj hj' hne he=>?_,fun i hi=>?_⟩
 ·rw[← h.sol, ← hsw]
  refine⟨fun hs=>?_,fun hs=>?_⟩
  ·have hfirst:Cg p (sm m (fun j=>M i0 j*z j)) 0:=by
    have h1:=hs r hrn
    have h2:=(Cg.refl p (M i0 k)).mul (h1.symm.trans (s1 z))
    rw[Int.mul_zero, ← Int.mul_assoc] at h2
    have h3:=hby.mul (Cg.refl p (sm m (fun j=>M i0 j*z j)))
    rw[Int.one_mul] at h3
    exact(h2.trans h3).symm
   intro i hi
   by_cases e1:i=r
   ·rw[e1,hsr];exact hfirst
   ·have h1:=s2 z i hi e1
    have h2:=(Cg.refl p (swp r i0 M i k)).mul (hs r hrn)
    rw[Int.mul_zero] at h2
    have h3:=(hs i hi).symm.trans h1
    have h4:=h3.symm.add h2
    exact(Cg.of (by omega)).trans h4
  ·have h0:Cg p (sm m (fun j=>M' r j*z j)) 0:=by
    have h1:=hs r hrn
    rw[hsr] at h1
    have h2:=(Cg.refl p by_).mul h1
    rw[Int.mul_zero] at h2
    exact(s1 z).trans h2
   intro i hi
   by_cases e1:i=r
   ·rw[e1];exact h0
   ·have h2:=(hs i hi).sub ((Cg.refl p (swp r i0 M i k)).mul h0)
    rw[Int.mul_zero] at h2
    exact(s2 z i hi e1).trans h2
 ·rcases cs j hj with rfl |hj
  ·exact ko i hn (by omega)
  ·exact(oj i hn (by omega) j hj).trans (swlow i (by omega) hn j hj)
 ·rcases cs j hj with rfl |hj
  ·rw[hk]
   refine⟨Nat.le_refl _,fun i hi=>?_⟩
   by_cases e1:i=r
   ·rw[e1,if_pos rfl];exact kr
   ·rw[if_neg (by omega)];exact ko i hi e1
  ·rw[hL j hj] at hne ⊢
   obtain⟨h1,h2⟩:=h.led j hj hne
   refine⟨by omega,fun i hi=>?_⟩
   by_cases e1:i=r
   ·rw[e1,if_neg (by omega)];exact r0 j hj
   ·refine(oj i hi e1 j hj).trans ?_
    by_cases e2:i=i0
    ·have:¬(i+1=L j):=by omega
     rw[if_neg this];exact swlow i (by omega) hi j hj
    ·have e3:swp r i0 M i=M i:=by simp [swp,e1,e2]
     rw[e3];exact h2 i hi
 ·rcases cs j hj with rfl |hj
  ·rcases cs j' hj' with rfl |hj'
   ·rfl
   ·rw[hk,hL j' hj'] at he
    have:=(h.led j' hj' (by omega)).1
    omega
  ·rcases cs j' hj' with rfl |hj'
   ·rw[hk,hL j hj] at he
    rw[hL j hj] at hne
    have:=(h.led j hj hne).1
    omega
   ·rw[hL j hj] at hne he;rw[hL j' hj'] at he;exact h.inj j j' hj hj' hne he
 ·by_cases e1:i=r
  ·exact⟨k,by omega,by rw[hk,e1]⟩
  ·obtain⟨j,hj,he⟩:=h.sur i (by omega)
   exact⟨j,by omega,by rw[hL j hj];exact he⟩
theorem GI.right{c:Nat}(h:GI p n (c+1) M0 M c r L){x:Nat→Int}(hx:SolM p n (c+1) M0 x)(h1:x c= -1):∀i,r≤i→i<n→Cg p (M i c) 0:=fun i hi hn=>by
 have:=(h.sol x).2 hx i hn
 simp only [sm] at this
 have h0:Cg p (sm c (fun j=>M i j*x j)) 0:=Xnn fun j hj=>by
  have:=(h.low i hi hn j hj).mul (Cg.refl p (x j))
  rwa [Int.zero_mul] at this
 rw[h1] at this
 have h2:=(h0.sub this)
 exact(Cg.of (by omega)).trans h2
theorem GI.solves{c:Nat}(h:GI p n (c+1) M0 M c r L)(hz:∀i,r≤i→i<n→Cg p (M i c) 0){x:Nat→Int}(hx:∀j,j<c→Cg p (x j) (if L j=0 then 0 else M (L j-1) c))(h1:x c= -1):SolM p n (c+1) M0 x:=by
 rw[← h.sol]
 intro i hi
 simp only [sm]
 rcases Nat.lt_or_ge i r with hr |hr
 ·obtain⟨q,hq,he⟩:=h.sur i hr
  have h0:Cg p (sm c (fun j=>M i j*x j)) (M i q*x q):=Xkr (fun j hj hne=>by
   by_cases hl:L j=0
   ·have:=(Cg.refl p (M i j)).mul (hx j hj)
    rw[if_pos hl,Int.mul_zero] at this;exact this
   ·have h2:=(h.led j hj hl).2 i hi
    rw[if_neg (fun e=>hne (h.inj j q hj hq hl (by omega)))] at h2
    have:=h2.mul (Cg.refl p (x j))
    rw[Int.zero_mul] at this;exact this) hq
  have h2:=(h.led q hq (by omega)).2 i hi
  rw[if_pos he.symm] at h2
  have h3:=hx q hq
  rw[if_neg (by omega),he,Nat.add_sub_cancel] at h3
  have h4:=h0.trans (h2.mul h3)
  rw[h1]
  have h5:=h4.sub (Cg.refl p (M i c))
  exact(Cg.of (by omega)).trans (h5.trans (Cg.of (by omega)))
 ·have h0:Cg p (sm c (fun j=>M i j*x j)) 0:=Xnn fun j hj=>by
   have:=(h.low i hr hi j hj).mul (Cg.refl p (x j))
   rwa [Int.zero_mul] at this
  rw[h1]
  have h5:=h0.sub (hz i hr hi)
  exact(Cg.of (by omega)).trans h5
end
end Go.Proofs.YtmfppphlhgneeaaGreat.Alg
end

section
namespace Go.Proofs.YtmfppphlhgneeaaGreat.Alg
set_option linter.unusedVariables false
theorem Xjq(c x:Int):∀l:List Int,pv (l++[c]) x=pv l x+c*x ^ l.length
 | []=>by simp [pv]
 |a::l=>by
  simp only [List.cons_append,pv,List.length_cons]
  rw[Xjq c x l,Int.add_mul,Int.pow_succ,Int.mul_assoc];omega
theorem Xf5(x:Int):∀m,pv (List.replicate m 0) x=0
 |0=>rfl
 |m+1=>by simp only [List.replicate_succ,pv,Xf5 x m];simp
def lin(a:Int)(E:List Int):List Int:=padd (0::E) (psc (-a) (E++[1]))
theorem Xim(a:Int)(E:List Int):(lin a E).length=E.length+1:=by simp [lin,X5t,Xb7]
theorem Xtd(a x:Int)(E:List Int):pv (lin a E++[1]) x=(x-a)*pv (E++[1]) x:=by
 rw[Xjq,Xim,lin,Xd3,Xg5]
 simp only [pv]
 rw[Xjq,Int.pow_succ,Int.sub_mul]
 generalize pv E x=u
 generalize x ^ E.length=v
 rw[Int.mul_add x u,Int.mul_comm x u,Int.one_mul,Int.neg_mul,Int.mul_comm x v];omega
def loc(m:Nat):List Int→List Int
 | []=>List.replicate m 0
 |a::T=>lin a (loc m T)
theorem Xgb(m:Nat):∀T,(loc m T).length=m+T.length
 | []=>by simp [loc]
 |a::T=>by simp [loc,Xim,Xgb m T];omega
theorem Xm1(m:Nat){x:Int}:∀{T:List Int},x∈T→pv (loc m T++[1]) x=0
 |a::T,h=>by
  rw[loc,Xtd]
  rcases List.mem_cons.1 h with rfl |h
  ·rw[Int.sub_self,Int.zero_mul]
  ·rw[Xm1 m h,Int.mul_zero]
def bad(p:Int)(f:List Int)(q:Int×Int):Bool:=decide ((pv f q.1-q.2)%p≠0)
theorem Xhf{p:Int}{f:List Int}{q:Int×Int}(h:bad p f q=false):Cg p (pv f q.1) q.2:=by
 unfold bad at h
 have h:(pv f q.1-q.2)%p=0:=by simpa using h
 exact Cg.of_sub0 (Cg.dvd_iff.2 (Int.dvd_of_emod_eq_zero h))
theorem Xjr{p:Int}{f:List Int}{q:Int×Int}(h:bad p f q=true):¬Cg p (pv f q.1) q.2:=fun hc=>by
 unfold bad at h
 have h:(pv f q.1-q.2)%p≠0:=by simpa using h
 exact h (Int.emod_eq_zero_of_dvd (Cg.dvd_iff.1 hc.sub0))
def keyRow(k v:Nat)(q:Int×Int)(j:Nat):Int:=if j<k+v then q.1 ^ j else if j<k+v+v then -(q.2*q.1 ^ (j-(k+v))) else q.2*q.1 ^ v
def keySol(k v:Nat)(Q E:List Int)(j:Nat):Int:=if j<k+v then gd Q j else if j<k+v+v then gd E (j-(k+v)) else -1
theorem Xno(k v:Nat)(Q E:List Int)(hQ:Q.length≤k+v)(hE:E.length=v)(q:Int×Int):
  sm (k+v+v+1) (fun j=>keyRow k v q j*keySol k v Q E j)=pv Q q.1-q.2*pv (E++[1]) q.1:=by
 rw[sm,Xg6]
 have e1:sm (k+v) (fun j=>keyRow k v q j*keySol k v Q E j)=pv Q q.1:=by
  rw[Xm0 q.1 hQ]
  refine Xhd fun j hj=>?_
  simp only [keyRow,keySol,if_pos hj]
  exact Int.mul_comm _ _
 have e2:sm v (fun j=>keyRow k v q (k+v+j)*keySol k v Q E (k+v+j))=(-q.2)*pv E q.1:=by
  rw[Xpd,hE, ← Xil]
  refine Xhd fun j hj=>?_
  have h1:¬(k+v+j<k+v):=by omega
  have h2:k+v+j<k+v+v:=by omega
  have h3:k+v+j-(k+v)=j:=by omega
  simp only [keyRow,keySol,if_neg h1,if_pos h2,h3]
  rw[Int.neg_mul,Int.neg_mul,Int.mul_comm (gd E j),Int.mul_assoc]
 have e3:keyRow k v q (k+v+v)*keySol k v Q E (k+v+v)= -(q.2*q.1 ^ v):=by
  have h1:¬(k+v+v<k+v):=by omega
  have h2:¬(k+v+v<k+v+v):=by omega
  simp only [keyRow,keySol,if_neg h1,if_neg h2]
  omega
 rw[e1,e2,e3,Xjq,hE,Int.one_mul,Int.mul_add,Int.neg_mul];omega
section
variable{p:Int}{f:List Int}{K:List (Int×Int)}{k v:Nat}
theorem Xks(hf:f.length≤k)(hw:(K.filter (bad p f)).length≤v):
  ∃Q E:List Int,Q.length≤k+v∧E.length=v∧∀q∈K,Cg p (pv Q q.1-q.2*pv (E++[1]) q.1) 0:=by
 refine⟨pmul f (loc (v-(K.filter (bad p f)).length) ((K.filter (bad p f)).map (·.1))++[1]),loc (v-(K.filter (bad p f)).length) ((K.filter (bad p f)).map (·.1)),?_,?_,fun q hq=>?_⟩
 ·have h1:=Xgb (v-(K.filter (bad p f)).length) ((K.filter (bad p f)).map (·.1))
  rw[List.length_map] at h1
  by_cases hf0:f=[]
  ·subst hf0;simp [pmul]
  ·have:=Xc0 (loc (v-(K.filter (bad p f)).length) ((K.filter (bad p f)).map (·.1))++[1]) (by simp) f hf0
   simp only [List.length_append,List.length_cons,List.length_nil] at this
   omega
 ·rw[Xgb,List.length_map];omega
 ·rw[Xga]
  cases hb:bad p f q with
  |true=>
   rw[Xm1 _ (List.mem_map.2 ⟨q,List.mem_filter.2 ⟨hq,hb⟩,rfl⟩)]
   simp;exact Cg.refl _ _
  |false=>
   have:=((Xhf hb).mul (Cg.refl p (pv (loc (v-(K.filter (bad p f)).length) ((K.filter (bad p f)).map (·.1))++[1]) q.1))).sub0
   exact this
theorem Xin{α:Type}(b:α→Bool):∀l:List α,(l.filter b).length+(l.filter (fun x=> !b x)).length=l.length
 | []=>rfl
 |a::l=>by
  have:=Xin b l
  cases h:b a<;>simp [h]<;>omega
theorem Xmx(hp:Pr p)(hf:f.length≤k)(hw:(K.filter (bad p f)).length≤v)(hK:k+2*v≤K.length)(ha:Apart p (K.map (·.1)))
  {Q E:List Int} (hQ:Q.length≤k+v) (hE:E.length=v) (hs:∀q∈K,Cg p (pv Q q.1-q.2*pv (E++[1]) q.1) 0):
  Z0 p (padd Q (psc (-1) (pmul f (E++[1])))):=by
 have hlen:=Xin (bad p f) K
 have hpl:(pmul f (E++[1])).length≤k+v:=by
  by_cases hf0:f=[]
  ·subst hf0;simp [pmul]
  ·have:=Xc0 (E++[1]) (by simp) f hf0
   simp only [List.length_append,List.length_cons,List.length_nil] at this
   omega
 refine roots hp _ ((K.filter (fun q=> !bad p f q)).map (·.1)) ?_ ?_ fun x hx=>?_
 ·rw[X5t,Xb7,List.length_map];omega
 ·exact List.Pairwise.sublist (List.Sublist.map _ List.filter_sublist) ha
 ·obtain⟨q,hq,rfl⟩:=List.mem_map.1 hx
  obtain⟨hq1,hq2⟩:=List.mem_filter.1 hq
  have hb:bad p f q=false:=by simpa using hq2
  rw[Xd3,Xg5,Xga]
  have h1:=hs q hq1
  have h2:=((Xhf hb).mul (Cg.refl p (pv (E++[1]) q.1))).sub0
  have:=h1.sub h2
  exact(Cg.of (by omega)).trans this
theorem Xlh(hp:Pr p)(hf:f.length≤k)(hK:k+v≤K.length)(ha:Apart p (K.map (·.1)))
  {Q E g r:List Int} (hE:E.length=v) (hz:Z0 p (padd Q (psc (-1) (pmul f (E++[1])))))
  (hg:g.length≤k) (hr:r.length≤v) (hd:∀x,Cg p (pv Q x) (pv g x*pv (E++[1]) x+pv r x)):
  Z0 p (padd f (psc (-1) g))∧Z0 p r:=by
 have hD:∀x,Cg p (pv (padd (pmul (padd f (psc (-1) g)) (E++[1])) (psc (-1) r)) x) 0:=fun x=>by
  have h1:=(hd x)
  have h2:=hz.pv x
  rw[Xd3,Xg5,Xga] at h2
  rw[Xd3,Xg5,Xga,Xd3,Xg5,Int.add_mul,Int.mul_assoc]
  have h3:=h1.sub h2
  generalize pv f x*pv (E++[1]) x=A at*
  generalize pv g x*pv (E++[1]) x=B at*
  have h4:=h3.sub0
  exact(Cg.of (by omega)).trans h4
 have hpl:(pmul (padd f (psc (-1) g)) (E++[1])).length≤k+v:=by
  by_cases hf0:padd f (psc (-1) g)=[]
  ·rw[hf0];simp [pmul]
  ·have:=Xc0 (E++[1]) (by simp) _ hf0
   rw[X5t,Xb7] at this
   simp only [List.length_append,List.length_cons,List.length_nil] at this
   omega
 have hZ:Z0 p (padd (pmul (padd f (psc (-1) g)) (E++[1])) (psc (-1) r)):=by
  refine roots hp _ (K.map (·.1)) ?_ ha fun x _=>hD x
  rw[X5t,Xb7,List.length_map];omega
 have h1:Z0 p (padd f (psc (-1) g)):=Xik (E:=E) _ fun i hi=>by
  have:=hZ i
  rw[Xdi,Xgi,Xds (l:=r) (by omega)] at this
  simpa using this
 refine⟨h1,fun i=>?_⟩
 have h2:=hZ i
 have h3:=Z0.pmul (m:=E++[1]) h1 i
 rw[Xdi,Xgi] at h2
 have:=h3.sub h2
 exact(Cg.of (by omega)).trans this
end
end Go.Proofs.YtmfppphlhgneeaaGreat.Alg
end

section
namespace Go.Proofs.YtmfppphlhgneeaaGreat
set_option linter.unusedVariables false
def X6j(rec9999:((List (List Int))×(List Int)×(List Bool))→Int→(List Bool)→Option (Bool×(List Int)×(List Bool)))(z130:Int)(z133:List (List Int))(z134:List Bool)(rec112:(List Bool)→(List Int)→Option (Bool×(List Int)×(List Bool)))(x136:Int)(v116:List Bool)(v122:List Int):Option (Bool×(List Int)×(List Bool)):=
 (lidx v116 x136).bind fun u141=>(if(u141=true) then(some true) else(lidx z134 x136).bind fun u226=>some u226).bind fun u153=>if(u153=true) then(rec112 v116 v122) else
(lidx v122 x136).bind fun u161=>if(u161<0) then((lidx v122 x136).bind fun u168=>(lupd v122 x136 z130).bind fun u173=>some (true,u173,v116)) else
(lidx v116 x136).bind fun u180=>(lupd v116 x136 true).bind fun u185=>(lidx v122 x136).bind fun u191=>(rec9999 (z133,v122,z134) u191 u185).bind fun u196=>if(u196.1=true) then((lidx u196.2.1 x136).bind fun u212=>(lupd u196.2.1 x136 z130).bind fun u217=>some (true,u217,u196.2.2)) else
 rec112 u196.2.2 u196.2.1
def Xk(rec9999:((List (List Int))×(List Int)×(List Bool))→Int→(List Bool)→Option (Bool×(List Int)×(List Bool)))(z130:Int)(z133:List (List Int))(z134:List Bool):(List Int)→(List Bool)→(List Int)→Option (Bool×(List Int)×(List Bool))
 | [],v116,v122=>some (false,v122,v116)
 |x136::xs,v116,v122=>X6j rec9999 z130 z133 z134 (Xk rec9999 z130 z133 z134 xs) x136 v116 v122
def X6k(rec9999:((List (List Int))×(List Int)×(List Bool))→Int→(List Bool)→Option (Bool×(List Int)×(List Bool)))(x0:((List (List Int))×(List Int)×(List Bool)))(x1:Int)(x2:(List Bool)):Option (Bool×(List Int)×(List Bool)):=
 (lidx x0.1 x1).bind fun u4=>Xk rec9999 x1 x0.1 x0.2.2 u4 x2 x0.2.1
def Xd:Nat→((List (List Int))×(List Int)×(List Bool))→Int→(List Bool)→Option (Bool×(List Int)×(List Bool))
 |0,_,_,_=>none
 |n+1,x0,x1,x2=>X6k (Xd n) x0 x1 x2
end Go.Proofs.YtmfppphlhgneeaaGreat
end

section
namespace Go.Proofs.YtmfppphlhgneeaaGreat
theorem Xkt{y:Int}(h:y≠0):nz y=some ():=by unfold nz;rw[if_neg h]
theorem Xec{α:Type}{l:List α}{i:Int}(d:α)(h0:0≤i)(h1:i<l.length):lidx l i=some (l.getD i.toNat d):=by
 refine Xnc h0 ?_
 rw[List.getD_eq_getElem?_getD]
 have:i.toNat<l.length:=by omega
 simp [this]
theorem Xbg{α:Type}{l:List α}{i:Nat}(d:α)(h1:i<l.length):lidx l (i:Int)=some (l.getD i d):=by
 rw[Xec d (by omega) (by omega),Int.toNat_natCast]
theorem Xe{α:Type}{l m:List α}(h:l.length+m.length≤16777216):lapp l m=some (l++m):=by unfold lapp;rw[if_pos h]
theorem Xas{α:Type}{l:List α}{i j:Int}(h0:0≤i)(h1:i≤j)(h2:j≤l.length):lsub l i j=some ((l.drop i.toNat).take (j-i).toNat):=by unfold lsub;rw[if_pos ⟨h0,h1,h2⟩]
theorem X67{α:Type}{l:List α}{i:Int}{y:α}(h0:0≤i)(h1:i<l.length):lupd l i y=some (l.set i.toNat y):=by unfold lupd;rw[if_pos ⟨h0,h1⟩]
end Go.Proofs.YtmfppphlhgneeaaGreat
end

section
namespace Go.Proofs.YtmfppphlhgneeaaGreat.Hh
set_option linter.unusedVariables false
open Alg (Cg Pr)
open Alg (Cg Pr)
def Fd(p:Int):Prop:=p=2∨p=3∨p=5∨p=7∨p=11∨p=13∨p=17∨p=257∨p=65521
theorem Fd.rng{p:Int}(h:Fd p):2≤p∧p≤65521:=by unfold Fd at h;omega
theorem Xce{n:Nat}(h:n<65536)(hc:(List.range 256).all (fun d=>decide (d<2) || decide (n<d*d) || decide (n%d≠0))=true):Alg.noDiv n:=fun d h2 hd=>by
 have hd2:d<256:=by
  rcases Nat.lt_or_ge d 256 with h3 |h3
  ·exact h3
  ·have:=Nat.mul_le_mul h3 h3;omega
 have:=List.all_eq_true.1 hc d (List.mem_range.2 hd2)
 simp only [Bool.or_eq_true,decide_eq_true_eq] at this
 omega
theorem Fd.pr{p:Int}(h:Fd p):Pr p:=by
 rcases h with rfl |rfl |rfl |rfl |rfl |rfl |rfl |rfl |rfl
 ·exact Pr.of (n:=2) (by omega) (Xce (by omega) (by kernel_rfl))
 ·exact Pr.of (n:=3) (by omega) (Xce (by omega) (by kernel_rfl))
 ·exact Pr.of (n:=5) (by omega) (Xce (by omega) (by kernel_rfl))
 ·exact Pr.of (n:=7) (by omega) (Xce (by omega) (by kernel_rfl))
 ·exact Pr.of (n:=11) (by omega) (Xce (by omega) (by kernel_rfl))
 ·exact Pr.of (n:=13) (by omega) (Xce (by omega) (by kernel_rfl))
 ·exact Pr.of (n:=17) (by omega) (Xce (by omega) (by kernel_rfl))
 ·exact Pr.of (n:=257) (by omega) (Xce (by omega) (by kernel_rfl))
 ·exact Pr.of (n:=65521) (by omega) (Xce (by omega) (by kernel_rfl))
def E1(p a:Int):Prop:=0≤a∧a<p
instance (p a:Int):Decidable (E1 p a):=inferInstanceAs (Decidable (0≤a∧a<p))
def El(p:Int)(l:List Int):Prop:=∀x∈l,E1 p x
instance (p:Int) (l:List Int):Decidable (El p l):=inferInstanceAs (Decidable (∀x∈l,E1 p x))
theorem El.nil{p:Int}:El p []:=fun x h=>by cases h
theorem El.cons{p a:Int}{l:List Int}:El p (a::l)↔E1 p a∧El p l:=by unfold El;simp
theorem El.app{p:Int}{l m:List Int}(h:El p l)(h2:El p m):El p (l++m):=fun x hx=>(List.mem_append.1 hx).elim (h x) (h2 x)
theorem E1.emod{p:Int}(hp:2≤p)(a:Int):E1 p (a%p):=⟨Int.emod_nonneg _ (by omega),Int.emod_lt_of_pos _ (by omega)⟩
theorem El.gd{p:Int}(hp:2≤p){l:List Int}(h:El p l)(i:Nat):E1 p (Alg.gd l i):=by
 rcases Nat.lt_or_ge i l.length with hi |hi
 ·exact h _ (Alg.Xnm hi)
 ·rw[Alg.Xds hi];exact⟨by omega,by omega⟩
section
variable{p:Int}(hp:2≤p∧p≤65521)
include hp
theorem nzp:nz p=some ():=by unfold nz;rw[if_neg (by omega)]
theorem Xnp{a b:Int}(ha:E1 p a)(hb:E1 p b):0≤a*b∧a*b≤4293001441:=by
 refine⟨Int.mul_nonneg ha.1 hb.1,?_⟩
 have h1:a*b≤65521*b:=Int.mul_le_mul_of_nonneg_right (by have:=ha.2;omega) hb.1
 have:=hb.2
 omega
end
def at_(p x:Int)(t l:List Int):List Int:=List.zipWith (fun a b=>(a+x*b%p)%p) t l
theorem Xeh{p x:Int}{t l:List Int}(h:t.length=l.length):(at_ p x t l).length=t.length:=by simp [at_,h]
theorem Xnq{p x:Int}(hp:2≤p)(t l:List Int):El p (at_ p x t l):=fun y hy=>by
 unfold at_ at hy
 obtain⟨i,hi,rfl⟩:=List.getElem_of_mem hy
 rw[List.getElem_zipWith]
 exact E1.emod hp _
theorem Xrm{p x:Int}{t l:List Int}(h:t.length=l.length)(i:Nat):Cg p (Alg.gd (at_ p x t l) i) (Alg.gd t i+x*Alg.gd l i):=by
 rcases Nat.lt_or_ge i t.length with hi |hi
 ·have hi2:i<l.length:=by omega
  have e:Alg.gd (at_ p x t l) i=(t[i]+x*l[i]%p)%p:=by
   simp [Alg.gd,at_,List.getD_eq_getElem?_getD,List.getElem?_zipWith,hi,hi2]
  rw[e,show Alg.gd t i=t[i] by simp [Alg.gd,List.getD_eq_getElem?_getD,hi],show Alg.gd l i=l[i] by simp [Alg.gd,List.getD_eq_getElem?_getD,hi2]]
  exact(Cg.emod p _).trans ((Cg.refl p _).add (Cg.emod p _))
 ·rw[Alg.Xds (l:=at_ p x t l) (by rw[Xeh h];exact hi),Alg.Xds hi,Alg.Xds (by omega:l.length≤i)]
  exact Cg.of (by simp)
theorem El.ext{p:Int}(hp:2≤p){l m:List Int}(hl:El p l)(hm:El p m)(h:l.length=m.length)(hc:∀i,i<l.length→Cg p (Alg.gd l i) (Alg.gd m i)):l=m:=by
 refine List.ext_getElem h fun i h1 h2=>?_
 have:=hc i h1
 rw[show Alg.gd l i=l[i] by simp [Alg.gd,List.getD_eq_getElem?_getD,h1],show Alg.gd m i=m[i] by simp [Alg.gd,List.getD_eq_getElem?_getD,h2]] at this
 have a:=hl _ (List.getElem_mem h1);have b:=hm _ (List.getElem_mem h2)
 exact this.eq a.1 a.2 b.1 b.2
def Rw(p:Int)(w:Nat)(R:List (List Int)):Prop:=∀r∈R,r.length=w∧El p r
theorem Rw.cons{p:Int}{w:Nat}{r:List Int}{R:List (List Int)}:Rw p w (r::R)↔(r.length=w∧El p r)∧Rw p w R:=by unfold Rw;simp
def gr(R:List (List Int))(i:Nat):List Int:=R.getD i []
def comb(p:Int):List Int→List (List Int)→List Int→List Int
 |_,[],t=>t
 |c,r::R,t=>comb p c.tail R (at_ p (Alg.gd c 0) t r)
theorem Xnr{p:Int}(hp:2≤p){w:Nat}:∀(R:List (List Int))(c t:List Int),Rw p w R→t.length=w→El p t→
  (comb p c R t).length=w∧El p (comb p c R t)∧∀j,Cg p (Alg.gd (comb p c R t) j) (Alg.gd t j+Alg.sm R.length (fun i=>Alg.gd c i*Alg.gd (gr R i) j))
 | [],c,t,_,h2,h3=>⟨h2,h3,fun j=>Cg.of (by simp [comb,Alg.sm])⟩
 |r::R,c,t,h1,h2,h3=>by
  obtain⟨⟨a,b⟩,h1⟩:=Rw.cons.1 h1
  obtain⟨i1,i2,i3⟩:=Xnr hp (w:=w) R c.tail (at_ p (Alg.gd c 0) t r) h1 (by rw[Xeh (by omega)];exact h2) (Xnq hp _ _)
  refine⟨i1,i2,fun j=>(i3 j).trans ?_⟩
  have e:=Alg.Xg6 (fun i=>Alg.gd c i*Alg.gd (gr (r::R) i) j) 1 R.length
  rw[show(r::R).length=1+R.length by simp;omega,e]
  have e2:Alg.sm 1 (fun i=>Alg.gd c i*Alg.gd (gr (r::R) i) j)=Alg.gd c 0*Alg.gd r j:=by simp [Alg.sm,gr]
  have e3:(fun i=>Alg.gd c (1+i)*Alg.gd (gr (r::R) (1+i)) j)=fun i=>Alg.gd c.tail i*Alg.gd (gr R i) j:=by
   funext i
   have e4:Alg.gd c (1+i)=Alg.gd c.tail i:=by cases c<;>simp [Alg.gd,Nat.add_comm]
   rw[e4,Nat.add_comm];rfl
  rw[e2,e3, ← Int.add_assoc]
  exact(Xrm (by omega) j).add (Cg.refl p _)
theorem X9h{p:Int}(hp:2≤p)(n:Nat):El p (List.replicate n 0):=fun x hx=>by rw[(List.mem_replicate.1 hx).2];exact⟨by omega,by omega⟩
theorem Xcf(n i:Nat):Alg.gd (List.replicate n 0) i=0:=by
 rcases Nat.lt_or_ge i n with h |h
 ·simp [Alg.gd,List.getD_eq_getElem?_getD,h]
 ·exact Alg.Xds (by simpa using h)
theorem lmk_ok{α:Type}{n:Nat}(x:α)(h:n≤16777216):lmk (n:Int) x=some (List.replicate n x):=by unfold lmk;rw[if_pos ⟨by omega,by omega⟩];simp
open Alg (Cg Pr)
def sumr(p:Int):List (List Int)→List Int→List Int
 | [],t=>t
 |r::R,t=>sumr p R (at_ p 1 t r)
theorem Xns{p:Int}(hp:2≤p){w:Nat}:∀(R:List (List Int))(t:List Int),Rw p w R→t.length=w→El p t→
  (sumr p R t).length=w∧El p (sumr p R t)∧∀j,Cg p (Alg.gd (sumr p R t) j) (Alg.gd t j+Alg.sm R.length (fun i=>Alg.gd (gr R i) j))
 | [],t,_,h2,h3=>⟨h2,h3,fun j=>Cg.of (by simp [sumr,Alg.sm])⟩
 |r::R,t,h1,h2,h3=>by
  obtain⟨⟨a,b⟩,h1⟩:=Rw.cons.1 h1
  obtain⟨i1,i2,i3⟩:=Xns hp (w:=w) R (at_ p 1 t r) h1 (by rw[Xeh (by omega)];exact h2) (Xnq hp _ _)
  refine⟨i1,i2,fun j=>(i3 j).trans ?_⟩
  have e:=Alg.Xg6 (fun i=>Alg.gd (gr (r::R) i) j) 1 R.length
  rw[show(r::R).length=1+R.length by simp;omega,e]
  have e2:Alg.sm 1 (fun i=>Alg.gd (gr (r::R) i) j)=Alg.gd r j:=by simp [Alg.sm,gr]
  have e3:(fun i=>Alg.gd (gr (r::R) (1+i)) j)=fun i=>Alg.gd (gr R i) j:=by
   funext i;rw[Nat.add_comm];rfl
  rw[e2,e3, ← Int.add_assoc]
  have:=(Xrm (p:=p) (x:=1) (t:=t) (l:=r) (by omega) j)
  rw[Int.one_mul] at this
  exact this.add (Cg.refl p _)
theorem Xrn{n i j:Nat}(hi:i<n):Alg.gd ((List.replicate n (0:Int)).set i 1) j=if j=i then 1 else 0:=by
 unfold Alg.gd
 rw[List.getD_eq_getElem?_getD,List.getElem?_set]
 by_cases h:i=j
 ·subst h;simp [hi]
 ·rw[if_neg h,if_neg (Ne.symm h)]
  have:=Xcf n j
  unfold Alg.gd at this
  rwa [List.getD_eq_getElem?_getD] at this
structure Qs(p:Int)(n s idx:Nat)(qs:List (List Int)):Prop where
 len:qs.length=s
 rw:Rw p n qs
 sum:∀i,Cg p (Alg.sm s (fun k=>Alg.gd (gr qs k) i)) (if i=idx then 1 else 0)
theorem Xli(f:Nat→Nat→Int)(b:Nat):∀a,Alg.sm a (fun k=>Alg.sm b (fun i=>f k i))=Alg.sm b (fun i=>Alg.sm a (fun k=>f k i))
 |0=>by simp [Alg.sm,Alg.Xhe]
 |a+1=>by
  have:=Xli f b a
  simp only [Alg.sm]
  rw[this,Alg.Xly]
theorem Xf0(c:Int)(f:Nat→Int)(n:Nat):Alg.sm n (fun i=>f i*c)=Alg.sm n f*c:=by
 rw[Int.mul_comm, ← Alg.Xil]
 exact Alg.Xhd fun i _=>Int.mul_comm _ _
open Alg (Cg Pr)
theorem Xpe(n:Nat)(h:n≤1000):andI .i64 (n:Int) 1=((n%2:Nat):Int):=by
 have hb:(BitVec.ofInt 64 (n:Int) &&& BitVec.ofInt 64 1).toNat=n%2:=by
  rw[BitVec.toNat_and]
  have e1:(BitVec.ofInt 64 (n:Int)).toNat=n:=by simp;omega
  have e2:(BitVec.ofInt 64 (1:Int)).toNat=1:=by decide
  rw[e1,e2,Nat.and_one_is_mod]
 unfold andI
 show IntKind.i64.wrap (((BitVec.ofInt 64 (n:Int) &&& BitVec.ofInt 64 1).toNat:Nat):Int)=_
 rw[hb]
 exact w64_id (by omega) (by omega)
theorem Cg.pow{p a b:Int}(h:Cg p a b):∀n:Nat,Cg p (a ^ n) (b ^ n)
 |0=>by rw[Int.pow_zero,Int.pow_zero];exact Cg.refl p _
 |n+1=>by rw[Int.pow_succ,Int.pow_succ];exact(Cg.pow h n).mul h
def tn:List Int→Nat
 | []=>0
 |a::l=>if tn l=0 then(if a=0 then 0 else 1) else tn l+1
theorem Xlj:∀l:List Int,tn l≤l.length
 | []=>Nat.le_refl _
 |a::l=>by
  have:=Xlj l
  unfold tn;simp only [List.length_cons];split
  ·split<;>omega
  ·omega
theorem Xjs:∀(l:List Int)(i:Nat),tn l≤i→Alg.gd l i=0
 | [],i,_=>rfl
 |a::l,i,h=>by
  unfold tn at h
  cases i with
  |zero=>
   split at h
   ·split at h
    ·rename_i h2;simpa [Alg.gd] using h2
    ·omega
   ·omega
  |succ i=>
   rw[Alg.Xg9]
   refine Xjs l i ?_
   split at h
   ·omega
   ·omega
theorem Xnt:∀l:List Int,0<tn l→Alg.gd l (tn l-1)≠0
 | [],h=>by simp [tn] at h
 |a::l,h=>by
  have ih:=Xnt l
  unfold tn at h ⊢
  split
  ·rename_i h2
   rw[if_pos h2] at h
   split
   ·rename_i h3;rw[if_pos h3] at h;omega
   ·rename_i h3;simpa [Alg.gd] using h3
  ·rename_i h2
   have:tn l+1-1=(tn l-1)+1:=by omega
   rw[this,Alg.Xg9]
   exact ih (by omega)
theorem Xro(l:List Int){a:Int}(h:a≠0):tn (l++[a])=l.length+1:=by
 have h1:=Xlj (l++[a])
 have h2:Alg.gd (l++[a]) l.length=a:=by simp [Alg.gd,List.getD_eq_getElem?_getD]
 rcases Nat.lt_or_ge l.length (tn (l++[a])) with h3 |h3
 ·simp at h1;omega
 ·rw[Xjs _ _ h3] at h2;exact absurd h2.symm h
def trim(l:List Int):List Int:=l.take (tn l)
theorem Xf6(l:List Int):(trim l).length=tn l:=by unfold trim;rw[List.length_take];exact Nat.min_eq_left (Xlj l)
theorem Xgc(l:List Int)(i:Nat):Alg.gd (trim l) i=Alg.gd l i:=by
 rcases Nat.lt_or_ge i (tn l) with h |h
 ·simp [trim,Alg.gd,List.getD_eq_getElem?_getD,List.getElem?_take,h]
 ·rw[Xjs l i h,Alg.Xds (by rw[Xf6];exact h)]
theorem Xlk{p:Int}{l:List Int}(h:El p l):El p (trim l):=fun x hx=>h x (List.mem_of_mem_take hx)
theorem Xku(l:List Int){a:Int}(h:a≠0):trim (l++[a])=l++[a]:=by
 unfold trim;rw[Xro l h,List.take_of_length_le (by simp)]
open Alg (Cg Pr)
theorem Xte{p:Int}{l s:List Int}(hl:El p l)(hs:El p s)(i:Int)(n:Nat):El p (lcpy l i n s):=fun z hz=>by
 unfold lcpy at hz
 simp only [List.mem_append] at hz
 rcases hz with (hz |hz) |hz
 ·exact hl z (List.mem_of_mem_take hz)
 ·exact hs z (List.mem_of_mem_take hz)
 ·exact hl z (List.mem_of_mem_drop hz)
theorem Xrp{α:Type}{l s:List α}{i:Int}{n:Nat}(h0:0≤i)(h:i.toNat+n≤l.length):(lcpy l i n s).length=l.length:=by
 unfold lcpy
 simp only [List.length_append,List.length_take,List.length_drop]
 omega
def kn:List (Int×Bool)→Nat→List (Int×Int)
 | [],_=>[]
 |c::l,i=>if c.2=true then((i:Int)+1,c.1)::kn l (i+1) else kn l (i+1)
theorem Xkv:∀(l:List (Int×Bool))(i:Nat),(kn l i).length≤l.length
 | [],_=>Nat.le_refl _
 |c::l,i=>by
  have:=Xkv l (i+1)
  unfold kn;split<;>simp only [List.length_cons]<;>omega
theorem Xgj:∀(l:List (Int×Bool))(i:Nat)(q:Int×Int),q∈kn l i→(i:Int)+1≤q.1∧q.1≤i+l.length
 | [],_,q,h=>by cases h
 |c::l,i,q,h=>by
  have ih:=Xgj l (i+1) q
  unfold kn at h
  simp only [List.length_cons]
  split at h
  ·rcases List.mem_cons.1 h with rfl |h
   ·simp only;omega
   ·have:=ih h;omega
  ·have:=ih h;omega
theorem Xrq:∀(l:List (Int×Bool))(i:Nat),((kn l i).map (·.1)).Pairwise (· < ·)
 | [],_=>List.Pairwise.nil
 |c::l,i=>by
  have ih:=Xrq l (i+1)
  unfold kn
  split
  ·rw[List.map_cons]
   refine List.Pairwise.cons (fun x hx=>?_) ih
   obtain⟨q,hq,rfl⟩:=List.mem_map.1 hx
   have:=Xgj l (i+1) q hq
   omega
  ·exact ih
open Alg (Cg Pr)
def KR(p:Int)(k v:Nat):List (Int×Int)→List (List Int)→List Int→Prop
 | [],[],[]=>True
 |q::K,c::C,r::Rt=>(c.length=k+v+v∧El p c∧E1 p r∧(∀j,j<k+v+v→Cg p (Alg.gd c j) (Alg.keyRow k v q j))∧Cg p r (Alg.keyRow k v q (k+v+v)))∧KR p k v K C Rt
 |_,_,_=>False
theorem KR.len{p:Int}{k v:Nat}:∀{K:List (Int×Int)}{C:List (List Int)}{Rt:List Int},KR p k v K C Rt→C.length=K.length∧Rt.length=K.length
 | [],[],[],_=>⟨rfl,rfl⟩
 |q::K,c::C,r::Rt,h=>by
  obtain⟨h1,h2⟩:=KR.len h.2
  simp [h1,h2]
 | [],[],_::_,h=>h.elim
 | [],_::_,_,h=>h.elim
 |_::_,[],_,h=>h.elim
 |_::_,_::_,[],h=>h.elim
theorem KR.rw{p:Int}{k v:Nat}:∀{K:List (Int×Int)}{C:List (List Int)}{Rt:List Int},KR p k v K C Rt→Rw p (k+v+v) C∧El p Rt
 | [],[],[],_=>⟨fun r h=>(by cases h),El.nil⟩
 |q::K,c::C,r::Rt,h=>by
  obtain⟨h1,h2⟩:=KR.rw h.2
  exact⟨Rw.cons.2 ⟨⟨h.1.1,h.1.2.1⟩,h1⟩,El.cons.2 ⟨h.1.2.2.1,h2⟩⟩
 | [],[],_::_,h=>h.elim
 | [],_::_,_,h=>h.elim
 |_::_,[],_,h=>h.elim
 |_::_,_::_,[],h=>h.elim
theorem KR.get{p:Int}{k v:Nat}:∀{K:List (Int×Int)}{C:List (List Int)}{Rt:List Int},KR p k v K C Rt→∀(i:Nat)(hi:i<K.length),(∀j,j<k+v+v→Cg p (Alg.gd (gr C i) j) (Alg.keyRow k v K[i] j))∧Cg p (Alg.gd Rt i) (Alg.keyRow k v K[i] (k+v+v))
 | [],[],[],_,i,hi=>absurd hi (by simp)
 |q::K,c::C,r::Rt,h,i,hi=>by
  cases i with
  |zero=>exact⟨h.1.2.2.2.1,h.1.2.2.2.2⟩
  |succ i=>exact KR.get h.2 i (by simpa using hi)
 | [],[],_::_,h,_,_=>h.elim
 | [],_::_,_,h,_,_=>h.elim
 |_::_,[],_,h,_,_=>h.elim
 |_::_,_::_,[],h,_,_=>h.elim
theorem Xkw{l m:List Int}(i:Nat)(h:i<l.length):Alg.gd (l++m) i=Alg.gd l i:=by
 unfold Alg.gd
 rw[List.getD_eq_getElem?_getD,List.getD_eq_getElem?_getD,List.getElem?_append_left h]
theorem Xhg(l:List Int)(a:Int):Alg.gd (l++[a]) l.length=a:=by simp [Alg.gd,List.getD_eq_getElem?_getD]
theorem Xll{l m:List Int}(i:Nat):Alg.gd (l++m) (l.length+i)=Alg.gd m i:=by
 unfold Alg.gd
 rw[List.getD_eq_getElem?_getD,List.getD_eq_getElem?_getD,List.getElem?_append_right (by omega),Nat.add_sub_cancel_left]
theorem Xnu{l:List Int}{n:Nat}(i:Nat)(h:i<n):Alg.gd (l.take n) i=Alg.gd l i:=by
 unfold Alg.gd
 rw[List.getD_eq_getElem?_getD,List.getD_eq_getElem?_getD,List.getElem?_take_of_lt h]
theorem Xlm{l:List Int}{n:Nat}(i:Nat):Alg.gd (l.drop n) i=Alg.gd l (n+i):=by
 unfold Alg.gd
 rw[List.getD_eq_getElem?_getD,List.getD_eq_getElem?_getD,List.getElem?_drop]
section
variable{p:Int}(hp:2≤p∧p≤65521){i:Nat}(hi:(i:Int)+1<p)
include hp hi
end
open Alg (Cg Pr)
theorem Xfb{R:List (List Int)}{i:Nat}(h:i<R.length):gr R i=R[i]:=by simp [gr,List.getD_eq_getElem?_getD,h]
theorem Xgk{R:List (List Int)}{i j:Nat}{x:List Int}(h:i<R.length):gr (R.set i x) j=if j=i then x else gr R j:=by
 unfold gr
 rw[List.getD_eq_getElem?_getD,List.getD_eq_getElem?_getD,List.getElem?_set]
 by_cases e:i=j
 ·subst e;simp [h]
 ·rw[if_neg e,if_neg (Ne.symm e)]
theorem Rw.gr{p:Int}{m:Nat}{R:List (List Int)}(h:Rw p m R){i:Nat}(hi:i<R.length):(gr R i).length=m∧El p (gr R i):=by
 rw[Xfb hi];exact h _ (List.getElem_mem hi)
theorem Rw.set{p:Int}{m:Nat}{R:List (List Int)}(h:Rw p m R){i:Nat}{x:List Int}(hx:x.length=m)(he:El p x):Rw p m (R.set i x):=fun r hr=>by
 rcases List.mem_or_eq_of_mem_set hr with hr |rfl
 ·exact h r hr
 ·exact⟨hx,he⟩
theorem X9o{R:List (List Int)}{i:Nat}(h:i<R.length):lidx R (i:Int)=some (gr R i):=Xbg [] h
theorem X1x{l:List Int}{i:Nat}(h:i<l.length):lidx l (i:Int)=some (Alg.gd l i):=Xbg 0 h
theorem X32{α:Type}{l:List α}{i:Nat}{y:α}(h:i<l.length):lupd l (i:Int) y=some (l.set i y):=by rw[X67 (by omega) (by omega),Int.toNat_natCast]
def scl(p by_:Int)(l:List Int):List Int:=l.map fun x=>x*by_%p
theorem Xtf{p b:Int}(l:List Int)(j:Nat):Cg p (Alg.gd (scl p b l) j) (Alg.gd l j*b):=by
 unfold scl Alg.gd
 rw[List.getD_eq_getElem?_getD,List.getD_eq_getElem?_getD,List.getElem?_map]
 cases l[j]? with
 |none=>exact Cg.of (by simp)
 |some x=>exact Cg.emod p _
theorem Xtg{p b:Int}(hp:2≤p)(l:List Int):El p (scl p b l):=fun x hx=>by
 obtain⟨y,_,rfl⟩:=List.mem_map.1 hx
 exact E1.emod hp _
def elim(p:Int)(k r:Nat)(R:List (List Int))(i:Nat):List Int:=if i≠r∧Alg.gd (gr R i) k≠0 then at_ p ((0-Alg.gd (gr R i) k)%p) (gr R i) (gr R r) else gr R i
theorem Xrr{R:List (List Int)}{a b:Nat}(ha:a<R.length)(hb:b<R.length)(i:Nat):gr ((R.set a (gr R b)).set b (gr R a)) i=if i=b then gr R a else if i=a then gr R b else gr R i:=by
 rw[Xgk (by simpa using hb),Xgk ha]
open Alg (Cg Pr)
def aug:List (List Int)→List Int→List (List Int):=List.zipWith fun c r=>c++[r]
theorem Xjt{C:List (List Int)}{Rt:List Int}(h:Rt.length=C.length):(aug C Rt).length=C.length:=by simp [aug,h]
theorem Xnv{C:List (List Int)}{Rt:List Int}(h:Rt.length=C.length){i:Nat}(hi:i<C.length):gr (aug C Rt) i=gr C i++[Alg.gd Rt i]:=by
 rw[Xfb (by rw[Xjt h];exact hi),Xfb hi]
 simp [aug,Alg.gd,List.getD_eq_getElem?_getD,show i<Rt.length by omega]
theorem Xth{p:Int}{c:Nat}{C:List (List Int)}{Rt:List Int}(h:Rt.length=C.length)(hC:Rw p c C)(hR:El p Rt):Rw p (c+1) (aug C Rt):=fun x hx=>by
 obtain⟨i,hi,rfl⟩:=List.getElem_of_mem hx
 rw[Xjt h] at hi
 rw[← Xfb,Xnv h hi]
 have:=hC.gr hi
 exact⟨by simp [this.1],this.2.app (El.cons.2 ⟨hR _ (Alg.Xnm (by omega)),El.nil⟩)⟩
theorem Xkx{p:Int}{c:Nat}:∀(C:List (List Int))(i:Nat),Rw p c C→i<C.length→(C.flatten.drop (i*c)).take c=gr C i
 | [],i,_,h=>absurd h (by simp)
 |x::C,i,h,hi=>by
  obtain⟨⟨h1,h2⟩,h⟩:=Rw.cons.1 h
  rw[List.flatten_cons]
  cases i with
  |zero=>rw[Nat.zero_mul,List.drop_zero, ← h1,List.take_left'];rfl;rfl
  |succ i=>
   rw[Nat.add_mul,Nat.one_mul,Nat.add_comm, ← List.drop_drop]
   have:List.drop c (x++C.flatten)=C.flatten:=by rw[← h1,List.drop_left'];rfl
   rw[this,Xkx C i h (by simpa using hi)]
   rfl
theorem Xhh{p:Int}{c:Nat}:∀(C:List (List Int)),Rw p c C→C.flatten.length=C.length*c
 | [],_=>by simp
 |x::C,h=>by
  obtain⟨⟨h1,h2⟩,h⟩:=Rw.cons.1 h
  rw[List.flatten_cons,List.length_append,Xhh C h,List.length_cons,Nat.add_mul,Nat.one_mul,h1,Nat.add_comm]
theorem Xrs{p:Int}{c:Nat}{C:List (List Int)}(h:Rw p c C):El p C.flatten:=fun x hx=>by
 obtain⟨r,hr,hx⟩:=List.mem_flatten.1 hx
 exact(h r hr).2 x hx
open Alg (Cg Pr)
theorem Xpf{p:Int}{l m:List Int}(h:∀i,Cg p (Alg.gd l i) (Alg.gd m i))(x:Int):Cg p (Alg.pv l x) (Alg.pv m x):=by
 have hz:Alg.Z0 p (Alg.padd l (Alg.psc (-1) m)):=fun i=>by
  rw[Alg.Xdi,Alg.Xgi]
  exact(Cg.of (by omega)).trans (h i).sub0
 have:=hz.pv x
 rw[Alg.Xd3,Alg.Xg5] at this
 exact Cg.of_sub0 ((Cg.of (by omega)).trans this)
theorem Xky(x:Int)(m:List Int):∀l:List Int,Alg.pv (l++m) x=Alg.pv l x+x ^ l.length*Alg.pv m x
 | []=>by simp [Alg.pv]
 |a::l=>by
  rw[List.cons_append,Alg.pv,Alg.pv,Xky x m l,List.length_cons,Int.pow_succ,Int.add_mul]
  have:x ^ l.length*Alg.pv m x*x=x ^ l.length*x*Alg.pv m x:=by rw[Int.mul_assoc,Int.mul_comm (Alg.pv m x), ← Int.mul_assoc]
  omega
theorem Xnw{p:Int}(l:List Int)(x:Int):Cg p (Alg.pv (trim l) x) (Alg.pv l x):=Xpf (fun i=>Cg.of (Xgc l i)) x
theorem Xju{l m:List Int}(h:∀i,Alg.gd l i=Alg.gd m i):trim l=trim m:=by
 have key:∀{a b:List Int},(∀i,Alg.gd a i=Alg.gd b i)→tn a≤tn b:=fun {a b} h=>by
  rcases Nat.lt_or_ge (tn b) (tn a) with h1 |h1
  ·have h2:=Xnt a (by omega)
   rw[h] at h2
   exact absurd (Xjs b _ (by omega)) h2
  ·exact h1
 have hn:tn l=tn m:=Nat.le_antisymm (key h) (key fun i=>(h i).symm)
 refine List.ext_getElem (by rw[Xf6,Xf6,hn]) fun i h1 h2=>?_
 have:=Xgc l i
 have h3:=Xgc m i
 have e1:Alg.gd (trim l) i=(trim l)[i]:=by simp [Alg.gd,List.getD_eq_getElem?_getD,h1]
 have e2:Alg.gd (trim m) i=(trim m)[i]:=by simp [Alg.gd,List.getD_eq_getElem?_getD,h2]
 rw[← e1, ← e2,this,h3,h i]
theorem Xpg{l:List Int}(h:∀i,Alg.gd l i=0):trim l=[]:=by
 rw[Xju (m:=[]) (fun i=>by rw[h i];rfl)];rfl
theorem Xq0(x:Int):∀(l:List Int)(i:Nat)(a:Int),i<l.length→Alg.gd l i=0→Alg.pv (l.set i a) x=Alg.pv l x+a*x ^ i
 | [],i,a,h,_=>absurd h (by simp)
 |b::l,0,a,_,h=>by
  have:b=0:=h
  subst this
  simp [Alg.pv]
 |b::l,i+1,a,h,h0=>by
  rw[List.set_cons_succ,Alg.pv,Alg.pv,Xq0 x l i a (by simpa using h) h0,Int.add_mul,Int.pow_succ]
  rw[Int.mul_assoc];omega
open Alg (Cg Pr)
theorem Xm2{p:Int}{l:List (Int×Bool)}(hlp:(l.length:Int)<p):Alg.Apart p ((kn l 0).map (·.1)):=by
 unfold Alg.Apart
 refine List.Pairwise.imp_of_mem ?_ (Xrq l 0)
 intro x y hx hy hlt hc
 obtain⟨q,hq,rfl⟩:=List.mem_map.1 hx
 obtain⟨r,hr,rfl⟩:=List.mem_map.1 hy
 have h1:=Xgj l 0 q hq
 have h2:=Xgj l 0 r hr
 have h3:Cg p (r.1-q.1) 0:=by
  have:=(Cg.refl p 0).sub hc
  exact(Cg.of (by omega)).trans this
 have:=h3.small (by omega) (by omega)
 omega
open Alg (Cg Pr)
def col(L:List (Bool×List Int))(j:Nat):List (Int×Bool):=L.map fun a=>(if a.1=true then Alg.gd a.2 j else 0,a.1)
def AnsOK(p:Int)(w:Nat)(L:List (Bool×List Int)):Prop:=∀a∈L,a.1=true→a.2.length=w∧El p a.2
theorem AnsOK.cons{p:Int}{w:Nat}{a:Bool×List Int}{L:List (Bool×List Int)}:AnsOK p w (a::L)↔(a.1=true→a.2.length=w∧El p a.2)∧AnsOK p w L:=by unfold AnsOK;simp
def nk(L:List (Bool×List Int)):Nat:=(L.filter fun a=>a.1).length
theorem Xio:∀(L:List (Bool×List Int))(j i:Nat),(kn (col L j) i).length=nk L
 | [],_,_=>rfl
 |a::L,j,i=>by
  have ih:=Xio L j (i+1)
  unfold col nk at ih ⊢
  rw[List.map_cons,kn,List.filter_cons]
  by_cases h:a.1=true
  ·rw[if_pos h,List.length_cons,ih];simp [h]
  ·rw[if_neg h,ih];simp [h]
theorem Xkz{p:Int}(hp:2≤p){w:Nat}:∀(L:List (Bool×List Int))(j i:Nat),AnsOK p w L→El p ((kn (col L j) i).map (·.2))
 | [],_,_,_=>El.nil
 |a::L,j,i,h=>by
  obtain⟨h1,h⟩:=AnsOK.cons.1 h
  have ih:=Xkz hp L j (i+1) h
  unfold col at ih ⊢
  rw[List.map_cons,kn]
  by_cases hk:a.1=true
  ·rw[if_pos hk,List.map_cons]
   refine El.cons.2 ⟨?_,ih⟩
   dsimp only
   rw[if_pos hk]
   exact El.gd hp (h1 hk).2 j
  ·rw[if_neg hk];exact ih
theorem Xrt(L:List (Bool×List Int))(j:Nat):(col L j).length=L.length:=by simp [col]
structure Fit(p:Int)(k:Nat)(L:List (Bool×List Int))(j:Nat)(f:List Int):Prop where
 el:El p f
 len:f.length≤k
 few:((kn (col L j) 0).filter (Alg.bad p f)).length≤(nk L-k)/2
def wr(p:Int)(L:List (Bool×List Int))(j:Nat)(f:List Int):List Int:=((kn (col L j) 0).filter (Alg.bad p f)).map (·.1)
theorem Xnx{p:Int}{k:Nat}{L:List (Bool×List Int)}{j:Nat}{f:List Int}(h1:El p f)(h2:f.length≤k)(h:∀i (hi:i<L.length),L[i].1=true→Cg p (Alg.pv f ((i:Int)+1)) (Alg.gd L[i].2 j)):Fit p k L j f∧wr p L j f=[]:=by
 have key:∀(M:List (Bool×List Int))(i:Nat),L.drop i=M→(kn (col M j) i).filter (Alg.bad p f)=[]:=fun M=>by
  induction M with
  |nil=>intro i _;rfl
  |cons a M ih=>
   intro i hd
   have hi:i<L.length:=by
    rcases Nat.lt_or_ge i L.length with h2 |h2
    ·exact h2
    ·rw[List.drop_of_length_le h2] at hd;cases hd
   have ha:L[i]=a:=by
    have:=List.drop_eq_getElem_cons hi
    rw[hd] at this;exact(List.cons.inj this).1.symm
   have ih:=ih (i+1) (by rw[← List.drop_drop,hd];rfl)
   unfold col at ih ⊢
   rw[List.map_cons,kn]
   by_cases hk:a.1=true
   ·rw[if_pos hk,List.filter_cons,ih]
    have hb:Alg.bad p f ((i:Int)+1,if a.1=true then Alg.gd a.2 j else 0)=false:=by
     cases hb:Alg.bad p f ((i:Int)+1,if a.1=true then Alg.gd a.2 j else 0) with
     |false=>rfl
     |true=>
      have:=h i hi (by rw[ha];exact hk)
      rw[ha] at this
      have h5:=Alg.Xjr hb
      simp only [hk,if_true] at h5
      exact absurd this h5
    rw[hb];rfl
   ·rw[if_neg hk];exact ih
 have hkey:=key L 0 rfl
 exact⟨⟨h1,h2,by rw[hkey];simp⟩,by unfold wr;rw[hkey];rfl⟩
open Alg (Cg Pr)
def PlanOK(p:Int)(s d:Nat):Prop:=2≤s∧s≤10∧1≤d∧d<s∧(s:Int)<p
def hid(d idx:Nat)(T:List Int)(i:Nat):List Int:=(if i=idx then 1 else 0)::(T.drop (i*d)).take d
structure Qc(p:Int)(s d idx:Nat)(T:List Int)(m:Nat)(qs:List (List Int)):Prop where
 len:qs.length=s
 rw:Rw p m qs
 val:∀k,k<s→∀i,i<m→Cg p (Alg.gd (gr qs k) i) (Alg.pv (hid d idx T i) ((k:Int)+1))
open Alg (Cg Pr)
def mixf(p:Int)(n k:Nat)(c:Nat→List Int)(R:List (List Int))(j:Nat):List Int:=(List.range k).map fun t=>Alg.sm n (fun r=>Alg.gd (c r) t*Alg.gd (gr R r) j)%p
theorem Xru{p:Int}(hp:2≤p)(n k:Nat)(c:Nat→List Int)(R:List (List Int))(j:Nat):El p (mixf p n k c R j):=fun x hx=>by
 obtain⟨t,_,rfl⟩:=List.mem_map.1 hx
 exact E1.emod hp _
theorem Xny{p:Int}{n k:Nat}{c:Nat→List Int}{R:List (List Int)}{j t:Nat}(ht:t<k):Alg.gd (mixf p n k c R j) t=Alg.sm n (fun r=>Alg.gd (c r) t*Alg.gd (gr R r) j)%p:=by
 simp [mixf,Alg.gd,List.getD_eq_getElem?_getD,ht]
theorem Xrv{p:Int}{n k:Nat}{c:Nat→List Int}{R:List (List Int)}{j:Nat}(hc:∀r,r<n→(c r).length≤k)(x:Int):Cg p (Alg.pv (mixf p n k c R j) x) (Alg.sm n (fun r=>Alg.pv (c r) x*Alg.gd (gr R r) j)):=by
 have hl:(mixf p n k c R j).length=k:=by simp [mixf]
 rw[Alg.Xpd,hl]
 have h1:Cg p (Alg.sm k (fun t=>Alg.gd (mixf p n k c R j) t*x ^ t)) (Alg.sm k (fun t=>Alg.sm n (fun r=>Alg.gd (c r) t*x ^ t*Alg.gd (gr R r) j))):=Alg.X9g fun t ht=>by
  rw[Xny ht]
  refine((Cg.emod p _).mul (Cg.refl p (x ^ t))).trans (Cg.of ?_)
  rw[← Xf0]
  refine Alg.Xhd fun r _=>?_
  rw[Int.mul_assoc,Int.mul_assoc,Int.mul_comm (x ^ t)]
 refine h1.trans (Cg.of ?_)
 rw[Xli (fun t r=>Alg.gd (c r) t*x ^ t*Alg.gd (gr R r) j)]
 refine Alg.Xhd fun r hr=>?_
 rw[Xf0 (Alg.gd (gr R r) j) (fun t=>Alg.gd (c r) t*x ^ t),Alg.Xm0 x (hc r hr)]
theorem Xrw{d idx:Nat}{T:List Int}(i:Nat):(hid d idx T i).length≤d+1:=by
 unfold hid
 rw[List.length_cons,List.length_take];omega
theorem Xrx{p:Int}(hp:2≤p){n d idx k:Nat}{T:List Int}{R:List (List Int)}{w:Nat}(hR:Rw p w R)(hn:R.length=n)(hi:idx<n)(hk:0<k)(j:Nat):Alg.gd (mixf p n k (hid d idx T) R j) 0=Alg.gd (gr R idx) j:=by
 have hr:=El.gd hp (hR.gr (i:=idx) (by omega)).2 j
 rw[Xny hk]
 have h1:Cg p (Alg.sm n (fun r=>Alg.gd (hid d idx T r) 0*Alg.gd (gr R r) j)) (Alg.gd (gr R idx) j):=by
  have:=Alg.Xkr (p:=p) (f:=fun r=>Alg.gd (hid d idx T r) 0*Alg.gd (gr R r) j) (q:=idx) (n:=n) (fun i _ h=>Cg.of (by simp [hid,Alg.gd,h])) hi
  exact this.trans (Cg.of (by simp [hid,Alg.gd]))
 have h2:=E1.emod hp (Alg.sm n (fun r=>Alg.gd (hid d idx T r) 0*Alg.gd (gr R r) j))
 exact((Cg.emod p _).trans h1).eq h2.1 h2.2 hr.1 hr.2
open Alg (Cg Pr)
def StOK(p:Int)(s D G:Nat):Prop:=2≤s∧s≤10∧(s:Int)<p∧1≤D∧1≤G∧2*G+D≤s+1
def ngr(n G:Nat):Nat:=(n+G-1)/G
theorem Xm3{n G g:Nat}(hG:1≤G):g<ngr n G↔g*G<n:=by
 unfold ngr
 rw[Nat.lt_div_iff_mul_lt (by omega)]
 omega
theorem Xnz{n G:Nat}(hG:1≤G)(hn:1≤n):1≤ngr n G:=(Xm3 hG).2 (by omega)
theorem Xl0{n G:Nat}(hG:1≤G):ngr n G≤n:=by
 rcases Nat.lt_or_ge n (ngr n G) with h |h
 ·have:=(Xm3 hG).1 h
  have h2:n*1≤n*G:=Nat.mul_le_mul_left _ hG
  omega
 ·exact h
def drw(D:Nat)(T:List Int)(g:Nat):List Int:=(T.drop (g*D)).take D
structure Qd(p:Int)(s D G m grp:Nat)(T:List Int)(qs:List (List Int)):Prop where
 len:qs.length=s
 rw:Rw p m qs
 val:∀k,k<s→∀i,i<m→Cg p (Alg.gd (gr qs k) i) (((k:Int)+1) ^ G*Alg.pv (drw D T i) ((k:Int)+1)+if i=grp then 1 else 0)
open Alg (Cg Pr)
def grp(R:List (List Int))(G g:Nat):List (List Int):=(R.drop (g*G)).take G
def hc(R:List (List Int))(G g j:Nat):List Int:=(grp R G g).map fun r=>Alg.gd r j
structure Hld(p:Int)(w m G:Nat)(R:List (List Int))(x:Int)(H:List (List Int)):Prop where
 len:H.length=m
 rw:Rw p w H
 val:∀g,g<m→∀j,Cg p (Alg.gd (gr H g) j) (Alg.pv (hc R G g j) x)
open Alg (Cg Pr)
def psum:Nat→(Nat→List Int)→List Int
 |0,_=>[]
 |m+1,f=>Alg.padd (psum m f) (f m)
theorem Xo0(x:Int)(f:Nat→List Int):∀m,Alg.pv (psum m f) x=Alg.sm m (fun g=>Alg.pv (f g) x)
 |0=>rfl
 |m+1=>by rw[psum,Alg.Xd3,Xo0 x f m];rfl
theorem Xm4{f:Nat→List Int}{b:Nat}:∀m,(∀g,g<m→(f g).length≤b)→(psum m f).length≤b
 |0,_=>Nat.zero_le _
 |m+1,h=>by
  have h1:=Xm4 m fun g hg=>h g (by omega)
  have h2:=h m (by omega)
  rw[psum,Alg.X5t];omega
theorem Xq1{R:List (List Int)}{G g j:Nat}:(hc R G g j).length≤G:=by unfold hc grp;rw[List.length_map,List.length_take];omega
def fcd(p:Int)(D G m gp:Nat)(T:List Int)(R:List (List Int))(j:Nat):List Int:=
 (Alg.padd (hc R G gp j) (List.replicate G 0++psum m (fun g=>Alg.pmul (drw D T g) (hc R G g j)))).map (· %p)
theorem Xq2{p:Int}(hp:2≤p){D G m gp:Nat}{T:List Int}{R:List (List Int)}{j:Nat}:El p (fcd p D G m gp T R j):=fun x hx=>by
 obtain⟨y,_,rfl⟩:=List.mem_map.1 hx
 exact E1.emod hp _
theorem Xry{p:Int}{D G m gp:Nat}{T:List Int}{R:List (List Int)}{j:Nat}(hD:1≤D)(hG:1≤G):(fcd p D G m gp T R j).length≤2*G+D-1:=by
 have h1:(psum m (fun g=>Alg.pmul (drw D T g) (hc R G g j))).length≤D+G-1:=Xm4 m fun g _=>by
  have a:(drw D T g).length≤D:=by unfold drw;rw[List.length_take];omega
  have b:=Xq1 (R:=R) (G:=G) (g:=g) (j:=j)
  by_cases e1:drw D T g=[]
  ·rw[e1];simp [Alg.pmul]
  ·by_cases e2:hc R G g j=[]
   ·have:=Alg.Xhc (hc R G g j) (drw D T g)
    rw[e2] at this ⊢
    simp only [List.length_nil] at this;omega
   ·have:=Alg.Xc0 (hc R G g j) e2 (drw D T g) e1
    omega
 have h2:=Xq1 (R:=R) (G:=G) (g:=gp) (j:=j)
 unfold fcd
 rw[List.length_map,Alg.X5t,List.length_append,List.length_replicate]
 omega
theorem Xip{p:Int}(l:List Int)(i:Nat):Cg p (Alg.gd (l.map (· %p)) i) (Alg.gd l i):=by
 unfold Alg.gd
 rw[List.getD_eq_getElem?_getD,List.getD_eq_getElem?_getD,List.getElem?_map]
 cases l[i]? with
 |none=>exact Cg.of (by simp)
 |some x=>exact Cg.emod p _
theorem Xti{p:Int}{D G m gp:Nat}{T:List Int}{R:List (List Int)}{j:Nat}(x:Int):Cg p (Alg.pv (fcd p D G m gp T R j) x) (Alg.pv (hc R G gp j) x+x ^ G*Alg.sm m (fun g=>Alg.pv (drw D T g) x*Alg.pv (hc R G g j) x)):=by
 refine(Xpf (fun i=>Xip _ i) x).trans (Cg.of ?_)
 rw[Alg.Xd3,Xky,Alg.Xf5,List.length_replicate,Xo0,Int.zero_add]
 congr 2
 exact Alg.Xhd fun g _=>Alg.Xga x _ _
theorem Xrz{p:Int}(hp:2≤p){D G m gp w:Nat}{T:List Int}{R:List (List Int)}(hR:Rw p w R){j i:Nat}(hi:i<G)(hir:gp*G+i<R.length):Alg.gd (fcd p D G m gp T R j) i=Alg.gd (gr R (gp*G+i)) j:=by
 have e1:Alg.gd (hc R G gp j) i=Alg.gd (gr R (gp*G+i)) j:=by
  unfold hc grp
  rw[Xfb hir]
  simp [Alg.gd,List.getD_eq_getElem?_getD,hi,hir]
 have h1:=Xip (p:=p) (Alg.padd (hc R G gp j) (List.replicate G 0++psum m (fun g=>Alg.pmul (drw D T g) (hc R G g j)))) i
 rw[Alg.Xdi,Xkw i (by simpa using hi),Xcf,Int.add_zero,e1] at h1
 have a:=El.gd hp (Xq2 hp (D:=D) (G:=G) (m:=m) (gp:=gp) (T:=T) (R:=R) (j:=j)) i
 have b:=El.gd hp (hR.gr hir).2 j
 exact h1.eq a.1 a.2 b.1 b.2
theorem Xtj{p:Int}{s D G m gp w k:Nat}{T:List Int}{R qs H:List (List Int)}(hq:Qd p s D G m gp T qs)(hk:k<s)(hg:gp<m)(hH:Hld p w m G R ((k:Int)+1) H){a:List Int}{j:Nat}(ha:Cg p (Alg.gd a j) (Alg.sm m (fun i=>Alg.gd (gr qs k) i*Alg.gd (gr H i) j))):Cg p (Alg.pv (fcd p D G m gp T R j) ((k:Int)+1)) (Alg.gd a j):=by
 refine(Xti _).trans (Cg.symm (ha.trans ?_))
 generalize hx:(k:Int)+1=x at*
 have h1:Cg p (Alg.sm m (fun i=>Alg.gd (gr qs k) i*Alg.gd (gr H i) j)) (Alg.sm m (fun i=>x ^ G*(Alg.pv (drw D T i) x*Alg.pv (hc R G i j) x)+(if i=gp then 1 else 0)*Alg.pv (hc R G i j) x)):=Alg.X9g fun i hi=>by
  have:=(hq.val k hk i hi).mul (hH.val i hi j)
  rw[hx] at this
  refine this.trans (Cg.of ?_)
  rw[Int.add_mul,Int.mul_assoc]
 refine h1.trans ?_
 rw[Alg.Xly,Alg.Xil]
 have h2:=Alg.Xkr (p:=p) (f:=fun i=>(if i=gp then 1 else 0)*Alg.pv (hc R G i j) x) (q:=gp) (n:=m) (fun i _ h=>Cg.of (by simp [h])) hg
 have h3:=(Cg.refl p (x ^ G*Alg.sm m (fun i=>Alg.pv (drw D T i) x*Alg.pv (hc R G i j) x))).add h2
 refine h3.trans (Cg.of ?_)
 rw[if_pos rfl,Int.one_mul];omega
end Go.Proofs.YtmfppphlhgneeaaGreat.Hh
end

section
namespace Go.Proofs.YtmfppphlhgneeaaGreat.Hh
set_option linter.unusedVariables false
open Alg (Cg Pr)
structure Fp(p:Int):Prop where
 fd:Fd p
 hi:p≤1000
 ck:X2d p=some 0
 inv:∀a,E1 p a→a≠0→∃b,X93 p a=some b∧E1 p b∧Cg p (a*b) 1
theorem Fp.rng{p:Int}(h:Fp p):2≤p∧p≤65521:=h.fd.rng
theorem Fp.pr{p:Int}(h:Fp p):Pr p:=h.fd.pr
theorem inv257:((List.range 256).all fun a=>match X93 257 ((a:Int)+1) with |some b=>decide (0≤b∧b<257∧((a:Int)+1)*b%257=1) |none=>false)=true:=by kernel_rfl
theorem fp257:Fp 257:=⟨by unfold Fd;omega,by omega,by kernel_rfl,fun a ha h0=>by
 have h:=List.all_eq_true.1 inv257 (a-1).toNat (List.mem_range.2 (by have:=ha.1;have:=ha.2;omega))
 rw[show(((a-1).toNat:Nat):Int)+1=a by have:=ha.1;omega] at h
 cases hb:X93 257 a with
 |none=>rw[hb] at h;cases h
 |some b=>
  rw[hb] at h
  have h2:=of_decide_eq_true h
  exact⟨b,rfl,⟨h2.1,h2.2.1⟩,(Cg.emod 257 (a*b)).symm.trans (Cg.of h2.2.2)⟩⟩
section
variable{p:Int}(hp:2≤p∧p≤65521)
include hp
theorem md{x:Int}(h:0≤x):Int.tmod x p=x%p:=Int.tmod_eq_emod_of_nonneg h
theorem mulm{b c:Int}(hb:E1 p b)(hc:E1 p c):Int.tmod (w64 (b*c)) p=b*c%p:=by
 have h:=Xnp hp hb hc
 rw[w64_id (by omega) (by omega),md hp (by omega)]
theorem accm{a b c:Int}(ha:E1 p a)(hb:E1 p b)(hc:E1 p c):Int.tmod (w64 (a+w64 (b*c))) p=(a+b*c)%p:=by
 have h:=Xnp hp hb hc
 have h2:=ha.1
 have h3:=ha.2
 rw[w64_id (x:=b*c) (by omega) (by omega),w64_id (by omega) (by omega),md hp (by omega)]
theorem accs{a b:Int}(ha:E1 p a)(hb:E1 p b):Int.tmod (w64 (a+b)) p=(a+b)%p:=by
 have h2:=ha.1
 have h3:=ha.2
 have h4:=hb.1
 have h5:=hb.2
 rw[w64_id (by omega) (by omega),md hp (by omega)]
theorem accn{a q y:Int}(ha:E1 p a)(hq:E1 p q)(hy:E1 p y):Int.tmod (w64 (a+w64 ((w64 (p-q))*y))) p=(a+(p-q)*y)%p:=by
 have h2:=ha.1
 have h3:=ha.2
 have h4:=hq.1
 have h5:=hq.2
 have h6:=hy.1
 have h7:=hy.2
 have h8:0≤(p-q)*y:=Int.mul_nonneg (by omega) h6
 have h9:(p-q)*y≤65521*y:=Int.mul_le_mul_of_nonneg_right (by omega) h6
 rw[w64_id (x:=p-q) (by omega) (by omega),w64_id (x:=(p-q)*y) (by omega) (by omega),w64_id (by omega) (by omega),md hp (by omega)]
theorem subn{q y:Int}(hq:E1 p q)(hy:E1 p y):Int.tmod (w64 ((w64 (p-q))*y)) p=((p-q)*y)%p:=by
 have h4:=hq.1
 have h5:=hq.2
 have h6:=hy.1
 have h7:=hy.2
 have h8:0≤(p-q)*y:=Int.mul_nonneg (by omega) h6
 have h9:(p-q)*y≤65521*y:=Int.mul_le_mul_of_nonneg_right (by omega) h6
 rw[w64_id (x:=p-q) (by omega) (by omega),w64_id (x:=(p-q)*y) (by omega) (by omega),md hp (by omega)]
end
theorem cgn(p q y:Int):Cg p ((p-q)*y) (-(q*y)):=by
 rw[Int.sub_mul]
 exact((Cg.p0 p y).sub (Cg.refl p (q*y))).trans (Cg.of (by omega))
theorem in_L{p:Int}:∀l:List Int,X7s p l=some (decide (El p l))
 | []=>by rw[X7s,decide_eq_true El.nil]
 |x::l=>by
  show Xcu p (X7s p l) x=_
  unfold Xcu
  rw[in_L l]
  by_cases h:x<0∨p≤x
  ·rw[if_pos h,decide_eq_false (fun h2=>by have:=(El.cons.1 h2).1;unfold E1 at this;omega)]
  ·rw[if_neg h]
   exact congrArg some (decide_eq_decide.2 ⟨fun h2=>El.cons.2 ⟨by unfold E1;omega,h2⟩,fun h2=>(El.cons.1 h2).2⟩)
theorem Xuw{p:Int}(h:Fp p)(l:List Int):X4r p l=some (decide (El p l)):=by
 unfold X4r
 rw[h.ck,Option.bind_some,if_neg (by decide),in_L]
theorem Xi9{p:Int}(h:Fp p){l:List Int}(hl:El p l):X4r p l=some true:=by rw[Xuw h,decide_eq_true hl]
theorem Xo1{p:Int}(h:Fp p){x:Int}(hx:E1 p x):X4r p [x]=some true:=Xi9 h (El.cons.2 ⟨hx,El.nil⟩)
theorem Xtk{p:Int}(hp:2≤p∧p≤65521):∀(f:Nat)(a:Int)(n:Nat)(x:Int),n<f→n≤1000→E1 p a→E1 p x→
  ∃r,X6a p f a (n:Int) x=some r∧E1 p r∧Cg p r (x*a ^ n)
 |0,a,n,x,h,_,_,_=>by omega
 |f+1,a,n,x,h,h2,ha,hx=>by
  rw[X6a]
  unfold Xd5
  by_cases hn:0<n
  ·rw[if_pos (by omega),Xpe n h2]
   have ed:(n:Int)/2=((n/2:Nat):Int):=by omega
   have hsq:Cg p (a*a%p) (a*a):=Cg.emod p _
   have key:∀y,E1 p y→Cg p (y*(a*a) ^ (n/2)) (x*a ^ n)→∃r,(X9w (X6a p f) a (n:Int) p) y=some r∧E1 p r∧Cg p r (x*a ^ n):=fun y hy hc=>by
    unfold X9w
    rw[nzp hp,Option.bind_some,mulm hp ha ha,ed]
    obtain⟨r,h3,h4,h5⟩:=Xtk hp f (a*a%p) (n/2) y (by omega) (by omega) (E1.emod hp.1 _) hy
    exact⟨r,h3,h4,h5.trans (((Cg.refl p y).mul (Cg.pow hsq _)).trans hc)⟩
   have hpw:(a*a) ^ (n/2)=a ^ (2*(n/2)):=by rw[Int.pow_mul,Int.pow_succ,Int.pow_succ,Int.pow_zero,Int.one_mul]
   by_cases h1:n%2=1
   ·rw[if_pos (by omega),nzp hp,Option.bind_some,mulm hp hx ha]
    refine key _ (E1.emod hp.1 _) (((Cg.emod p _).mul (Cg.refl p _)).trans (Cg.of ?_))
    rw[hpw,Int.mul_assoc,Int.mul_comm a, ← Int.pow_succ]
    congr 2;omega
   ·rw[if_neg (by omega)]
    refine key _ hx (Cg.of ?_)
    rw[hpw];congr 2;omega
  ·rw[if_neg (by omega)]
   have:n=0:=by omega
   subst this
   exact⟨x,rfl,hx,Cg.of (by simp)⟩
theorem Xhi{p:Int}(hp:2≤p):E1 p 1:=⟨by omega,by omega⟩
theorem Xln{p:Int}(hp:2≤p):E1 p 0:=⟨by omega,by omega⟩
theorem Xl1{p:Int}(hp:2≤p∧p≤65521){a:Int}(ha:E1 p a){n:Nat}(hn:n≤1000):∃r,Xaf p a (n:Int)=some r∧E1 p r∧Cg p r (a ^ n):=by
 unfold Xaf
 rw[nzp hp,Option.bind_some,md hp (by omega),Int.emod_eq_of_lt (by omega) (by omega)]
 obtain⟨r,h1,h2,h3⟩:=Xtk hp big a n 1 (by simp only [big];omega) hn ha (Xhi hp.1)
 exact⟨r,h1,h2,by rwa [Int.one_mul] at h3⟩
theorem Xs0{p:Int}(h:Fp p){a:Int}(ha:E1 p a):∃b,X93 p a=some b∧E1 p b:=by
 have hp:=h.rng
 have h2:=h.hi
 unfold X93
 obtain⟨r,r1,r2,_⟩:=Xl1 hp ha (n:=(p-2).toNat) (by omega)
 rw[show(((p-2).toNat:Nat):Int)=p-2 by omega] at r1
 rw[w64_id (by omega) (by omega),r1]
 exact⟨r,rfl,r2⟩
theorem Xm5:∀L:List (List Int),(∀l∈L,l.length≤512)→X5e L=some 0
 | [],_=>rfl
 |l::L,h=>by
  show X8v (X5e L) l=_
  unfold X8v
  have:=h l List.mem_cons_self
  rw[if_neg (by omega)]
  exact Xm5 L fun x hx=>h x (List.mem_cons_of_mem _ hx)
theorem Xm6{p:Int}(hf:Fp p)(kx:Int→Option Int):∀L:List (List Int),(∀l∈L,El p l)→X5g kx p L=kx p
 | [],_=>rfl
 |l::L,h=>by
  show X8w kx p (X5g kx p L) l=_
  unfold X8w
  rw[Xi9 hf (h l List.mem_cons_self),Option.bind_some,if_neg (by decide)]
  exact Xm6 hf kx L fun x hx=>h x (List.mem_cons_of_mem _ hx)
theorem Xjv{p:Int}(hf:Fp p){L:List (List Int)}(h:∀l∈L,El p l∧l.length≤512):X9m p L=some 0:=by
 unfold X9m
 rw[hf.ck,Option.bind_some,if_neg (by decide),Xm6 hf _ L (fun l hl=>(h l hl).1)]
 unfold X5f
 exact Xm5 L fun l hl=>(h l hl).2
theorem Xtl{p:Int}(hp:2≤p∧p≤65521){l:List Int}(hl:El p l)(hn:l.length≤1000){x:Int}(hx:E1 p x):∀(m f:Nat)(v:Int),m≤l.length→m<f→E1 p v→Cg p v (Alg.pv (l.drop m) x)→
  ∃r,X5h l x p f v ((m:Int)-1)=some r∧E1 p r∧Cg p r (Alg.pv l x)
 |m,0,v,_,h,_,_=>by omega
 |0,f+1,v,_,_,hv,hc=>by
  rw[X5h]
  unfold X8x
  rw[if_neg (by omega)]
  exact⟨v,rfl,hv,by rwa [List.drop_zero] at hc⟩
 |m+1,f+1,v,hm,hf,hv,hc=>by
  rw[X5h]
  unfold X8x
  have he:=El.gd hp.1 hl m
  rw[show((m+1:Nat):Int)-1=(m:Int) by omega,if_pos (by omega),X1x (by omega),Option.bind_some,nzp hp,Option.bind_some,w64_id (x:=(m:Int)-1) (by omega) (by omega)]
  have e:Int.tmod (w64 ((w64 (v*x))+Alg.gd l m)) p=(Alg.gd l m+v*x)%p:=by
   rw[Int.add_comm];exact accm hp he hv hx
  rw[e]
  refine Xtl hp hl hn hx m f _ (by omega) (by omega) (E1.emod hp.1 _) ?_
  rw[List.drop_eq_getElem_cons (show m<l.length by omega),Alg.pv,show l[m]'(by omega)=Alg.gd l m by simp [Alg.gd,List.getD_eq_getElem?_getD,show m<l.length by omega]]
  exact(Cg.emod p _).trans (((Cg.refl p (Alg.gd l m)).add (hc.mul (Cg.refl p x))).trans (Cg.of (by omega)))
theorem Xo2{p:Int}(hp:2≤p∧p≤65521){l:List Int}(hl:El p l)(hn:l.length≤1000){x:Int}(hx:E1 p x):∃r,X9n p l x=some r∧E1 p r∧Cg p r (Alg.pv l x):=by
 unfold X9n
 rw[w64_id (by omega) (by omega)]
 exact Xtl hp hl hn hx l.length big 0 (Nat.le_refl _) (by simp only [big];omega) (Xln hp.1) (by rw[List.drop_length];exact Cg.refl p 0)
theorem Xm7{p:Int}(hf:Fp p){l:List Int}(hl:El p l)(hn:l.length≤512){x:Int}(hx:E1 p x):∃r,X7t p l x=some (r,0)∧E1 p r∧Cg p r (Alg.pv l x):=by
 have hp:=hf.rng
 obtain⟨r,h1,h2,h3⟩:=Xo2 hp hl (by omega) hx
 refine⟨r,?_,h2,h3⟩
 unfold X7t
 rw[Xo1 hf hx,Option.bind_some,if_neg (by decide),Xjv hf (by
  intro l' hl'
  rw[List.mem_singleton.1 hl'];exact⟨hl,hn⟩),Option.bind_some,if_neg (by decide),h1]
 rfl
theorem Xtm(l:List Int){a:Int}(h:a=0):tn (l++[a])=tn l:=by
 subst h
 induction l with
 |nil=>rfl
 |cons b l ih=>rw[List.cons_append,tn,tn,ih]
theorem Xq3:∀(f:Nat)(l:List Int),l.length<f→l.length≤1000→X8g X46 f l=some (trim l)
 |0,l,h,_=>by omega
 |f+1,l,h,hn=>by
  rw[X8g]
  unfold Xc8
  rcases List.eq_nil_or_concat l with rfl | ⟨m,a,rfl⟩
  ·rw[if_neg (by simp),Option.bind_some,if_neg (by decide)]
   unfold X46
   rw[Xe (by simp),Option.bind_some];rfl
  ·have hl:(m++[a]).length=m.length+1:=by simp
   rw[List.concat_eq_append] at*
   rw[if_pos (by omega),w64_id (by omega) (by omega),show((m++[a]).length:Int)-1=(m.length:Int) by omega,X1x (by omega),Option.bind_some,Xhg]
   by_cases h0:a=0
   ·rw[decide_eq_true h0,Option.bind_some,if_pos rfl,Xas (by omega) (by omega) (by omega),Option.bind_some]
    have e:(((m++[a]).drop (0:Int).toNat).take ((m.length:Int)-0).toNat)=m:=by simp
    rw[e,Xq3 f m (by omega) (by omega)]
    unfold trim
    rw[Xtm m h0,List.take_append_of_le_length (Xlj m)]
   ·rw[decide_eq_false h0,Option.bind_some,if_neg (by decide)]
    unfold X46
    rw[Xe (by simp;omega),Option.bind_some,List.nil_append,Xku m h0]
theorem Xhj{l:List Int}(hn:l.length≤1000):X9y l=some (trim l):=Xq3 big l (by simp only [big];omega) hn
theorem Xlo:∀(l:List (Int×Bool))(i:Nat)(acc:List (Int×Int)),acc.length+l.length≤1000→i+l.length≤1000→X4a l i acc=some (acc++kn l i)
 | [],i,acc,_,_=>by simp [X4a,kn]
 |c::l,i,acc,h,h2=>by
  simp only [List.length_cons] at h h2
  show X91 (X4a l (i+1)) c i acc=_
  unfold X91 kn
  by_cases hc:c.2=true
  ·rw[if_pos hc,if_pos hc,w64_id (by omega) (by omega),Xe (by simp;omega),Option.bind_some,Xlo l (i+1) _ (by simp;omega) (by omega)]
   simp
  ·rw[if_neg hc,if_neg hc,Xlo l (i+1) _ (by omega) (by omega)]
theorem Xgq{l:List (Int×Bool)}(h:l.length≤1000):X7w l=some (kn l 0):=by
 unfold X7w
 rw[Xlo l 0 [] (by simpa using h) (by omega),List.nil_append]
end Go.Proofs.YtmfppphlhgneeaaGreat.Hh
end

section
namespace Go.Proofs.YtmfppphlhgneeaaGreat.Hh
set_option linter.unusedVariables false
open Alg (Cg Pr)
abbrev IR:=(List Int)×Int
section
variable{p:Int}(hp:2≤p∧p≤65521)
include hp
theorem Xtn(kx:List Int→Int→Option IR){c:Int}(hc:E1 p c):∀(xs:List Int)(i:Nat)(v:List Int),El p xs→i+xs.length≤v.length→v.length≤1000→El p v→
  ∃v',X1s kx c p xs i v=kx v' p∧v'.length=v.length∧El p v'
 | [],i,v,_,_,_,hv=>⟨v,rfl,rfl,hv⟩
 |x::xs,i,v,hx,hi,hl,hv=>by
  obtain⟨h1,h2⟩:=El.cons.1 hx
  simp only [List.length_cons] at hi
  show ∃v',X3y kx c p (X1s kx c p xs (i+1)) x i v=_∧_
  unfold X3y
  rw[X1x (by omega),Option.bind_some,nzp hp,Option.bind_some,Option.bind_some,X32 (by omega),Option.bind_some,accm hp (El.gd hp.1 hv i) hc h1]
  obtain⟨v',a,b,d⟩:=Xtn kx hc xs (i+1) (v.set i ((Alg.gd v i+c*x)%p)) h2 (by simp;omega) (by simpa using hl) (fun y hy=>by
   rcases List.mem_or_eq_of_mem_set hy with h |rfl
   ·exact hv y h
   ·exact E1.emod hp.1 _)
  exact⟨v',a,by simpa using b,d⟩
theorem Xto(rec:List Int→List Int→Int→Option IR){a:Int}(ha:E1 p a)(z:List Int):∀(xs:List Int)(i:Nat)(v:List Int),El p xs→i+xs.length+1≤v.length→v.length≤1000→El p v→
  ∃v',X1r rec a p z xs i v=rec z v' p∧v'.length=v.length∧El p v'
 | [],i,v,_,_,_,hv=>⟨v,rfl,rfl,hv⟩
 |x::xs,i,v,hx,hi,hl,hv=>by
  obtain⟨h1,h2⟩:=El.cons.1 hx
  simp only [List.length_cons] at hi
  show ∃v',X3x rec a p z (X1r rec a p z xs (i+1)) x i v=_∧_
  unfold X3x
  have hv1:El p (v.set (i+1) ((Alg.gd v (i+1)+x)%p)):=fun y hy=>by
   rcases List.mem_or_eq_of_mem_set hy with h |rfl
   ·exact hv y h
   ·exact E1.emod hp.1 _
  rw[w64_id (x:=(i:Int)+1) (by omega) (by omega),show(i:Int)+1=((i+1:Nat):Int) by omega,X1x (by omega),Option.bind_some,nzp hp,Option.bind_some,Option.bind_some,X32 (by omega),Option.bind_some,accs hp (El.gd hp.1 hv (i+1)) h1]
  rw[X1x (by rw[List.length_set];omega),Option.bind_some,Option.bind_some,Option.bind_some,X32 (by rw[List.length_set];omega),Option.bind_some,accn hp (El.gd hp.1 hv1 i) ha h1]
  obtain⟨v',g1,g2,g3⟩:=Xto rec ha z xs (i+1) ((v.set (i+1) ((Alg.gd v (i+1)+x)%p)).set i ((Alg.gd (v.set (i+1) ((Alg.gd v (i+1)+x)%p)) i+(p-a)*x)%p)) h2 (by simp;omega) (by simpa using hl) (fun y hy=>by
   rcases List.mem_or_eq_of_mem_set hy with h |rfl
   ·exact hv1 y h
   ·exact E1.emod hp.1 _)
  exact⟨v',g1,by simpa using g2,g3⟩
end
theorem Xtp{p:Int}(hf:Fp p)(V:List Int)(hV:El p V):∀(xs:List Int)(i:Nat)(q w:List Int),El p xs→i+xs.length≤V.length→V.length≤100→q.length≤w.length→w.length=i+1→El p q→El p w→
  ∃r,X8 X6 V xs i q w p=some (r,0)
 | [],i,q,w,_,hi,hl,h1,h2,h3,h4=>by
  rw[X8]
  unfold X6
  simp only [List.length_nil] at hi
  rw[Xhj (by omega)]
  exact⟨_,rfl⟩
 |x::xs,i,q,w,hx,hi,hl,h1,h2,h3,h4=>by
  obtain⟨k1,k2⟩:=El.cons.1 hx
  have hp:=hf.rng
  simp only [List.length_cons] at hi
  show ∃r,X3z X6 V (X8 X6 V xs (i+1)) x i q w p=_
  unfold X3z
  obtain⟨y,y1,y2,_⟩:=Xo2 hp h3 (by omega) k1
  obtain⟨z,z1,z2,_⟩:=Xo2 hp h4 (by omega) k1
  obtain⟨b,b1,b2⟩:=Xs0 hf z2
  have hVi:=El.gd hp.1 hV i
  have e0:Int.tmod (w64 ((w64 (Alg.gd V i+p))-y)) p=(Alg.gd V i+p-y)%p:=by
   have:=hVi.1;have:=hVi.2;have:=y2.1;have:=y2.2
   rw[w64_id (x:=Alg.gd V i+p) (by omega) (by omega),w64_id (by omega) (by omega),md hp (by omega)]
  rw[y1,Option.bind_some,z1,Option.bind_some,X1x (by omega),Option.bind_some,nzp hp,Option.bind_some,b1,Option.bind_some,Option.bind_some,lmk_ok _ (by omega),Option.bind_some,Xas (by omega) (by omega) (by omega),Option.bind_some,e0,mulm hp (E1.emod hp.1 _) b2]
  have hcl:(lcpy (List.replicate w.length (0:Int)) 0 ((List.drop (0:Int).toNat (List.replicate w.length (0:Int))).take (((List.replicate w.length (0:Int)).length:Int)-0).toNat).length q).length=w.length:=by
   rw[Xrp (by omega) (by simp),List.length_replicate]
  have hce:El p (lcpy (List.replicate w.length (0:Int)) 0 ((List.drop (0:Int).toNat (List.replicate w.length (0:Int))).take (((List.replicate w.length (0:Int)).length:Int)-0).toNat).length q):=Xte (X9h hp.1 _) h3 _ _
  obtain⟨q',q1,q2,q3⟩:=Xtn hp (X1f (X8 X6 V xs (i+1)) w x) (c:=(Alg.gd V i+p-y)%p*b%p) (E1.emod hp.1 _) w 0 _ h4 (by rw[hcl];omega) (by rw[hcl];omega) hce
  rw[q1]
  unfold X1f
  rw[w64_id (by omega) (by omega),show(w.length:Int)+1=((w.length+1:Nat):Int) by omega,lmk_ok _ (by omega),Option.bind_some]
  obtain⟨w',w1,w2,w3⟩:=Xto hp (X8 X6 V xs (i+1)) k1 q' w 0 (List.replicate (w.length+1) 0) h4 (by simp) (by simp;omega) (X9h hp.1 _)
  rw[w1]
  rw[List.length_replicate] at w2
  exact Xtp hf V hV xs (i+1) q' w' k2 (by omega) hl (by rw[q2,hcl,w2];omega) (by omega) q3 w3
theorem Xtq(rec:Int→Option IR){A:List Int}(hA:A.Pairwise (· ≠ ·)){i:Nat}(hi:i<A.length)(hl:A.length≤1000)(v:Int):∀(xs:List Int)(k:Nat),k+xs.length≤i→X1t rec (i:Int) A v xs k=rec v
 | [],_,_=>rfl
 |x::xs,k,hk=>by
  simp only [List.length_cons] at hk
  show X40 rec (i:Int) A v (X1t rec (i:Int) A v xs (k+1)) x k=_
  unfold X40
  have hne:Alg.gd A i≠Alg.gd A k:=fun e=>by
   have:=List.pairwise_iff_getElem.1 hA k i (by omega) hi (by omega)
   rw[show Alg.gd A i=A[i] by simp [Alg.gd,List.getD_eq_getElem?_getD,hi],show Alg.gd A k=A[k]'(by omega) by simp [Alg.gd,List.getD_eq_getElem?_getD,show k<A.length by omega]] at e
   exact this e.symm
  rw[X1x hi,Option.bind_some,X1x (by omega),Option.bind_some,if_neg hne]
  exact Xtq rec hA hi hl v xs (k+1) (by omega)
theorem Xtr(kx:Int→Option IR){A:List Int}(hA:A.Pairwise (· ≠ ·))(hl:A.length≤1000)(v:Int):∀(xs:List Int)(i:Nat),i+xs.length=A.length→Xp kx A xs i v=kx v
 | [],_,_=>rfl
 |x::xs,i,hi=>by
  simp only [List.length_cons] at hi
  show X41 kx A (Xp kx A xs (i+1)) x i v=_
  unfold X41
  rw[Xas (by omega) (by omega) (by omega),Option.bind_some,Xtq _ hA (by omega) hl v _ 0 (by simp;omega)]
  exact Xtr kx hA hl v xs (i+1) (by omega)
theorem Xq4(kx:List Int→List Int→Int→Option IR)(z:Int):∀(xs:List (Int×Int))(a b:List Int),a.length+xs.length≤1000→b.length+xs.length≤1000→X14 kx z xs a b=kx (a++xs.map (·.1)) (b++xs.map (·.2)) z
 | [],a,b,_,_=>by simp [X14]
 |x::xs,a,b,h1,h2=>by
  simp only [List.length_cons] at h1 h2
  show X39 kx z (X14 kx z xs) x a b=_
  unfold X39
  rw[Xe (by simp;omega),Option.bind_some,Xe (by simp;omega),Option.bind_some,Xq4 kx z xs _ _ (by simp;omega) (by simp;omega)]
  simp
theorem Xmy{p:Int}(hf:Fp p){l:List (Int×Int)}(hl:l.length≤32)(hA:El p (l.map (·.1)))(hV:El p (l.map (·.2)))(hd:(l.map (·.1)).Pairwise (· ≠ ·)):∃r,X64 p l=some (r,0):=by
 have hp:=hf.rng
 unfold X64
 rw[Xq4 _ _ _ _ _ (by simp;omega) (by simp;omega),List.nil_append,List.nil_append]
 unfold X1u
 rw[Xjv hf (by
  intro x hx
  simp only [List.mem_cons,List.not_mem_nil,or_false] at hx
  rcases hx with rfl |rfl
  ·exact⟨hA,by simp;omega⟩
  ·exact⟨hV,by simp;omega⟩),Option.bind_some,if_neg (by decide),Xtr _ hd (by simp;omega) _ _ 0 (by simp)]
 unfold Xo
 exact Xtp hf _ hV _ 0 [] [1] hA (by simp) (by simp;omega) (by simp) rfl El.nil (El.cons.2 ⟨Xhi hp.1,El.nil⟩)
theorem Xlp{p:Int}(hf:Fp p):∀(l:List (Int×Bool))(i:Nat),El p ((kn l i).map (·.2))→X5l p l=some 0
 | [],_,_=>rfl
 |c::l,i,h=>by
  show X92 p (X5l p l) c=_
  unfold X92
  unfold kn at h
  by_cases hc:c.2=true
  ·rw[if_pos hc,List.map_cons] at h
   obtain⟨h1,h2⟩:=El.cons.1 h
   rw[if_pos hc,Xo1 hf h1,Option.bind_some,Option.bind_some,if_neg (by decide)]
   exact Xlp hf l (i+1) h2
  ·rw[if_neg hc] at h
   rw[if_neg hc,Option.bind_some,if_neg (by decide)]
   exact Xlp hf l (i+1) h
section
variable{p:Int}(hf:Fp p){l:List (Int×Bool)}(hl:l.length≤32)(hlp:(l.length:Int)<p)(hE:El p ((kn l 0).map (·.2))){k:Nat}(hk:1≤k)(hk2:k≤(kn l 0).length)
include hf hl hlp hE hk hk2
theorem Xm8:Xb2 p l (k:Int)=some 0:=by
 have h3:=Xkv l 0
 unfold Xb2 Xe3
 rw[hf.ck,Option.bind_some,if_neg (by decide),if_neg (by omega),Xlp hf l 0 hE,Option.bind_some,if_neg (by decide),if_neg (by omega)]
theorem Xs1:∃r,Xdp p l (k:Int)=some (r,0):=by
 have h3:=Xkv l 0
 have hp:=hf.rng
 unfold Xdp
 rw[Xm8 hf hl hlp hE hk hk2,Option.bind_some,if_neg (by decide),Xgq (by omega),Option.bind_some,if_neg (by omega),Xas (by omega) (by omega) (by omega),Option.bind_some]
 have e:(((kn l 0).drop (0:Int).toNat).take ((k:Int)-0).toNat)=(kn l 0).take k:=by simp
 rw[e]
 have hlt:=Xrq l 0
 obtain⟨r,hr⟩:=Xmy hf (l:=(kn l 0).take k) (by simp;omega) (fun x hx=>by
  obtain⟨q,hq,rfl⟩:=List.mem_map.1 hx
  have:=Xgj l 0 q (List.mem_of_mem_take hq)
  exact⟨by omega,by omega⟩) (fun x hx=>by
  obtain⟨q,hq,rfl⟩:=List.mem_map.1 hx
  exact hE _ (List.mem_map.2 ⟨q,List.mem_of_mem_take hq,rfl⟩)) (by
  rw[List.map_take]
  exact(hlt.sublist (List.take_sublist _ _)).imp fun h=>by omega)
 rw[hr]
 exact⟨r,rfl⟩
end
abbrev KT:=(Int×Int×Int×(List Int)×(List Int))×Int
section
variable{p:Int}(hp:2≤p∧p≤65521){x:Int}(hx:E1 p x)
include hp hx
theorem Xts(kx:Int→Int→Int→Int→Int→(List Int)→Int→Int→Int→Int→Option KT){k v:Nat}(hkv:k+v≤100)(y z0 z1 z2 z3 z4 z5:Int):∀(m f i:Nat)(acc:List Int),i+m=k+v→m<f→acc.length+m≤10000→
  ∃P,X7y kx (k:Int) (v:Int) z0 z1 z2 x y z3 z4 z5 p f (i:Int) acc=kx x y z0 z1 z2 (acc++P) z3 z4 z5 p∧P.length=m∧El p P∧∀j,j<m→Cg p (Alg.gd P j) (x ^ (i+j))
 |m,0,i,acc,_,h,_=>by omega
 |0,f+1,i,acc,h,_,_=>by
  rw[X7y]
  unfold Xbr
  rw[w64_id (x:=(k:Int)+v) (by omega) (by omega),if_neg (by omega)]
  exact⟨[],by simp,rfl,El.nil,fun j hj=>by omega⟩
 |m+1,f+1,i,acc,h,hf,hl=>by
  rw[X7y]
  unfold Xbr
  obtain⟨r,r1,r2,r3⟩:=Xl1 hp hx (n:=i) (by omega)
  rw[w64_id (x:=(k:Int)+v) (by omega) (by omega),if_pos (by omega),r1,Option.bind_some,Xe (by simp;omega),Option.bind_some,w64_id (by omega) (by omega),show(i:Int)+1=((i+1:Nat):Int) by omega]
  obtain⟨P,g1,g2,g3,g4⟩:=Xts kx hkv y z0 z1 z2 z3 z4 z5 m f (i+1) (acc++[r]) (by omega) (by omega) (by simp;omega)
  refine⟨r::P,by rw[g1];simp,by simp [g2],El.cons.2 ⟨r2,g3⟩,fun j hj=>?_⟩
  cases j with
  |zero=>rw[Alg.Xlx,Nat.add_zero];exact r3
  |succ j=>rw[Alg.Xg9,show i+(j+1)=i+1+j by omega];exact g4 j (by omega)
theorem Xtt{y:Int}(hy:E1 p y)(kx:Int→Int→Int→Int→Int→(List Int)→Int→Int→Int→Int→Option KT){v:Nat}(hv:v≤100)(z0 z1 z2 z3 z4 z5:Int):∀(m f i:Nat)(acc:List Int),i+m=v→m<f→acc.length+m≤10000→
  ∃P,X7x kx (v:Int) z0 z1 z2 x y z3 z4 z5 p f (i:Int) acc=kx x y z0 z1 z2 (acc++P) z3 z4 z5 p∧P.length=m∧El p P∧∀j,j<m→Cg p (Alg.gd P j) (-(y*x ^ (i+j)))
 |m,0,i,acc,_,h,_=>by omega
 |0,f+1,i,acc,h,_,_=>by
  rw[X7x]
  unfold Xbq
  rw[if_neg (by omega)]
  exact⟨[],by simp,rfl,El.nil,fun j hj=>by omega⟩
 |m+1,f+1,i,acc,h,hf,hl=>by
  rw[X7x]
  unfold Xbq
  obtain⟨r,r1,r2,r3⟩:=Xl1 hp hx (n:=i) (by omega)
  rw[if_pos (by omega),r1,Option.bind_some,nzp hp,Option.bind_some,subn hp hy r2,Xe (by simp;omega),Option.bind_some,w64_id (by omega) (by omega),show(i:Int)+1=((i+1:Nat):Int) by omega]
  obtain⟨P,g1,g2,g3,g4⟩:=Xtt hy kx hv z0 z1 z2 z3 z4 z5 m f (i+1) (acc++[(p-y)*r%p]) (by omega) (by omega) (by simp;omega)
  refine⟨(p-y)*r%p::P,by rw[g1];simp,by simp [g2],El.cons.2 ⟨E1.emod hp.1 _,g3⟩,fun j hj=>?_⟩
  cases j with
  |zero=>
   rw[Alg.Xlx,Nat.add_zero]
   exact((Cg.emod p _).trans (cgn p y r)).trans ((Cg.refl p y).mul r3).neg
  |succ j=>rw[Alg.Xg9,show i+(j+1)=i+1+j by omega];exact g4 j (by omega)
end
theorem Xtu{p:Int}(hp:2≤p∧p≤65521){k v:Nat}(hkv:k+v+v≤32)(kx:Int→Int→Int→(List Int)→(List Int)→Int→Int→Int→Int→Option KT)(z1 z2 z3 z4 z5:Int):∀(K:List (Int×Int))(n:Nat)(cs Rt:List Int),(∀q∈K,E1 p q.1∧E1 p q.2)→n+K.length≤32→cs.length=n*(k+v+v)→Rt.length=n→
  ∃C R',Xx kx (k:Int) (v:Int) K z1 (n:Int) z2 cs Rt z3 z4 z5 p=kx z1 ((n+C.length:Nat):Int) z2 (cs++C.flatten) (Rt++R') z3 z4 z5 p∧KR p k v K C R'
 | [],n,cs,Rt,_,_,_,_=>⟨[],[],by simp [Xx],trivial⟩
 |q::K,n,cs,Rt,hq,hn,hc,hr=>by
  obtain⟨hx,hy⟩:=hq q List.mem_cons_self
  simp only [List.length_cons] at hn
  have hmul:n*(k+v+v)≤32*32:=Nat.mul_le_mul (by omega) hkv
  show ∃C R',Xbs kx (k:Int) (v:Int) (Xx kx (k:Int) (v:Int) K) q z1 (n:Int) z2 cs Rt z3 z4 z5 p=_∧_
  unfold Xbs
  rw[w64_id (x:=(n:Int)+1) (by omega) (by omega)]
  obtain⟨P,p1,p2,p3,p4⟩:=Xts hp hx (X6c (Xx kx (k:Int) (v:Int) K) (v:Int) Rt) (k:=k) (v:=v) (by omega) q.2 z1 ((n:Int)+1) z2 z3 z4 z5 (k+v) big 0 cs (by omega) (by simp only [big];omega) (by omega)
  rw[show((0:Nat):Int)=0 from rfl] at p1
  rw[p1]
  unfold X6c
  obtain⟨Q,q1,q2,q3,q4⟩:=Xtt hp hx hy (X6b (Xx kx (k:Int) (v:Int) K) (v:Int) Rt) (v:=v) (by omega) z1 ((n:Int)+1) z2 z3 z4 z5 v big 0 (cs++P) (by omega) (by simp only [big];omega) (by simp;omega)
  rw[show((0:Nat):Int)=0 from rfl] at q1
  rw[q1]
  unfold X6b
  obtain⟨r,r1,r2,r3⟩:=Xl1 hp hx (n:=v) (by omega)
  rw[r1,Option.bind_some,nzp hp,Option.bind_some,mulm hp hy r2,Xe (by simp;omega),Option.bind_some,show(n:Int)+1=((n+1:Nat):Int) by omega]
  obtain⟨C,R',c1,c2⟩:=Xtu hp hkv kx z1 z2 z3 z4 z5 K (n+1) (cs++P++Q) (Rt++[q.2*r%p]) (fun y hy=>hq y (List.mem_cons_of_mem _ hy)) (by omega) (by simp only [List.length_append,p2,q2,hc,Nat.add_mul,Nat.one_mul];omega) (by simp;omega)
  refine⟨(P++Q)::C,q.2*r%p::R',?_,⟨by simp [p2,q2],p3.app q3,E1.emod hp.1 _,fun j hj=>?_,?_⟩,c2⟩
  ·rw[c1]
   simp only [List.flatten_cons,List.append_assoc,List.cons_append,List.nil_append,List.length_cons]
   congr 2;omega
  ·unfold Alg.keyRow
   by_cases hj1:j<k+v
   ·rw[if_pos hj1,Xkw j (by omega)]
    have:=p4 j hj1
    rwa [Nat.zero_add] at this
   ·rw[if_neg hj1,if_pos hj]
    obtain⟨d,rfl⟩:∃d,j=k+v+d:=⟨j-(k+v),by omega⟩
    have:Alg.gd (P++Q) (k+v+d)=Alg.gd Q d:=by
     have:=Xll (l:=P) (m:=Q) d
     rwa [p2] at this
    rw[this,Nat.add_sub_cancel_left]
    have:=q4 d (by omega)
    rwa [Nat.zero_add] at this
  ·unfold Alg.keyRow
   rw[if_neg (by omega),if_neg (by omega)]
   exact(Cg.emod p _).trans ((Cg.refl p q.2).mul r3)
theorem Xtv{p:Int}(hf:Fp p){l:List (Int×Bool)}(hl:l.length≤32)(hlp:(l.length:Int)<p)(hE:El p ((kn l 0).map (·.2))){k v:Nat}(hk:1≤k)(hk2:k≤(kn l 0).length)(hkv:k+v+v≤32):
  ∃C R,Xeu p l (k:Int) (v:Int)=some ((p,(C.length:Int),((k+v+v:Nat):Int),C.flatten,R),0)∧KR p k v (kn l 0) C R:=by
 have hp:=hf.rng
 have h3:=Xkv l 0
 unfold Xeu
 rw[Xm8 hf hl hlp hE hk hk2,Option.bind_some,if_neg (by decide),w64_id (x:=2*(v:Int)) (by omega) (by omega),w64_id (x:=(k:Int)+2*(v:Int)) (by omega) (by omega),if_neg (by omega),Xgq (by omega),Option.bind_some,show(k:Int)+2*(v:Int)=((k+v+v:Nat):Int) by omega]
 obtain⟨C,R,h1,h2⟩:=Xtu hp hkv X1g p ((k+v+v:Nat):Int) 0 0 0 (kn l 0) 0 [] [] (fun q hq=>by
  have:=Xgj l 0 q hq
  exact⟨⟨by omega,by omega⟩,hE _ (List.mem_map.2 ⟨q,hq,rfl⟩)⟩) (by omega) (by simp) rfl
 refine⟨C,R,?_,h2⟩
 rw[show(((0:Nat)):Int)=0 from rfl] at h1
 rw[h1]
 unfold X1g
 simp
end Go.Proofs.YtmfppphlhgneeaaGreat.Hh
end
