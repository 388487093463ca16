/- What the proof needs, gathered by wip/gen/shake.py. -/
import Derived.Calls
import Derived.Deep.Quiet
import Derived.Below
import Derived.Laws.AppendOwn
import Derived.WalkKit
import Derived.Laws.OwnMore
import Derived.Deep.Slices
import Derived.ChangeOld
import Derived.ArgAppend
import Derived.RangeFuncIn
import Derived.RangeFuncRecord
import Derived.RangeFuncLeaves
import Derived.Laws.MakeOwn
import Derived.IntWalk
import Derived.Laws.IdiomStrings
import Derived.Laws.Cover3
import Derived.Laws.CopyOwn
import Derived.MapKept
import Derived.RangeFuncNested
import Derived.Test.YtnfalgmfmiolbaaGreatRows
import Derived.ProofKit
import Derived.OpenShut
import Derived.ShutString
import Derived.Test.YtnfalgmfmiolbaaGreatBoundsSettlesQ4
set_option linter.unusedVariables false
set_option linter.unusedSimpArgs false
set_option linter.unusedSectionVars false
section
set_option maxHeartbeats 4000000
set_option maxRecDepth 100000
namespace Go.Proofs.YtnfalgmfmiolbaaGreat
open Go.RowKit
set_option linter.unusedSimpArgs false
set_option linter.unusedVariables false
set_option synthInstance.maxSize 2000
set_option synthInstance.maxHeartbeats 400000
variable{Fs:Da}{G:Hp}{a0 a2 a1 a0_10 a0_11 a0_12 a0_13 a2_5 a2_6 a0_4 a0_5 a0_6 a0_7 a0_8 a0_14 a0_15 a1_5 a1_6:Ax}{k0 k2 k1 k0_10 k0_11 k0_12 k0_13 k2_5 k2_6 k0_4 k0_5 k0_6 k0_7 k0_8 k0_14 k0_15 k1_5 k1_6:Nat}{cc0_6 cc0_8:Be}
theorem Xdg{x0:An}{x1:Int}{x2:Ab}{x3:Int}{r:Bool}(hG:G∈Fs)(s0:SlR (Rep.pair ri ri) G a0 k0 x0)(s2:SlR ri G a2 k2 x2)(h:X7i x0 x1 x2 x3=some r):RetS Tryz.prog 140 #[.slice a0 x0.length k0, .int .i64 x1, .slice a2 x2.length k2, .int .i64 x3] Fs [] [] (rv (.bool r)):=by
 unfold X7i at h;try dsimp only at h
 refine RetS.st [(0,_),(1,_),(2,_),(3,_)] Tryz.func140 Tryz.ntmps140 hG fun w0 S0 hS0 B0=>?_;refine .go 8 ?_;obtain⟨u1,hu1,r2⟩:=X0 h;refine .cV [_,_] Tryz.call70 (Xan mcs s0 hu1) ?_;refine .go 3 ?_;refine .alloc .ro ty136 rfl (fun b5 hb5=>?_);refine .store 0 [_,_] [_] .ro rfl rfl rfl ty136 rfl rfl rfl rfl (.go 8 ?_);refine .cB r2 (fun c6 r7=>?_) (fun c6 r8=>?_);cases r7;refine .go 6 ?_;obtain⟨u9,hu9,r10⟩:=X0 r8;refine .cV [_,_] Tryz.call136 (Xc8 mcs s2 hu9) ?_;refine .go 11 ?_;refine .kR (fun y=>y=⟨[(34, .bool (decide ((u9.2=0)∧(u9.1=x3))))],G::Fs,[],[]⟩) [] [_] [0] [] [] 4 ?_ ?_;rintro _ rfl;refine .gn 2 ?_;cases r10;refine .drop 1 0 [] _ rfl rfl ?_;refine .rS [.tmp 8] [_] Tryz.func140 Tryz.results140 ⟨rfl,rfl,rfl⟩;intro hb14;refine .split 30 rfl (fun c13=>?_) (fun c13=>?_);refine .go 7 ?_;exact(hb14 _ rfl).ax ⟨X2l c13,trivial⟩;refine .go 4 ?_;exact(hb14 _ rfl).ax ⟨X2m c13,trivial⟩
theorem Xfk{x0 x1:Ab}{r:Bool}(hG:G∈Fs)(s0:SlR ri G a0 k0 x0)(s1:SlR ri G a1 k1 x1)(h:X9o x0 x1=some r):RetS Tryz.prog 141 #[.slice a0 x0.length k0, .slice a1 x1.length k1] Fs [] [] (rv (.bool r)):=by
 unfold X9o at h;try dsimp only at h
 refine RetS.st [(0,_),(1,_)] Tryz.func141 Tryz.ntmps141 hG fun w0 S0 hS0 B0=>?_;refine .go 13 ?_;refine .cH h (fun c1 r2=>?_) (fun c1 r3=>?_);cases r2;refine .go 6 ?_;refine .block ?_;refine .lp (fun y m=>∃(Z0:Nat)(Z1:_),y=⟨[(5, .int .i64 Z1)],[],[],[]⟩∧Z0=m∧X39 x0 x1 Z0 Z1=some r) [(0,_),(1,_)] [] [] ⟨big,0,rfl,rfl,r3⟩ (fun y m hI hb26=>?_);obtain⟨n22,v24,rfl,rfl,r25⟩:=hI;refine .gn 0 ?_;obtain⟨m30,rfl⟩:∃m,n22=m+1:=by cases n22 with |zero=>exact absurd (show(none:Option _)=some _ from r25) (by simp) |succ m=>exact⟨m,rfl⟩
 have r29:X6i x0 x1 (X39 x0 x1 m30) v24=some r:=r25;clear r25;unfold X6i at r29;try dsimp only at r29
 refine .go 8 ?_;refine .cH r29 (fun c31 r32=>?_) (fun c31 r46=>?_);refine .go 2 ?_;refine .block (.go 1 ?_);refine .drawL (.q 0 (.q 1 (.q 2 (.q 3 (.q 4 (.q 5 (.q 6 (.q 7 (.q 8 .nil))))))))) [] (by kernel_rfl) (by kernel_rfl) (X1 [] rfl) (.go 2 ?_);obtain⟨u33,hu33,r34⟩:=X0 r32;obtain⟨c35,p36,h37⟩:=SlR.get s0 hu33;obtain rfl:=h37;refine .dq (.idxR s0 rfl rfl hu33 sl41 ty3.sz) rfl (.dq (.load_rp p36 mcs rfl ty3 rfl) rfl (.go 2 ?_));obtain⟨u38,hu38,r39⟩:=X0 r34;obtain⟨c40,p41,h42⟩:=SlR.get s1 hu38;obtain rfl:=h42;refine .dq (.idxR s1 rfl rfl hu38 sl41 ty3.sz) rfl (.dq (.load_rp p41 mcs rfl ty3 rfl) rfl (.go 2 ?_));refine .cH r39 (fun c43 r44=>?_) (fun c43 r45=>?_);cases r44;refine .go 7 ?_;exact(hb26 _ _ ⟨m30,(w64 (v24+1)),rfl,rfl,r45⟩ (Nat.lt_succ_self _)).ar;refine .exit rfl ?_;refine .go 4 ?_;cases r46;refine .rS [.tmp 4] [_] Tryz.func141 Tryz.results141 ⟨rfl,rfl,rfl⟩
theorem X99{x0_0 x0_1 x0_2 x0_3 x0_4 x0_5 x0_6 x0_7 x0_8 x0_9:Int}{x0_10:Ab}{x0_11:Bn}{x0_12:Aw}{x0_13:Ah}{x0_14:Bool}{x1:An}{x2_0 x2_1 x2_2 x2_3 x2_4:Int}{x2_5 x2_6:Ab}{x2_7:Int}{r:Ad×Int}(hG:G∈Fs)(s0_10:SlR ri G a0_10 k0_10 x0_10)(s0_11:SlR (Rep.sl (Rep.sl ri)) G a0_11 k0_11 x0_11)(s0_12:SlR (Rep.sl (Rep.pair Rep.bool (Rep.sl ri))) G a0_12 k0_12 x0_12)(s0_13:SlR (Rep.sl ri) G a0_13 k0_13 x0_13)(s1:SlR (Rep.pair ri ri) G a1 k1 x1)(s2_5:SlR ri G a2_5 k2_5 x2_5)(s2_6:SlR ri G a2_6 k2_6 x2_6)(h:X9p (x0_0,(x0_1,x0_2,x0_3,x0_4),(x0_5,x0_6,x0_7,x0_8,x0_9),x0_10,x0_11,x0_12,x0_13,x0_14) x1 (x2_0,x2_1,x2_2,x2_3,x2_4,x2_5,x2_6,x2_7)=some r):RetW Tryz.prog 134 #[.agg #[.int .i64 x0_0, .int .i64 x0_1, .int .i64 x0_2, .int .i64 x0_3, .int .i64 x0_4, .int .i64 x0_5, .int .i64 x0_6, .int .i64 x0_7, .int .i64 x0_8, .int .i64 x0_9, .slice a0_10 x0_10.length k0_10, .slice a0_11 x0_11.length k0_11, .slice a0_12 x0_12.length k0_12, .slice a0_13 x0_13.length k0_13, .bool x0_14], .slice a1 x1.length k1, .agg #[.int .i64 x2_0, .int .i64 x2_1, .int .i64 x2_2, .int .i64 x2_3, .int .i64 x2_4, .slice a2_5 x2_5.length k2_5, .slice a2_6 x2_6.length k2_6, .int .i64 x2_7]] Fs [] [] (fun v bo so G=>∃a0:Option Addr,∃k0:Nat,∃a1:Option Addr,∃k1:Nat,∃a2:Option Addr,∃k2:Nat,∃a3:Option Addr,∃k3:Nat,v= .tuple #[.agg #[.int .i64 r.1.1, .int .i64 r.1.2.1.1, .int .i64 r.1.2.1.2.1, .int .i64 r.1.2.1.2.2.1, .int .i64 r.1.2.1.2.2.2, .int .i64 r.1.2.2.1.1, .int .i64 r.1.2.2.1.2.1, .int .i64 r.1.2.2.1.2.2.1, .int .i64 r.1.2.2.1.2.2.2.1, .int .i64 r.1.2.2.1.2.2.2.2, .slice a0 r.1.2.2.2.1.length k0, .slice a1 r.1.2.2.2.2.1.length k1, .slice a2 r.1.2.2.2.2.2.1.length k2, .slice a3 r.1.2.2.2.2.2.2.1.length k3, .bool r.1.2.2.2.2.2.2.2], .int .i64 r.2]∧bo=[]∧so=[]∧SlR ri G a0 k0 r.1.2.2.2.1∧SlR (Rep.sl (Rep.sl ri)) G a1 k1 r.1.2.2.2.2.1∧SlR (Rep.sl (Rep.pair Rep.bool (Rep.sl ri))) G a2 k2 r.1.2.2.2.2.2.1∧SlR (Rep.sl ri) G a3 k3 r.1.2.2.2.2.2.2.1):=by
 unfold X9p at h
 try dsimp only at h
 refine RetW.st [(0,_),(1,_),(2,_)] Tryz.func134 Tryz.ntmps134 hG fun w0 S0 hS0 B0=>?_
 refine .go 2 ?_
 refine .box [_,_,_,_,_,_,_,_,_,_,_,_,_,_,_] .ro rfl rfl rfl (fun b1 hb1=>?_)
 refine .box [_,_,_,_,_,_,_,_] .ro rfl rfl rfl (fun b2 hb2=>?_)
 refine .alloc .ro ty162 rfl (fun b3 hb3=>?_)
 refine .go 8 ?_
 refine .cB h (fun c4 r5=>?_) (fun c4 r6=>?_)
 ·refine .go 2 ?_
  refine .q .ro (.load_own_a 2 [_,_,_,_,_,_,_,_,_,_,_,_,_,_,_] rfl rfl ty162 rfl) rfl (.store 0 [_,_,_,_,_,_,_,_,_,_,_,_,_,_,_] [_,_,_] .ro rfl rfl rfl ty162 rfl rfl rfl rfl (.go 2 ?_))
  cases r5
  refine .rW 3 [.cell 6 162, .tmp 7] [_,_] Tryz.func134 Tryz.results134 ⟨RV.cell_a 0 [_,_,_,_,_,_,_,_,_,_,_,_,_,_,_] rfl rfl ty162 rfl,RV.tmp rfl,trivial⟩ B0 hS0 (fun G' hg=>⟨a0_10,k0_10,a0_11,k0_11,a0_12,k0_12,a0_13,k0_13,rfl,rfl,rfl,(SlR.mono hg s0_10),(SlR.mono hg s0_11),(SlR.mono hg s0_12),(SlR.mono hg s0_13)⟩)
 ·refine .go 3 ?_
  refine .drawL (.q 0 (.q 1 (.q 2 (.q 3 (.q 4 (.q 5 (.q 6 (.q 7 (.q 8 (.q 9 (.q 10 (.q 11 (.q 12 (.q 13 (.q 14 (.q 15 (.q 16 (.q 17 (.q 18 (.q 19 (.q 20 (.q 21 (.q 22 (.q 23 (.q 24 (.q 25 (.q 26 (.q 27 (.q 28 (.q 29 (.q 30 (.q 31 (.q 32 (.q 33 (.q 34 (.q 35 (.q 36 (.q 37 (.q 38 (.q 39 (.q 40 (.q 41 (.q 42 (.q 43 (.q 44 (.q 45 (.q 46 (.q 47 (.q 48 (.q 49 (.q 50 (.q 51 (.q 52 (.q 53 (.q 54 (.q 55 (.q 56 (.q 57 (.e 58 1 (.q 59 (.q 60 (.q 61 (.q 62 (.q 63 (.q 64 (.q 65 (.q 66 (.q 67 (.q 68 (.q 69 .nil)))))))))))))))))))))))))))))))))))))))))))))))))))))))))))))))))))))) [_,_,_] (by kernel_rfl) (by kernel_rfl) (X1 [0,1,2] rfl) (.go 4 ?_)
  refine .kD (fun y=>y=⟨[(23, .bool (decide ((x2_0≠2)∨(x2_1≠x0_0))))],G::Fs,[],[]⟩) [(1,_),(3,_),(5,_),(6,_)] [_,_,_] [0,1,2] [] [] 6 ?_ ?_
  ·as_aux_lemma=>
   rintro _ rfl
   refine .gn 1 ?_
   refine .kD (fun y=>y=⟨[(31, .bool (decide (((x2_0≠2)∨(x2_1≠x0_0))∨(x2_4≠x0_5))))],G::Fs,[],[]⟩) [(1,_),(3,_),(5,_),(6,_)] [_,_,_] [0,1,2] [] [] 7 ?_ ?_
   ·as_aux_lemma=>
    rintro _ rfl
    refine .gn 1 ?_
    refine .kD (fun y=>y=⟨[(36, .bool (decide ((((x2_0≠2)∨(x2_1≠x0_0))∨(x2_4≠x0_5))∨(x2_2<0))))],G::Fs,[],[]⟩) [(1,_),(3,_),(5,_),(6,_)] [_,_,_] [0,1,2] [] [] 4 ?_ ?_
    ·as_aux_lemma=>
     rintro _ rfl
     refine .gn 1 ?_
     refine .kD (fun y=>y=⟨[(44, .bool (decide (((((x2_0≠2)∨(x2_1≠x0_0))∨(x2_4≠x0_5))∨(x2_2<0))∨((x0_11.length:Int)≤x2_2))))],G::Fs,[],[]⟩) [(1,_),(3,_),(5,_),(6,_)] [_,_,_] [0,1,2] [] [] 7 ?_ ?_
     ·as_aux_lemma=>
      rintro _ rfl
      refine .gn 1 ?_
      refine .kD (fun y=>y=⟨[(49, .bool (decide ((((((x2_0≠2)∨(x2_1≠x0_0))∨(x2_4≠x0_5))∨(x2_2<0))∨((x0_11.length:Int)≤x2_2))∨(x2_3<1))))],G::Fs,[],[]⟩) [(1,_),(3,_),(5,_),(6,_)] [_,_,_] [0,1,2] [] [] 4 ?_ ?_
      ·as_aux_lemma=>
       rintro _ rfl
       refine .gn 1 ?_
       refine .kD (fun y=>y=⟨[(57, .bool (decide (((((((x2_0≠2)∨(x2_1≠x0_0))∨(x2_4≠x0_5))∨(x2_2<0))∨((x0_11.length:Int)≤x2_2))∨(x2_3<1))∨(x0_2<x2_3))))],G::Fs,[],[]⟩) [(1,_),(3,_),(5,_),(6,_)] [_,_,_] [0,1,2] [] [] 7 ?_ ?_
       ·as_aux_lemma=>
        rintro _ rfl
        refine .gn 1 ?_
        obtain⟨u53,h54,r55⟩:=X0 r6
        refine .kD (fun y=>y=⟨[(74, .bool u53)],G::Fs,[],[]⟩) [(1,_),(3,_),(5,_),(6,_)] [_,_,_] [0,1,2] [] [] 16 ?_ ?_
        ·as_aux_lemma=>
         rintro _ rfl
         refine .gn 1 ?_
         refine .kD (fun y=>y=⟨[(83, .bool (decide ((u53=true)∨((x2_6.length:Int)≠x0_8))))],G::Fs,[],[]⟩) [(1,_),(3,_),(5,_),(6,_)] [_,_,_] [0,1,2] [] [] 8 ?_ ?_
         ·as_aux_lemma=>
          rintro _ rfl
          refine .gn 1 ?_
          refine .cH r55 (fun c62 r63=>?_) (fun c62 r64=>?_)
          ·refine .go 2 ?_
           refine .q .ro (.load_own_a 2 [_,_,_,_,_,_,_,_,_,_,_,_,_,_,_] rfl rfl ty162 rfl) rfl (.store 0 [_,_,_,_,_,_,_,_,_,_,_,_,_,_,_] [_,_,_] .ro rfl rfl rfl ty162 rfl rfl rfl rfl (.go 2 ?_))
           cases r63
           refine .rW 3 [.cell 6 162, .tmp 7] [_,_] Tryz.func134 Tryz.results134 ⟨RV.cell_a 0 [_,_,_,_,_,_,_,_,_,_,_,_,_,_,_] rfl rfl ty162 rfl,RV.tmp rfl,trivial⟩ B0 hS0 (fun G' hg=>⟨a0_10,k0_10,a0_11,k0_11,a0_12,k0_12,a0_13,k0_13,rfl,rfl,rfl,(SlR.mono hg s0_10),(SlR.mono hg s0_11),(SlR.mono hg s0_12),(SlR.mono hg s0_13)⟩)
          ·refine .go 6 ?_
           refine .kB (fun y=>∃(Z0 Z1 Z2 Z3 Z4 Z5 Z6 Z7 Z8 Z9 Z10 Z11 Z12 Z13 Z14 Z15 Z16 Z17 Z18 Z19 Z20 Z21 Z22 Z23 Z24 Z25 Z26 Z27:_),y=⟨[],G::Fs,[(b3, .cells #[.int .i64 Z0, .int .i64 Z1, .int .i64 Z2, .int .i64 Z3, .int .i64 Z4, .int .i64 Z5, .int .i64 Z6, .int .i64 Z7, .int .i64 Z8, .int .i64 Z9, .slice none 0 0, .slice none 0 0, .slice none 0 0, .slice none 0 0, .bool Z10] 162 (0,0)),(b2, .cells #[.int .i64 Z11, .int .i64 Z12, .int .i64 Z13, .int .i64 Z14, .int .i64 Z15, .slice a2_5 x2_5.length k2_5, .slice a2_6 x2_6.length k2_6, .int .i64 Z16] 105 (0,0)),(b1, .cells #[.int .i64 Z17, .int .i64 Z18, .int .i64 Z19, .int .i64 Z20, .int .i64 Z21, .int .i64 Z22, .int .i64 Z23, .int .i64 Z24, .int .i64 Z25, .int .i64 Z26, .slice a0_10 x0_10.length k0_10, .slice a0_11 x0_11.length k0_11, .slice a0_12 x0_12.length k0_12, .slice a0_13 x0_13.length k0_13, .bool Z27] 162 (0,0))],[]⟩∧(X11 x1 x2_5 x2_6 x0_10 x0_11 x0_12 x0_13) Z0 Z1 Z2 Z3 Z4 Z5 Z6 Z7 Z8 Z9 Z10 Z11 Z12 Z13 Z14 Z15 Z16 Z17 Z18 Z19 Z20 Z21 Z22 Z23 Z24 Z25 Z26 Z27=some r) [(1,_),(3,_),(5,_),(6,_)] [] [] [] [] ?_ ?_
           ·as_aux_lemma=>
            rintro _ ⟨v29,v33,v34,v35,v36,v37,v38,v39,v40,v42,v43,v44,v45,v46,v47,v48,v49,v56,v57,v60,v61,v65,v66,v67,v68,v69,v70,v71,rfl,r72⟩
            refine .gn 0 ?_
            unfold X11 at r72
            try dsimp only at r72
            refine .go 2 ?_
            refine .drawL (.q 0 (.q 1 (.q 2 (.q 3 (.q 5 (.q 6 (.e 4 1 (.e 7 1 (.q 8 .nil))))))))) [_,_,_] (by kernel_rfl) (by kernel_rfl) (X1 [0,1,2] rfl) (.go 3 ?_)
            refine .dq (.load_own_a 1 [_,_,_,_,_,_,_,_] rfl rfl ty105 rfl) rfl (.go 2 ?_)
            obtain⟨u73,hu73,r74⟩:=X0 r72
            refine .cSd [_] Tryz.call137 (Xap mcs s2_5 s2_6 hu73) (fun v75 bo so h76=>?_)
            obtain⟨a77,k78,cs79,rfl,rfl,rfl,o80⟩:=h76
            refine .gn 0 ?_
            refine .clsL (HpLe.refl _) (X1 [0,1,2] rfl) ?_
            refine .freezeR 0 rfl rfl o80 [] rfl B0 (fun G81 e82 B83 s84=>?_)
            obtain⟨u85,hu85,r86⟩:=X0 r74
            refine .cVd [_,_,_,_] Tryz.call140 (Xdg mcs (SlR.mono e82 s1) s84 hu85) ?_
            refine .clsL e82 (X1 [0,1,2] rfl) (.go 2 ?_)
            refine .cB r86 (fun c87 r88=>?_) (fun c87 r89=>?_)
            ·refine .go 2 ?_
             refine .q .ro (.load_own_a 2 [_,_,_,_,_,_,_,_,_,_,_,_,_,_,_] rfl rfl ty162 rfl) rfl (.store 0 [_,_,_,_,_,_,_,_,_,_,_,_,_,_,_] [_,_,_] .ro rfl rfl rfl ty162 rfl rfl rfl rfl (.go 2 ?_))
             cases r88
             refine .rW 3 [.cell 6 162, .tmp 7] [_,_] Tryz.func134 Tryz.results134 ⟨RV.cell_a 0 [_,_,_,_,_,_,_,_,_,_,_,_,_,_,_] rfl rfl ty162 rfl,RV.tmp rfl,trivial⟩ B83 hS0 (fun G' hg=>⟨a0_10,k0_10,a0_11,k0_11,a0_12,k0_12,a0_13,k0_13,rfl,rfl,rfl,(SlR.mono hg (SlR.mono e82 s0_10)),(SlR.mono hg (SlR.mono e82 s0_11)),(SlR.mono hg (SlR.mono e82 s0_12)),(SlR.mono hg (SlR.mono e82 s0_13))⟩)
            ·refine .go 3 ?_
             refine .drawL (.q 0 (.q 1 (.q 2 (.q 3 (.q 4 (.q 5 (.q 6 (.q 7 (.q 8 (.q 9 (.q 10 (.q 11 .nil)))))))))))) [_,_,_] (by kernel_rfl) (by kernel_rfl) (X1 [0,1,2] rfl) (.go 4 ?_)
             obtain⟨u90,hu90,r91⟩:=X0 r89
             obtain⟨c92,p93,h94⟩:=SlR.get (SlR.mono e82 s0_12) hu90
             obtain⟨a95,k96,rfl,s97⟩:=h94
             refine .dq (.idxR (SlR.mono e82 s0_12) rfl rfl hu90 sl160 ty228.sz) rfl (.dq (.load_rp p93 mcs rfl ty228 rfl) rfl (.go 3 ?_))
             obtain⟨u98,hu98,r99⟩:=X0 r91
             obtain⟨c100,p101,h102⟩:=SlR.get s97 hu98
             obtain⟨_,_,rfl,rfl,a103,k104,rfl,s106⟩:=h102
             refine .dq (.idxR s97 rfl rfl hu98 sl228 ty243.sz) rfl (.dq (.fieldAddr_rp p101 rfl Xhj ty4.sz) rfl (.dq (.load_rp (p101.add _) mcs rfl ty4 rfl) rfl (.go 1 ?_)))
             refine .cB r99 (fun c107 r108=>?_) (fun c107 r109=>?_)
             ·refine .go 2 ?_
              refine .q .ro (.load_own_a 2 [_,_,_,_,_,_,_,_,_,_,_,_,_,_,_] rfl rfl ty162 rfl) rfl (.store 0 [_,_,_,_,_,_,_,_,_,_,_,_,_,_,_] [_,_,_] .ro rfl rfl rfl ty162 rfl rfl rfl rfl (.go 2 ?_))
              cases r108
              refine .rW 3 [.cell 6 162, .tmp 7] [_,_] Tryz.func134 Tryz.results134 ⟨RV.cell_a 0 [_,_,_,_,_,_,_,_,_,_,_,_,_,_,_] rfl rfl ty162 rfl,RV.tmp rfl,trivial⟩ B83 hS0 (fun G' hg=>⟨a0_10,k0_10,a0_11,k0_11,a0_12,k0_12,a0_13,k0_13,rfl,rfl,rfl,(SlR.mono hg (SlR.mono e82 s0_10)),(SlR.mono hg (SlR.mono e82 s0_11)),(SlR.mono hg (SlR.mono e82 s0_12)),(SlR.mono hg (SlR.mono e82 s0_13))⟩)
             ·refine .go 2 ?_
              refine .kG (fun y=>∃(Z0:Aw)(Z1:_)(Z2:Nat)(Z3:_)(Z4:Ah)(Z5:_)(Z6:Nat)(Z7:_),y=⟨[(9, .slice Z1 Z0.length Z2),(10, .slice Z5 Z4.length Z6)],G81::Fs,[],[.s (.slice Z1 Z0.length Z2) 228 1 Z0.length Z3, .s (.slice Z5 Z4.length Z6) 41 1 Z4.length Z7]⟩∧OL (Rep.sl (Rep.pair Rep.bool (Rep.sl ri))) G81 Z3 Z0∧OL (Rep.sl ri) G81 Z7 Z4∧(X6j v46 v47 x2_6 v49 v56 v57 v60 v61 v65 v66 v67 v68 v69 v70 x0_10 x0_11 v71) Z0 Z4=some r) [(3,_),(5,_),(6,_)] [_,_,_] [0,1,2] [] [] ?_ ?_
              ·as_aux_lemma=>
               rintro _ ⟨v110,a111,k112,cs113,v114,a115,k116,cs117,rfl,o118,o119,r120⟩
               refine .gn 0 ?_
               unfold X6j at r120
               try dsimp only at r120
               refine .go 1 ?_
               obtain⟨u121,hu121,r122⟩:=X0 r120
               obtain⟨u123,hu123,r124⟩:=X0 r122
               obtain⟨u125,hu125,r126⟩:=X0 r124
               obtain⟨u127,hu127,r128⟩:=X0 r126
               obtain⟨u129,hu129,r130⟩:=X0 r128
               obtain⟨u131,hu131,r132⟩:=X0 r130
               refine .kG (fun y=>∃(Z1:_)(Z2:Nat)(Z3:_)(Z4:_)(Z5:Nat)(Z6:_)(Z7:_)(Z8:_),y=⟨[],G81::Fs,[],[.s (.slice Z4 u127.length Z5) 3 1 u127.length Z6, .s (.slice Z1 u125.length Z2) 243 2 u125.length Z3, .s (.slice a111 v110.length k112) 228 1 v110.length Z7, .s (.slice a115 v114.length k116) 41 1 v114.length Z8]⟩∧OL (Rep.pair Rep.bool (Rep.sl ri)) G81 Z3 u125∧OL ri G81 Z6 u127∧Elem 1 Z7 (v46).toNat (cellsL (.slice Z1 u125.length Z2))∧(∀(G':Hp)(y:_)(l':List (List (Bool×List Int))),HpLe G81 G'→lupd v110 v46 y=some l'→(Rep.sl (Rep.pair Rep.bool (Rep.sl ri))).r G' (cellsL (.slice Z1 u125.length Z2)) y→OL (Rep.sl (Rep.pair Rep.bool (Rep.sl ri))) G' Z7 l')∧Elem 1 Z8 (v46).toNat (cellsL (.slice Z4 u127.length Z5))∧(∀(G':Hp)(y:_)(l':List (List Int)),HpLe G81 G'→lupd v114 v46 y=some l'→(Rep.sl ri).r G' (cellsL (.slice Z4 u127.length Z5)) y→OL (Rep.sl ri) G' Z8 l')) [(9,_),(10,_),(3,_),(5,_),(6,_)] [_,_,_] [0,1,2] [] [] ?_ ?_
               ·as_aux_lemma=>
                 rintro _ ⟨a133,k135,cs136,a138,k139,cs142,cs143,cs144,rfl,o145,o146,el147,cl148,el149,cl150⟩
                 refine .gn 1 ?_
                 refine .draw2 (.q 0 (.q 1 (.q 2 (.q 3 (.q 4 (.q 5 (.q 6 (.q 7 (.q 9 (.q 10 (.e 8 1 (.e 11 1 (.q 12 (.e 13 1 (.e 14 1 .nil))))))))))))))) [3,4] [0,1,2,3,4,5,6,7,8,9,10,11,12,13,14] [0,1,2,3,4,5,6,7,8,9,10,11,12,13,14] [_,_,_] [_] (by kernel_rfl) (by kernel_rfl) (X1 [0,1,2] rfl) (X1 [2] rfl) (.dq2 (.move rfl) rfl (.dq2 (.fieldAddr 2 rfl Xbc ty3.sz rfl) rfl (.dq2 (.load_own 1 rfl rfl ty3 rfl) rfl ?_)))
                 obtain⟨u151,hu151,r152⟩:=X0 r132
                 refine .dq2 (.idxO 0 rfl rfl rfl hu151 sl160 ty228.sz) rfl (.dq2 (.loadO 0 0 rfl hu151 el147 rfl (.inl ⟨rfl,rfl⟩) ty228 rfl) rfl (.dq2 (.fieldAddr 3 rfl Xft ty3.sz rfl) rfl (.dq2 (.load_own 1 rfl rfl ty3 rfl) rfl (.dq2 (.subw rfl rfl) rfl (.dq2 (.fieldAddr 6 rfl Xhc ty41.sz rfl) rfl (.dq2 (.load_own 1 rfl rfl ty41 rfl) rfl ?_))))))
                 refine .lit [] [] .t1 sl41 ty3 rfl rfl rfl rfl rfl rfl (fun b153 hb153=>?_)
                 have o154:OL ri G81 [] ([]:List Int):=((OL.nil (Rp':=ri)) :)
                 refine .reval 171 (n':=([]:List Int).length) rfl rfl (.cls2a (HpLe.refl _) (X1 [0,1,2] rfl) (X1 [3] rfl) ?_)
                 obtain⟨u155,hu155,r156⟩:=X0 r152
                 refine .appR (Q:=ri) 0 .t1 sl41 ty3 rfl rfl rfl rfl rfl o154 rfl rfl (SlR.mono e82 s2_6) rfl mcs hu155 rfl (fun a157 k158 cs161 o163=>?_)
                 refine .cls2a (HpLe.refl _) (X1 [0,1,2] rfl) (X1 [3] rfl) (.dq2 (.build [_,_] [(0,_),(1,_)] ty243 pl243 rfl rfl) rfl ?_)
                 obtain⟨u164,hu164,r165⟩:=X0 r156
                 obtain⟨c166,p167,h168⟩:=OL.get o145 hu164
                 obtain⟨_,_,rfl,rfl,a169,k170,rfl,s171⟩:=h168
                 refine .q .t1 (.idxO 2 rfl rfl rfl hu164 sl228 ty243.sz) rfl (.cls2a (HpLe.refl _) (X1 [0,1,2] rfl) (X1 [3] rfl) ?_)
                 refine .freezeR 0 rfl rfl o163 [_,_,_,_] rfl B83 (fun G172 e173 B174 s175=>?_)
                 obtain⟨u176,hu176,r177⟩:=X0 r165
                 refine .storeR 1 0 (Q:=(Rep.pair Rep.bool (Rep.sl ri))) .t1 rfl rfl (OL.mono e173 o145) hu176 rfl (.inl ⟨rfl,rfl⟩) rfl ty243 p167 ((Rep.pairI (Rep.boolI true) (Rep.slI s175)) :) rfl rfl (fun cs178 hlcs178 o179=>?_)
                 refine .reval 167 hlcs178 rfl (.cls2a e173 (X1 [0,1,2] rfl) (X1 [2] rfl) (.draw_end2 (.go 1 ?_)))
                 refine .draw2 (.q 0 (.q 1 (.q 2 (.q 3 (.q 4 (.q 5 (.q 6 (.q 7 (.q 8 (.q 9 (.e 10 1 (.e 11 1 .nil)))))))))))) [3,4] [0,1,2,3,4,5,6,7,8,9,10,11] [0,1,2,3,4,5,6,7,8,9,10,11] [_,_,_] [_] (by kernel_rfl) (by kernel_rfl) (X1 [0,1,2] rfl) (X1 [3] rfl) (.dq2 (.move rfl) rfl (.dq2 (.fieldAddr 2 rfl Xbc ty3.sz rfl) rfl (.dq2 (.load_own 1 rfl rfl ty3 rfl) rfl ?_)))
                 obtain⟨u180,hu180,r181⟩:=X0 r177
                 refine .dq2 (.idxO 0 rfl rfl rfl hu180 sl50 ty41.sz) rfl (.dq2 (.loadO 0 0 rfl hu180 el149 rfl (.inl ⟨rfl,rfl⟩) ty41 rfl) rfl (.dq2 (.fieldAddr 3 rfl Xft ty3.sz rfl) rfl (.dq2 (.load_own 1 rfl rfl ty3 rfl) rfl (.dq2 (.subw rfl rfl) rfl (.dq2 (.fieldAddr 7 rfl Xhd ty3.sz rfl) rfl (.dq2 (.load_own 1 rfl rfl ty3 rfl) rfl ?_))))))
                 obtain⟨u182,hu182,r183⟩:=X0 r181
                 obtain⟨c184,p185,h186⟩:=OL.get (OL.mono e173 o146) hu182
                 obtain rfl:=h186
                 refine .q .t1 (.idxO 0 rfl rfl rfl hu182 sl41 ty3.sz) rfl (.cls2a (HpLe.refl _) (X1 [0,1,2] rfl) (X1 [3] rfl) ?_)
                 obtain⟨u187,hu187,r188⟩:=X0 r183
                 refine .storeR 0 0 (Q:=ri) .t1 rfl rfl (OL.mono e173 o146) hu187 rfl (.inl ⟨rfl,rfl⟩) rfl ty3 p185 ((Rep.intI .i64 v49) :) rfl rfl (fun cs189 hlcs189 o190=>?_)
                 refine .reval 181 hlcs189 rfl (.cls2a (HpLe.refl _) (X1 [0,1,2] rfl) (X1 [3] rfl) (.draw_end2 (.go 5 ?_)))
                 refine .store 2 [_,_,_,_,_,_,_,_,_,_,_,_,_,_,_] [_,_,_] .ro rfl rfl rfl ty160 rfl rfl rfl rfl (.go 1 ?_)
                 refine .store 2 [_,_,_,_,_,_,_,_,_,_,_,_,_,_,_] [_,_,_] .ro rfl rfl rfl ty50 rfl rfl rfl rfl (.go 3 ?_)
                 refine .q .ro (.load_own_a 2 [_,_,_,_,_,_,_,_,_,_,_,_,_,_,_] rfl rfl ty162 rfl) rfl (.store 0 [_,_,_,_,_,_,_,_,_,_,_,_,_,_,_] [_,_,_] .ro rfl rfl rfl ty162 rfl rfl rfl rfl (.go 2 ?_))
                 refine .freezeR 1 rfl rfl o179 [_,_,_] rfl B174 (fun G191 e192 B193 s194=>?_)
                 obtain⟨u195,hu195,r196⟩:=X0 r188
                 have o197:OL (Rep.sl (Rep.pair Rep.bool (Rep.sl ri))) G191 cs143 u195:=cl148 _ _ _ (HpLe.trans e173 e192) hu195 (by rw[← hlcs178];exact Rep.slI s194)
                 have hl198:=Xgf hu195
                 refine .same (bl':=[_,_,_]) (sl':=[_, .s (.slice a111 u195.length k112) 228 1 u195.length cs143,_]) rfl (by rw[hl198]) rfl (.recell 0 [_,_,_,_,_,_,_,_,_,_,_,_, .slice a111 u195.length k112,_,_] rfl (by rw[hl198]<;>rfl) [_,_,_] rfl (.recell 2 [_,_,_,_,_,_,_,_,_,_,_,_, .slice a111 u195.length k112,_,_] rfl (by rw[hl198]<;>rfl) [_,_,_] rfl ?_))
                 refine .freezeR 1 rfl rfl o197 [_,_] rfl B193 (fun G199 e200 B201 s202=>?_)
                 refine .freezeR 0 rfl rfl (OL.mono (HpLe.trans e192 e200) o190) [_] rfl B201 (fun G203 e204 B205 s206=>?_)
                 obtain⟨u207,hu207,r208⟩:=X0 r196
                 have o209:OL (Rep.sl ri) G203 cs144 u207:=cl150 _ _ _ (HpLe.trans (HpLe.trans (HpLe.trans e173 e192) e200) e204) hu207 (by rw[← hlcs189];exact Rep.slI s206)
                 have hl210:=Xgf hu207
                 refine .same (bl':=[_,_,_]) (sl':=[.s (.slice a115 u207.length k116) 41 1 u207.length cs144]) rfl (by rw[hl210]) rfl (.recell 0 [_,_,_,_,_,_,_,_,_,_,_,_,_, .slice a115 u207.length k116,_] rfl (by rw[hl210]<;>rfl) [_,_,_] rfl (.recell 2 [_,_,_,_,_,_,_,_,_,_,_,_,_, .slice a115 u207.length k116,_] rfl (by rw[hl210]<;>rfl) [_,_,_] rfl ?_))
                 refine .freezeR 0 rfl rfl o209 [] rfl B205 (fun G211 e212 B213 s214=>?_)
                 cases r208
                 refine .rW 3 [.cell 6 162, .tmp 7] [_,_] Tryz.func134 Tryz.results134 ⟨RV.cell_a 0 [_,_,_,_,_,_,_,_,_,_,_,_,_,_,_] rfl rfl ty162 rfl,RV.tmp rfl,trivial⟩ B213 hS0 (fun G' hg=>⟨a0_10,k0_10,a0_11,k0_11,a111,k112,a115,k116,rfl,rfl,rfl,(SlR.mono hg (SlR.mono (HpLe.trans (HpLe.trans (HpLe.trans (HpLe.trans (HpLe.trans e82 e173) e192) e200) e204) e212) s0_10)),(SlR.mono hg (SlR.mono (HpLe.trans (HpLe.trans (HpLe.trans (HpLe.trans (HpLe.trans e82 e173) e192) e200) e204) e212) s0_11)),(SlR.mono hg (SlR.mono (HpLe.trans e204 e212) s202)),(SlR.mono hg s214)⟩)
               ·as_aux_lemma=>
                intro hbJ
                refine .draw2 (.q 0 (.q 1 (.q 2 (.q 3 (.q 4 (.q 5 (.q 7 (.q 8 (.q 9 (.q 10 (.q 11 (.q 14 (.q 15 (.q 16 (.q 17 (.q 18 (.alt (.e 6 1 (.alt (.e 12 1 (.e 13 1 (.e 19 1 (.e 20 1 (.e 21 3 (.e 22 3 (.e 23 3 .nil))))))) (.e 13 1 (.e 12 1 (.e 19 1 (.e 20 1 (.e 21 3 (.e 22 3 (.e 23 3 .nil))))))))) (.e 13 1 (.e 6 1 (.e 12 1 (.e 19 1 (.e 20 1 (.e 21 3 (.e 22 3 (.e 23 3 .nil))))))))))))))))))))))))) [10,11,17,18] [0,1,2,3,4,5,6,7,8,9,10,11,12,13,14,15,16,17,18,19,20] [0,1,2,3,4,5,6,7,8,9,10,11,12,13,14,15,16,17,18,19,20,21,22,23] [_,_,_] [_,_] (by kernel_rfl) (by kernel_rfl) (X1 [0,1,2] rfl) (X1 [0,1] rfl) (.dq2 (.move rfl) rfl (.dq2 (.fieldAddr 2 rfl Xbc ty3.sz rfl) rfl (.dq2 (.load_own 1 rfl rfl ty3 rfl) rfl (.dq2 (.move rfl) rfl (.dq2 (.fieldAddr 2 rfl Xbc ty3.sz rfl) rfl (.dq2 (.load_own 1 rfl rfl ty3 rfl) rfl (.dq2 (.move rfl) rfl (.dq2 (.fieldAddr 2 rfl Xbc ty3.sz rfl) rfl (.dq2 (.load_own 1 rfl rfl ty3 rfl) rfl ?_)))))))))
                obtain⟨c215,p216,h217⟩:=OL.get o118 hu121
                obtain⟨a218,k219,rfl,s220⟩:=h217
                refine .dq2 (.idxO 0 rfl rfl rfl hu121 sl160 ty228.sz) rfl (.dq2 (.loadO 0 0 rfl hu121 p216 rfl (.inl ⟨rfl,rfl⟩) ty228 rfl) rfl (.dq2 (.move rfl) rfl (.dq2 (.fieldAddr 2 rfl Xbc ty3.sz rfl) rfl (.dq2 (.load_own 1 rfl rfl ty3 rfl) rfl ?_))))
                obtain⟨c221,p222,h223⟩:=OL.get o119 hu123
                obtain⟨a224,k225,rfl,s226⟩:=h223
                refine .dq2 (.idxO 1 rfl rfl rfl hu123 sl50 ty41.sz) rfl (.dq2 (.loadO 1 0 rfl hu123 p222 rfl (.inl ⟨rfl,rfl⟩) ty41 rfl) rfl ?_)
                refine .alt2 ?_ ?_
                ·refine .lit [] [] .t1 sl228 ty243 rfl rfl rfl rfl rfl rfl (fun b227 hb227=>?_)
                 have o228:OL (Rep.pair Rep.bool (Rep.sl ri)) G81 [] ([]:List (Bool×(List Int))):=((OL.nil (Rp':=(Rep.pair Rep.bool (Rep.sl ri)))) :)
                 refine .reval 147 (n':=([]:List (Bool×(List Int))).length) rfl rfl (.cls2a (HpLe.refl _) (X1 [0,1,2] rfl) (X1 [1,2] rfl) ?_)
                 refine .alt2 ?_ ?_
                 ·refine .appR (Q:=(Rep.pair Rep.bool (Rep.sl ri))) 0 .t1 sl228 ty243 rfl rfl rfl rfl rfl o228 rfl rfl s220 rfl mcs hu125 rfl (fun a133 k135 cs136 o145=>?_)
                  refine .cls2a (HpLe.refl _) (X1 [0,1,2] rfl) (X1 [1,2] rfl) ?_
                  refine .lit [] [] .t1 sl41 ty3 rfl rfl rfl rfl rfl rfl (fun b229 hb229=>?_)
                  have o230:OL ri G81 [] ([]:List Int):=((OL.nil (Rp':=ri)) :)
                  refine .reval 154 (n':=([]:List Int).length) rfl rfl (.cls2a (HpLe.refl _) (X1 [0,1,2] rfl) (X1 [2,3] rfl) ?_)
                  refine .appR (Q:=ri) 0 .t1 sl41 ty3 rfl rfl rfl rfl rfl o230 rfl rfl s226 rfl mcs hu127 rfl (fun a138 k139 cs142 o146=>?_)
                  refine .cls2a (HpLe.refl _) (X1 [0,1,2] rfl) (X1 [2,3] rfl) ?_
                  obtain⟨c231,p232,h233⟩:=OL.get o118 hu129
                  obtain⟨a234,k235,rfl,s236⟩:=h233
                  refine .q .t1 (.idxO 2 rfl rfl rfl hu129 sl160 ty228.sz) rfl (.cls2a (HpLe.refl _) (X1 [0,1,2] rfl) (X1 [2,3] rfl) ?_)
                  refine .storeH 2 (Q:=(Rep.sl (Rep.pair Rep.bool (Rep.sl ri)))) .t3 rfl rfl o118 hu129 rfl (.inl ⟨rfl,rfl⟩) rfl ty228 p232 rfl rfl (fun cs143 el147 cl148=>?_)
                  refine .cls2b (HpLe.refl _) (X1 [0,1,2] rfl) ?_
                  obtain⟨c237,p238,h239⟩:=OL.get o119 hu131
                  obtain⟨a240,k241,rfl,s242⟩:=h239
                  refine .q .t3 (.idxO 3 rfl rfl rfl hu131 sl50 ty41.sz) rfl (.cls2b (HpLe.refl _) (X1 [0,1,2] rfl) ?_)
                  refine .storeH 3 (Q:=(Rep.sl ri)) .t3 rfl rfl o119 hu131 rfl (.inl ⟨rfl,rfl⟩) rfl ty41 p238 rfl rfl (fun cs144 el149 cl150=>?_)
                  refine .cls2b (HpLe.refl _) (X1 [0,1,2] rfl) (.draw_end2 ?_)
                  exact(hbJ _ ⟨a133,k135,cs136,a138,k139,cs142,cs143,cs144,rfl,o145,o146,el147,cl148,el149,cl150⟩).ar
                 ·refine .lit [] [] .t1 sl41 ty3 rfl rfl rfl rfl rfl rfl (fun b243 hb243=>?_)
                  have o244:OL ri G81 [] ([]:List Int):=((OL.nil (Rp':=ri)) :)
                  refine .reval 154 (n':=([]:List Int).length) rfl rfl (.cls2a (HpLe.refl _) (X1 [0,1,2] rfl) (X1 [2,3] rfl) ?_)
                  refine .appR (Q:=(Rep.pair Rep.bool (Rep.sl ri))) 1 .t1 sl228 ty243 rfl rfl rfl rfl rfl o228 rfl rfl s220 rfl mcs hu125 rfl (fun a245 k246 cs247 o248=>?_)
                  refine .cls2a (HpLe.refl _) (X1 [0,1,2] rfl) (X1 [2,3] rfl) ?_
                  refine .appR (Q:=ri) 0 .t1 sl41 ty3 rfl rfl rfl rfl rfl o244 rfl rfl s226 rfl mcs hu127 rfl (fun a249 k250 cs251 o252=>?_)
                  refine .cls2a (HpLe.refl _) (X1 [0,1,2] rfl) (X1 [2,3] rfl) ?_
                  obtain⟨c253,p254,h255⟩:=OL.get o118 hu129
                  obtain⟨a256,k257,rfl,s258⟩:=h255
                  refine .q .t1 (.idxO 2 rfl rfl rfl hu129 sl160 ty228.sz) rfl (.cls2a (HpLe.refl _) (X1 [0,1,2] rfl) (X1 [2,3] rfl) ?_)
                  refine .storeH 2 (Q:=(Rep.sl (Rep.pair Rep.bool (Rep.sl ri)))) .t3 rfl rfl o118 hu129 rfl (.inl ⟨rfl,rfl⟩) rfl ty228 p254 rfl rfl (fun cs259 el260 cl261=>?_)
                  refine .cls2b (HpLe.refl _) (X1 [0,1,2] rfl) ?_
                  obtain⟨c262,p263,h264⟩:=OL.get o119 hu131
                  obtain⟨a265,k266,rfl,s267⟩:=h264
                  refine .q .t3 (.idxO 3 rfl rfl rfl hu131 sl50 ty41.sz) rfl (.cls2b (HpLe.refl _) (X1 [0,1,2] rfl) ?_)
                  refine .storeH 3 (Q:=(Rep.sl ri)) .t3 rfl rfl o119 hu131 rfl (.inl ⟨rfl,rfl⟩) rfl ty41 p263 rfl rfl (fun cs268 el269 cl270=>?_)
                  refine .cls2b (HpLe.refl _) (X1 [0,1,2] rfl) (.draw_end2 ?_)
                  exact(hbJ _ ⟨a245,k246,cs247,a249,k250,cs251,cs259,cs268,rfl,o248,o252,el260,cl261,el269,cl270⟩).ar
                ·refine .lit [] [] .t1 sl41 ty3 rfl rfl rfl rfl rfl rfl (fun b271 hb271=>?_)
                 have o272:OL ri G81 [] ([]:List Int):=((OL.nil (Rp':=ri)) :)
                 refine .reval 154 (n':=([]:List Int).length) rfl rfl (.cls2a (HpLe.refl _) (X1 [0,1,2] rfl) (X1 [1,2] rfl) ?_)
                 refine .lit [] [] .t1 sl228 ty243 rfl rfl rfl rfl rfl rfl (fun b273 hb273=>?_)
                 have o274:OL (Rep.pair Rep.bool (Rep.sl ri)) G81 [] ([]:List (Bool×(List Int))):=((OL.nil (Rp':=(Rep.pair Rep.bool (Rep.sl ri)))) :)
                 refine .reval 147 (n':=([]:List (Bool×(List Int))).length) rfl rfl (.cls2a (HpLe.refl _) (X1 [0,1,2] rfl) (X1 [2,3] rfl) ?_)
                 refine .appR (Q:=(Rep.pair Rep.bool (Rep.sl ri))) 0 .t1 sl228 ty243 rfl rfl rfl rfl rfl o274 rfl rfl s220 rfl mcs hu125 rfl (fun a275 k276 cs277 o278=>?_)
                 refine .cls2a (HpLe.refl _) (X1 [0,1,2] rfl) (X1 [2,3] rfl) ?_
                 refine .appR (Q:=ri) 1 .t1 sl41 ty3 rfl rfl rfl rfl rfl o272 rfl rfl s226 rfl mcs hu127 rfl (fun a279 k280 cs281 o282=>?_)
                 refine .cls2a (HpLe.refl _) (X1 [0,1,2] rfl) (X1 [2,3] rfl) ?_
                 obtain⟨c283,p284,h285⟩:=OL.get o118 hu129
                 obtain⟨a286,k287,rfl,s288⟩:=h285
                 refine .q .t1 (.idxO 2 rfl rfl rfl hu129 sl160 ty228.sz) rfl (.cls2a (HpLe.refl _) (X1 [0,1,2] rfl) (X1 [2,3] rfl) ?_)
                 refine .storeH 2 (Q:=(Rep.sl (Rep.pair Rep.bool (Rep.sl ri)))) .t3 rfl rfl o118 hu129 rfl (.inl ⟨rfl,rfl⟩) rfl ty228 p284 rfl rfl (fun cs289 el290 cl291=>?_)
                 refine .cls2b (HpLe.refl _) (X1 [0,1,2] rfl) ?_
                 obtain⟨c292,p293,h294⟩:=OL.get o119 hu131
                 obtain⟨a295,k296,rfl,s297⟩:=h294
                 refine .q .t3 (.idxO 3 rfl rfl rfl hu131 sl50 ty41.sz) rfl (.cls2b (HpLe.refl _) (X1 [0,1,2] rfl) ?_)
                 refine .storeH 3 (Q:=(Rep.sl ri)) .t3 rfl rfl o119 hu131 rfl (.inl ⟨rfl,rfl⟩) rfl ty41 p293 rfl rfl (fun cs298 el299 cl300=>?_)
                 refine .cls2b (HpLe.refl _) (X1 [0,1,2] rfl) (.draw_end2 (.pullS 1 rfl [_,_,_,_] rfl ?_))
                 exact(hbJ _ ⟨a275,k276,cs277,a279,k280,cs281,cs289,cs298,rfl,o278,o282,el290,cl291,el299,cl300⟩).ar
              ·as_aux_lemma=>
               intro hb301
               refine .drawL (.q 1 (.q 2 (.q 5 (.q 6 (.alt (.e 0 1 (.alt (.e 3 1 (.e 4 1 (.e 7 1 (.q 8 (.q 9 .nil))))) (.e 4 1 (.e 3 1 (.e 7 1 (.q 8 (.q 9 .nil))))))) (.e 4 1 (.e 0 1 (.e 3 1 (.e 7 1 (.q 8 (.q 9 .nil))))))))))) [_,_,_] (by kernel_rfl) (by kernel_rfl) (X1 [0,1,2] rfl) ?_
               obtain⟨u302,hu302,r303⟩:=X0 r109
               obtain⟨u304,hu304,r305⟩:=X0 r303
               refine .go 4 ?_
               refine .alt ?_ ?_
               ·refine .lit [] [] .d1 sl160 ty228 rfl rfl rfl rfl rfl rfl (fun b306 hb306=>?_)
                have o307:OL (Rep.sl (Rep.pair Rep.bool (Rep.sl ri))) G81 [] ([]:List (List (Bool×(List Int)))):=((OL.nil (Rp':=(Rep.sl (Rep.pair Rep.bool (Rep.sl ri))))) :)
                refine .reval 133 (n':=([]:List (List (Bool×(List Int)))).length) rfl rfl (.clsL (HpLe.refl _) (X1 [0,1,2] rfl) ?_)
                refine .alt ?_ ?_
                ·refine .appR (Q:=(Rep.sl (Rep.pair Rep.bool (Rep.sl ri)))) 0 .d1 sl160 ty228 rfl rfl rfl rfl rfl o307 rfl rfl (SlR.mono e82 s0_12) rfl mcs hu302 rfl (fun a308 k309 cs310 o311=>?_)
                 refine .clsL (HpLe.refl _) (X1 [0,1,2] rfl) ?_
                 refine .lit [] [] .d1 sl50 ty41 rfl rfl rfl rfl rfl rfl (fun b312 hb312=>?_)
                 have o313:OL (Rep.sl ri) G81 [] ([]:List (List Int)):=((OL.nil (Rp':=(Rep.sl ri))) :)
                 refine .reval 137 (n':=([]:List (List Int)).length) rfl rfl (.clsL (HpLe.refl _) (X1 [0,1,2] rfl) ?_)
                 refine .appR (Q:=(Rep.sl ri)) 0 .d1 sl50 ty41 rfl rfl rfl rfl rfl o313 rfl rfl (SlR.mono e82 s0_13) rfl mcs hu304 rfl (fun a314 k315 cs316 o317=>?_)
                 refine .clsL (HpLe.refl _) (X1 [0,1,2] rfl) (.go 3 ?_)
                 refine .pullS 1 rfl [_,_] rfl ?_
                 exact(hb301 _ ⟨u302,a308,k309,cs310,u304,a314,k315,cs316,rfl,o311,o317,r305⟩).ar
                ·refine .lit [] [] .d1 sl50 ty41 rfl rfl rfl rfl rfl rfl (fun b318 hb318=>?_)
                 have o319:OL (Rep.sl ri) G81 [] ([]:List (List Int)):=((OL.nil (Rp':=(Rep.sl ri))) :)
                 refine .reval 137 (n':=([]:List (List Int)).length) rfl rfl (.clsL (HpLe.refl _) (X1 [0,1,2] rfl) ?_)
                 refine .appR (Q:=(Rep.sl (Rep.pair Rep.bool (Rep.sl ri)))) 1 .d1 sl160 ty228 rfl rfl rfl rfl rfl o307 rfl rfl (SlR.mono e82 s0_12) rfl mcs hu302 rfl (fun a320 k321 cs322 o323=>?_)
                 refine .clsL (HpLe.refl _) (X1 [0,1,2] rfl) ?_
                 refine .appR (Q:=(Rep.sl ri)) 0 .d1 sl50 ty41 rfl rfl rfl rfl rfl o319 rfl rfl (SlR.mono e82 s0_13) rfl mcs hu304 rfl (fun a324 k325 cs326 o327=>?_)
                 refine .clsL (HpLe.refl _) (X1 [0,1,2] rfl) (.go 3 ?_)
                 refine .pullS 1 rfl [_,_] rfl ?_
                 exact(hb301 _ ⟨u302,a320,k321,cs322,u304,a324,k325,cs326,rfl,o323,o327,r305⟩).ar
               ·refine .lit [] [] .d1 sl50 ty41 rfl rfl rfl rfl rfl rfl (fun b328 hb328=>?_)
                have o329:OL (Rep.sl ri) G81 [] ([]:List (List Int)):=((OL.nil (Rp':=(Rep.sl ri))) :)
                refine .reval 137 (n':=([]:List (List Int)).length) rfl rfl (.clsL (HpLe.refl _) (X1 [0,1,2] rfl) ?_)
                refine .lit [] [] .d1 sl160 ty228 rfl rfl rfl rfl rfl rfl (fun b330 hb330=>?_)
                have o331:OL (Rep.sl (Rep.pair Rep.bool (Rep.sl ri))) G81 [] ([]:List (List (Bool×(List Int)))):=((OL.nil (Rp':=(Rep.sl (Rep.pair Rep.bool (Rep.sl ri))))) :)
                refine .reval 133 (n':=([]:List (List (Bool×(List Int)))).length) rfl rfl (.clsL (HpLe.refl _) (X1 [0,1,2] rfl) ?_)
                refine .appR (Q:=(Rep.sl (Rep.pair Rep.bool (Rep.sl ri)))) 0 .d1 sl160 ty228 rfl rfl rfl rfl rfl o331 rfl rfl (SlR.mono e82 s0_12) rfl mcs hu302 rfl (fun a332 k333 cs334 o335=>?_)
                refine .clsL (HpLe.refl _) (X1 [0,1,2] rfl) ?_
                refine .appR (Q:=(Rep.sl ri)) 1 .d1 sl50 ty41 rfl rfl rfl rfl rfl o329 rfl rfl (SlR.mono e82 s0_13) rfl mcs hu304 rfl (fun a336 k337 cs338 o339=>?_)
                refine .clsL (HpLe.refl _) (X1 [0,1,2] rfl) (.go 3 ?_)
                exact(hb301 _ ⟨u302,a332,k333,cs334,u304,a336,k337,cs338,rfl,o335,o339,r305⟩).ar
           ·as_aux_lemma=>
            intro hb340
            refine .block ?_
            refine .lp (fun y m=>∃(Z0:Nat)(Z1:_),y=⟨[(8, .int .i64 Z1)],[],[],[]⟩∧Z0=m∧X20 (X11 x1 x2_5 x2_6 x0_10 x0_11 x0_12 x0_13) x2_0 x2_1 x2_2 x2_3 x2_4 x2_6 x2_7 x0_0 x0_1 x0_2 x0_3 x0_4 x0_5 x0_6 x0_7 x0_8 x0_9 x0_10 x0_11 x0_12 x0_13 x0_14 Z0 Z1=some r) [(1,_),(3,_),(5,_),(6,_)] [_,_,_] [] ⟨big,0,rfl,rfl,r64⟩ (fun y m hI hb341=>?_)
            obtain⟨n342,v343,rfl,rfl,r344⟩:=hI
            refine .gn 0 ?_
            obtain⟨m345,rfl⟩:∃m,n342=m+1:=by cases n342 with |zero=>exact absurd (show(none:Option _)=some _ from r344) (by simp) |succ m=>exact⟨m,rfl⟩
            have r346:X6k (X11 x1 x2_5 x2_6 x0_10 x0_11 x0_12 x0_13) x2_0 x2_1 x2_2 x2_3 x2_4 x2_6 x2_7 x0_0 x0_1 x0_2 x0_3 x0_4 x0_5 x0_6 x0_7 x0_8 x0_9 x0_10 x0_11 x0_12 x0_13 x0_14 (X20 (X11 x1 x2_5 x2_6 x0_10 x0_11 x0_12 x0_13) x2_0 x2_1 x2_2 x2_3 x2_4 x2_6 x2_7 x0_0 x0_1 x0_2 x0_3 x0_4 x0_5 x0_6 x0_7 x0_8 x0_9 x0_10 x0_11 x0_12 x0_13 x0_14 m345) v343=some r:=r344;clear r344;unfold X6k at r346;try dsimp only at r346
            refine .go 9 ?_
            refine .cH r346 (fun c347 r348=>?_) (fun c347 r349=>?_)
            ·refine .go 2 ?_
             refine .block (.go 1 ?_)
             refine .drawL (.q 0 (.q 1 (.q 2 (.q 3 (.q 4 (.q 5 (.q 6 (.q 7 (.q 8 (.q 9 (.q 10 (.q 11 (.q 12 (.q 13 (.q 14 (.q 15 (.q 16 .nil))))))))))))))))) [_,_,_] (by kernel_rfl) (by kernel_rfl) (X1 [0,1,2] rfl) (.go 3 ?_)
             obtain⟨u350,hu350,r351⟩:=X0 r348
             obtain⟨c352,p353,h354⟩:=SlR.get s2_6 hu350
             obtain rfl:=h354
             refine .dq (.idxR s2_6 rfl rfl hu350 sl41 ty3.sz) rfl (.dq (.load_rp p353 mcs rfl ty3 rfl) rfl (.go 2 ?_))
             obtain⟨u355,h356,r357⟩:=X0 r351
             refine .kD (fun y=>y=⟨[(108, .bool u355)],G::Fs,[],[]⟩) [(8,_),(1,_),(3,_),(5,_),(6,_)] [_,_,_] [0,1,2] [] [] 10 ?_ ?_
             ·as_aux_lemma=>
              rintro _ rfl
              refine .gn 1 ?_
              refine .cB r357 (fun c358 r359=>?_) (fun c358 r360=>?_)
              ·refine .go 2 ?_
               refine .q .ro (.load_own_a 2 [_,_,_,_,_,_,_,_,_,_,_,_,_,_,_] rfl rfl ty162 rfl) rfl (.store 0 [_,_,_,_,_,_,_,_,_,_,_,_,_,_,_] [_,_,_] .ro rfl rfl rfl ty162 rfl rfl rfl rfl (.go 2 ?_))
               cases r359
               refine .rW 3 [.cell 6 162, .tmp 7] [_,_] Tryz.func134 Tryz.results134 ⟨RV.cell_a 0 [_,_,_,_,_,_,_,_,_,_,_,_,_,_,_] rfl rfl ty162 rfl,RV.tmp rfl,trivial⟩ B0 hS0 (fun G' hg=>⟨a0_10,k0_10,a0_11,k0_11,a0_12,k0_12,a0_13,k0_13,rfl,rfl,rfl,(SlR.mono hg s0_10),(SlR.mono hg s0_11),(SlR.mono hg s0_12),(SlR.mono hg s0_13)⟩)
              ·refine .go 7 ?_
               exact(hb341 _ _ ⟨m345,(w64 (v343+1)),rfl,rfl,r360⟩ (Nat.lt_succ_self _)).ar
             ·as_aux_lemma=>
              intro hb361
              refine .split 98 rfl (fun c362=>?_) (fun c362=>?_)
              ·have r363:=ifT h356 c362
               refine .dgq_off rfl rfl rfl (.dgq_off rfl rfl rfl (.dgq_off rfl rfl rfl (.dgq_off rfl rfl rfl (.dgq_off rfl rfl rfl (.dgq_off rfl rfl rfl (.dgq_off rfl rfl rfl (.dgq_off rfl rfl rfl (.dgq_off rfl rfl rfl (.go 1 ?_)))))))))
               exact(hb361 _ rfl).ax ⟨sval r363,rfl,rfl,rfl,rfl,rfl,trivial⟩
              ·have r364:=ifF h356 c362
               refine .dgq_on rfl (.go 1 ?_)
               refine .dgq_on rfl (.go 1 ?_)
               refine .dgq_on rfl (.go 1 ?_)
               refine .dgq_on rfl ?_
               obtain⟨u365,hu365,r366⟩:=X0 r364
               obtain⟨c367,p368,h369⟩:=SlR.get s2_6 hu365
               obtain rfl:=h369
               refine .dq (.idxR s2_6 rfl rfl hu365 sl41 ty3.sz) rfl (.dgq_on rfl (.dq (.load_rp p368 mcs rfl ty3 rfl) rfl (.dgq_on rfl (.go 1 ?_))))
               refine .dgq_on rfl (.go 1 ?_)
               refine .dgq_on rfl (.go 1 ?_)
               refine .dgq_on rfl (.go 2 ?_)
               exact(hb361 _ rfl).ax ⟨sval r366,rfl,rfl,rfl,rfl,rfl,trivial⟩
            ·refine .exit rfl ?_
             exact(hb340 _ ⟨0,0,0,0,0,0,0,0,0,0,false,x2_0,x2_1,x2_2,x2_3,x2_4,x2_7,x0_0,x0_1,x0_2,x0_3,x0_4,x0_5,x0_6,x0_7,x0_8,x0_9,x0_14,rfl,r349⟩).ar
         ·as_aux_lemma=>
          intro hb59
          refine .split_b 75 rfl (fun c58=>?_) (fun c58=>?_)
          ·refine .dgq_off rfl rfl rfl ?_
           refine .dgq_off rfl rfl rfl (.dgq_off rfl rfl rfl (.dgq_off rfl rfl rfl (.dgq_off rfl rfl rfl (.dgq_off rfl rfl rfl (.dgq_off rfl rfl rfl (.go 1 ?_))))))
           exact(hb59 _ rfl).ax ⟨X6 c58,rfl,rfl,rfl,rfl,trivial⟩
          ·refine .dgq_on rfl ?_
           refine .go 1 ?_
           refine .dgq_on rfl (.go 1 ?_)
           refine .dgq_on rfl (.go 1 ?_)
           refine .dgq_on rfl (.go 1 ?_)
           refine .dgq_on rfl (.go 1 ?_)
           refine .dgq_on rfl (.go 1 ?_)
           refine .dgq_on rfl (.go 2 ?_)
           exact(hb59 _ rfl).ax ⟨X7 (Xbh c58),rfl,rfl,rfl,rfl,trivial⟩
        ·as_aux_lemma=>
         intro hb52
         refine .split 58 rfl (fun c51=>?_) (fun c51=>?_)
         ·have r370:=ifT h54 c51
          refine .dgq_off rfl rfl rfl (.dgq_off rfl rfl rfl (.dgq_off rfl rfl rfl (.dgq_off rfl rfl rfl (.dgq_off rfl rfl rfl (.dgq_off rfl rfl rfl (.dgq_off rfl rfl rfl (.dgq_off rfl rfl rfl (.dgq_off rfl rfl rfl (.dgq_off rfl rfl rfl (.dgq_off rfl rfl rfl (.dgq_off rfl rfl rfl (.dgq_off rfl rfl rfl (.dge_offL rfl rfl rfl (HpLe.refl _) (X1 [0,1,2] rfl) (.dgq_off rfl rfl rfl (.go 1 ?_)))))))))))))))
          exact(hb52 _ rfl).ax ⟨sval r370,rfl,rfl,rfl,rfl,trivial⟩
         ·have r371:=ifF h54 c51
          refine .dgq_on rfl (.go 1 ?_)
          refine .dgq_on rfl (.go 1 ?_)
          refine .dgq_on rfl (.go 1 ?_)
          refine .dgq_on rfl (.go 1 ?_)
          refine .dgq_on rfl (.go 1 ?_)
          refine .dgq_on rfl (.go 1 ?_)
          refine .dgq_on rfl ?_
          obtain⟨u372,hu372,r373⟩:=X0 r371
          obtain⟨c374,p375,h376⟩:=SlR.get s0_11 hu372
          obtain⟨a377,k378,rfl,s379⟩:=h376
          refine .dq (.idxR s0_11 rfl rfl hu372 sl159 ty50.sz) rfl (.dgq_on rfl (.dq (.load_rp p375 mcs rfl ty50 rfl) rfl (.dgq_on rfl (.go 1 ?_))))
          refine .dgq_on rfl (.go 1 ?_)
          refine .dgq_on rfl (.go 1 ?_)
          refine .dgq_on rfl ?_
          obtain⟨u380,hu380,r381⟩:=X0 r373
          obtain⟨c382,p383,h384⟩:=SlR.get s379 hu380
          obtain⟨a385,k386,rfl,s387⟩:=h384
          refine .dq (.idxR s379 rfl rfl hu380 sl50 ty41.sz) rfl (.dgq_on rfl (.dq (.load_rp p383 mcs rfl ty41 rfl) rfl (.dge_on rfl ?_)))
          obtain⟨u388,hu388,r389⟩:=X0 r381
          refine .cVd [_,_] Tryz.call141 (Xfk mcs s2_5 s387 hu388) ?_
          refine .clsL (HpLe.refl _) (X1 [0,1,2] rfl) (.dgq_on rfl (.go 2 ?_))
          exact(hb52 _ rfl).ax ⟨sval r389,rfl,rfl,rfl,rfl,trivial⟩
       ·as_aux_lemma=>
        intro hb28
        refine .split 50 rfl (fun c27=>?_) (fun c27=>?_)
        ·refine .dgq_off rfl rfl rfl ?_
         refine .dgq_off rfl rfl rfl (.dgq_off rfl rfl rfl (.dgq_off rfl rfl rfl (.dgq_off rfl rfl rfl (.dgq_off rfl rfl rfl (.go 1 ?_)))))
         exact(hb28 _ rfl).ax ⟨X6 c27,rfl,rfl,rfl,rfl,trivial⟩
        ·refine .dgq_on rfl ?_
         refine .go 1 ?_
         refine .dgq_on rfl (.go 1 ?_)
         refine .dgq_on rfl (.go 1 ?_)
         refine .dgq_on rfl (.go 1 ?_)
         refine .dgq_on rfl (.go 1 ?_)
         refine .dgq_on rfl (.go 2 ?_)
         exact(hb28 _ rfl).ax ⟨X7 c27,rfl,rfl,rfl,rfl,trivial⟩
      ·as_aux_lemma=>
       intro hb24
       refine .split 45 rfl (fun c23=>?_) (fun c23=>?_)
       ·refine .dgq_off rfl rfl rfl ?_
        refine .dgq_off rfl rfl rfl (.dgq_off rfl rfl rfl (.go 1 ?_))
        exact(hb24 _ rfl).ax ⟨X6 c23,rfl,rfl,rfl,rfl,trivial⟩
       ·refine .dgq_on rfl ?_
        refine .go 1 ?_
        refine .dgq_on rfl (.go 1 ?_)
        refine .dgq_on rfl (.go 2 ?_)
        exact(hb24 _ rfl).ax ⟨X7 c23,rfl,rfl,rfl,rfl,trivial⟩
     ·as_aux_lemma=>
      intro hb20
      refine .split 37 rfl (fun c19=>?_) (fun c19=>?_)
      ·refine .dgq_off rfl rfl rfl ?_
       refine .dgq_off rfl rfl rfl (.dgq_off rfl rfl rfl (.dgq_off rfl rfl rfl (.dgq_off rfl rfl rfl (.dgq_off rfl rfl rfl (.go 1 ?_)))))
       exact(hb20 _ rfl).ax ⟨X6 c19,rfl,rfl,rfl,rfl,trivial⟩
      ·refine .dgq_on rfl ?_
       refine .go 1 ?_
       refine .dgq_on rfl (.go 1 ?_)
       refine .dgq_on rfl (.go 1 ?_)
       refine .dgq_on rfl (.go 1 ?_)
       refine .dgq_on rfl (.go 1 ?_)
       refine .dgq_on rfl (.go 2 ?_)
       exact(hb20 _ rfl).ax ⟨X7 c19,rfl,rfl,rfl,rfl,trivial⟩
    ·as_aux_lemma=>
     intro hb16
     refine .split 32 rfl (fun c15=>?_) (fun c15=>?_)
     ·refine .dgq_off rfl rfl rfl ?_
      refine .dgq_off rfl rfl rfl (.dgq_off rfl rfl rfl (.go 1 ?_))
      exact(hb16 _ rfl).ax ⟨X6 c15,rfl,rfl,rfl,rfl,trivial⟩
     ·refine .dgq_on rfl ?_
      refine .go 1 ?_
      refine .dgq_on rfl (.go 1 ?_)
      refine .dgq_on rfl (.go 2 ?_)
      exact(hb16 _ rfl).ax ⟨X7 c15,rfl,rfl,rfl,rfl,trivial⟩
   ·as_aux_lemma=>
    intro hb12
    refine .split 24 rfl (fun c11=>?_) (fun c11=>?_)
    ·refine .dgq_off rfl rfl rfl ?_
     refine .dgq_off rfl rfl rfl (.dgq_off rfl rfl rfl (.dgq_off rfl rfl rfl (.dgq_off rfl rfl rfl (.dgq_off rfl rfl rfl (.go 1 ?_)))))
     exact(hb12 _ rfl).ax ⟨X6 c11,rfl,rfl,rfl,rfl,trivial⟩
    ·refine .dgq_on rfl ?_
     refine .go 1 ?_
     refine .dgq_on rfl (.go 1 ?_)
     refine .dgq_on rfl (.go 1 ?_)
     refine .dgq_on rfl (.go 1 ?_)
     refine .dgq_on rfl (.go 1 ?_)
     refine .dgq_on rfl (.go 2 ?_)
     exact(hb12 _ rfl).ax ⟨X7 c11,rfl,rfl,rfl,rfl,trivial⟩
  ·as_aux_lemma=>
   intro hb8
   refine .split 17 rfl (fun c7=>?_) (fun c7=>?_)
   ·refine .dgq_off rfl rfl rfl ?_
    refine .dgq_off rfl rfl rfl (.dgq_off rfl rfl rfl (.dgq_off rfl rfl rfl (.dgq_off rfl rfl rfl (.go 1 ?_))))
    exact(hb8 _ rfl).ax ⟨X6 c7,rfl,rfl,rfl,rfl,trivial⟩
   ·refine .dgq_on rfl ?_
    refine .go 1 ?_
    refine .dgq_on rfl (.go 1 ?_)
    refine .dgq_on rfl (.go 1 ?_)
    refine .dgq_on rfl (.go 1 ?_)
    refine .dgq_on rfl (.go 2 ?_)
    exact(hb8 _ rfl).ax ⟨X7 c7,rfl,rfl,rfl,rfl,trivial⟩
theorem Xfl{x0_0 x0_1 x0_2 x0_3:Int}{x0_4:An}{x0_5:Bp}{x0_6:Bq}{x0_7:Bg}{x0_8:Bx}{x0_9 x0_10:Int}{x0_11:Bj}{x0_12:An}{x0_13 x0_14:Ab}{x0_15:Aj}{x1_0 x1_1 x1_2 x1_3 x1_4:Int}{x1_5 x1_6:Ab}{x1_7:Int}{r:Cv}(hG:G∈Fs)(s0_4:SlR (Rep.pair ri ri) G a0_4 k0_4 x0_4)(s0_5:SlR (Rep.pair ri (Rep.pair ri (Rep.pair ri (Rep.sl (Rep.sl ri))))) G a0_5 k0_5 x0_5)(oo0_6:OL (Rep.pair ri (Rep.pair (Rep.pair ri (Rep.pair ri (Rep.pair ri ri))) (Rep.pair Rep.bool (Rep.pair (Rep.sl (Rep.pair (Rep.pair ri (Rep.pair ri (Rep.pair ri (Rep.pair ri ri)))) (Rep.sl (Rep.sl ri)))) (Rep.sl (Rep.pair ri (Rep.pair ri (Rep.pair ri (Rep.pair (Rep.sl ri) (Rep.sl ri)))))))))) G cc0_6 x0_6)(s0_7:SlR (Rep.pair ri (Rep.pair ri (Rep.pair ri (Rep.pair ri (Rep.pair ri (Rep.pair (Rep.sl ri) (Rep.pair (Rep.sl ri) ri))))))) G a0_7 k0_7 x0_7)(oo0_8:OL (Rep.pair ri (Rep.pair (Rep.pair ri (Rep.pair ri (Rep.pair ri ri))) (Rep.pair (Rep.pair ri (Rep.pair ri (Rep.pair ri (Rep.pair ri ri)))) (Rep.pair (Rep.sl ri) (Rep.pair (Rep.sl (Rep.sl (Rep.sl ri))) (Rep.pair (Rep.sl (Rep.sl (Rep.pair Rep.bool (Rep.sl ri)))) (Rep.pair (Rep.sl (Rep.sl ri)) Rep.bool))))))) G cc0_8 x0_8)(s0_11:SlR (Rep.pair ri (Rep.pair ri (Rep.pair ri (Rep.pair ri ri)))) G a0_11 k0_11 x0_11)(s0_12:SlR (Rep.pair ri ri) G a0_12 k0_12 x0_12)(s0_13:SlR ri G a0_13 k0_13 x0_13)(s0_14:SlR ri G a0_14 k0_14 x0_14)(s0_15:SlR (Rep.pair ri (Rep.pair ri (Rep.pair (Rep.sl (Rep.pair ri (Rep.pair (Rep.sl ri) (Rep.sl ri)))) (Rep.sl (Rep.pair ri (Rep.pair ri (Rep.pair ri (Rep.pair ri (Rep.pair ri (Rep.pair (Rep.sl ri) (Rep.pair (Rep.sl ri) ri))))))))))) G a0_15 k0_15 x0_15)(s1_5:SlR ri G a1_5 k1_5 x1_5)(s1_6:SlR ri G a1_6 k1_6 x1_6)(h:X9q ((x0_0,x0_1,x0_2,x0_3),x0_4,x0_5,x0_6,x0_7,x0_8,(x0_9,x0_10,x0_11),(x0_12,x0_13),x0_14,x0_15) (x1_0,x1_1,x1_2,x1_3,x1_4,x1_5,x1_6,x1_7)=some r):RetW Tryz.prog 83 #[.agg #[.int .i64 x0_0, .int .i64 x0_1, .int .i64 x0_2, .int .i64 x0_3, .slice a0_4 x0_4.length k0_4, .slice a0_5 x0_5.length k0_5, .slice a0_6 x0_6.length k0_6, .slice a0_7 x0_7.length k0_7, .slice a0_8 x0_8.length k0_8, .int .i64 x0_9, .int .i64 x0_10, .slice a0_11 x0_11.length k0_11, .slice a0_12 x0_12.length k0_12, .slice a0_13 x0_13.length k0_13, .slice a0_14 x0_14.length k0_14, .slice a0_15 x0_15.length k0_15], .agg #[.int .i64 x1_0, .int .i64 x1_1, .int .i64 x1_2, .int .i64 x1_3, .int .i64 x1_4, .slice a1_5 x1_5.length k1_5, .slice a1_6 x1_6.length k1_6, .int .i64 x1_7]] Fs [] [.s (.slice a0_6 x0_6.length k0_6) 116 8 x0_6.length cc0_6, .s (.slice a0_8 x0_8.length k0_8) 162 15 x0_8.length cc0_8] (fun v bo so G=>∃a0:Option Addr,∃k0:Nat,∃a1:Option Addr,∃k1:Nat,∃a2:Option Addr,∃k2:Nat,∃a3:Option Addr,∃k3:Nat,∃a4:Option Addr,∃k4:Nat,∃a5:Option Addr,∃k5:Nat,∃a6:Option Addr,∃k6:Nat,∃a7:Option Addr,∃k7:Nat,∃oc0:List Value,∃oc1:List Value,v= .tuple #[.agg #[.int .i64 r.1.1.1, .int .i64 r.1.1.2.1, .int .i64 r.1.1.2.2.1, .int .i64 r.1.1.2.2.2, .slice a0 r.1.2.1.length k0, .slice a1 r.1.2.2.1.length k1, .slice a0_6 r.1.2.2.2.1.length k0_6, .slice a2 r.1.2.2.2.2.1.length k2, .slice a0_8 r.1.2.2.2.2.2.1.length k0_8, .int .i64 r.1.2.2.2.2.2.2.1.1, .int .i64 r.1.2.2.2.2.2.2.1.2.1, .slice a3 r.1.2.2.2.2.2.2.1.2.2.length k3, .slice a4 r.1.2.2.2.2.2.2.2.1.1.length k4, .slice a5 r.1.2.2.2.2.2.2.2.1.2.length k5, .slice a6 r.1.2.2.2.2.2.2.2.2.1.length k6, .slice a7 r.1.2.2.2.2.2.2.2.2.2.length k7], .int .i64 r.2]∧bo=[]∧so=[.s (.slice a0_6 r.1.2.2.2.1.length k0_6) 116 8 r.1.2.2.2.1.length oc0, .s (.slice a0_8 r.1.2.2.2.2.2.1.length k0_8) 162 15 r.1.2.2.2.2.2.1.length oc1]∧SlR (Rep.pair ri ri) G a0 k0 r.1.2.1∧SlR (Rep.pair ri (Rep.pair ri (Rep.pair ri (Rep.sl (Rep.sl ri))))) G a1 k1 r.1.2.2.1∧SlR (Rep.pair ri (Rep.pair ri (Rep.pair ri (Rep.pair ri (Rep.pair ri (Rep.pair (Rep.sl ri) (Rep.pair (Rep.sl ri) ri))))))) G a2 k2 r.1.2.2.2.2.1∧SlR (Rep.pair ri (Rep.pair ri (Rep.pair ri (Rep.pair ri ri)))) G a3 k3 r.1.2.2.2.2.2.2.1.2.2∧SlR (Rep.pair ri ri) G a4 k4 r.1.2.2.2.2.2.2.2.1.1∧SlR ri G a5 k5 r.1.2.2.2.2.2.2.2.1.2∧SlR ri G a6 k6 r.1.2.2.2.2.2.2.2.2.1∧SlR (Rep.pair ri (Rep.pair ri (Rep.pair (Rep.sl (Rep.pair ri (Rep.pair (Rep.sl ri) (Rep.sl ri)))) (Rep.sl (Rep.pair ri (Rep.pair ri (Rep.pair ri (Rep.pair ri (Rep.pair ri (Rep.pair (Rep.sl ri) (Rep.pair (Rep.sl ri) ri))))))))))) G a7 k7 r.1.2.2.2.2.2.2.2.2.2∧OL (Rep.pair ri (Rep.pair (Rep.pair ri (Rep.pair ri (Rep.pair ri ri))) (Rep.pair Rep.bool (Rep.pair (Rep.sl (Rep.pair (Rep.pair ri (Rep.pair ri (Rep.pair ri (Rep.pair ri ri)))) (Rep.sl (Rep.sl ri)))) (Rep.sl (Rep.pair ri (Rep.pair ri (Rep.pair ri (Rep.pair (Rep.sl ri) (Rep.sl ri)))))))))) G oc0 r.1.2.2.2.1∧OL (Rep.pair ri (Rep.pair (Rep.pair ri (Rep.pair ri (Rep.pair ri ri))) (Rep.pair (Rep.pair ri (Rep.pair ri (Rep.pair ri (Rep.pair ri ri)))) (Rep.pair (Rep.sl ri) (Rep.pair (Rep.sl (Rep.sl (Rep.sl ri))) (Rep.pair (Rep.sl (Rep.sl (Rep.pair Rep.bool (Rep.sl ri)))) (Rep.pair (Rep.sl (Rep.sl ri)) Rep.bool))))))) G oc1 r.1.2.2.2.2.2.1):=by
 unfold X9q at h;try dsimp only at h
 refine RetW.st [(0,_),(1,_)] Tryz.func83 Tryz.ntmps83 hG fun w0 S0 hS0 B0=>?_;refine .go 2 ?_;refine .box [_,_,_,_,_,_,_,_,_,_,_,_,_,_,_,_] .ro rfl rfl rfl (fun b3 hb3=>?_);refine .box [_,_,_,_,_,_,_,_] .ro rfl rfl rfl (fun b4 hb4=>?_);refine .alloc .ro ty46 rfl (fun b5 hb5=>?_);refine .go 9 ?_;refine .cH h (fun c6 r7=>?_) (fun c6 r26=>?_);refine .go 2 ?_;refine .q .ro (.load_own_a 2 [_,_,_,_,_,_,_,_,_,_,_,_,_,_,_,_] rfl rfl ty46 rfl) rfl (.go 2 ?_);obtain⟨u8,hu8,r9⟩:=X0 r7;refine .pullS 1 rfl [_,_] rfl (.pullS 1 rfl [_,_] rfl ?_);refine .callB (Q:=fun v bo so=>v= .int .i64 u8∧bo=[]∧so=[]) (b1:=[]) (b2:=[_,_,_]) (s1:=[]) (sB:=[_,_]) (s2:=[]) [_,_] [] .ro rfl rfl Tryz.call42 rfl rfl (fun Fs' G' hle hB hm=>(Xba (G:=G') hm (SlR.mono hle s0_4) (SlR.mono hle s0_5) (SlR.rd oo0_6 rfl hle (hB _ (List.mem_of_getElem? (i:=0) rfl))) (SlR.mono hle s0_7) (SlR.rd oo0_8 rfl hle (hB _ (List.mem_of_getElem? (i:=1) rfl))) (SlR.mono hle s0_11) (SlR.mono hle s0_12) (SlR.mono hle s0_13) (SlR.mono hle s0_14) (SlR.mono hle s0_15) hu8)) rfl (fun v11 bo so h10=>?_);obtain⟨rfl,rfl,rfl⟩:=h10;refine .gn 8 ?_;refine .cH r9 (fun c12 r13=>?_) (fun c12 r14=>?_);cases r13;refine .go 2 ?_;refine .kG (fun y=>∃(Z0:_)(Z1:Nat)(Z2 Z3 Z4 Z5 Z6 Z7:_)(Z8:Bc)(Z9:_)(Z10:Nat)(Z11:Ar)(Z12:_)(Z13:Nat)(Z14:_),y=⟨[(7, .pointer (some ⟨Z1,0,none⟩)),(8, .int .i64 Z14)],Z0::Fs,[(Z1, .cells #[.int .i64 Z2, .int .i64 Z3, .int .i64 Z4, .int .i64 Z5, .int .i64 Z6, .bool Z7, .slice Z9 Z8.length Z10, .slice Z12 Z11.length Z13] 116 (0,0))],[]⟩∧HpLe G Z0∧Bd w0 S0 Fs Z0∧SlR (Rep.pair (Rep.pair ri (Rep.pair ri (Rep.pair ri (Rep.pair ri ri)))) (Rep.sl (Rep.sl ri))) Z0 Z9 Z10 Z8∧SlR (Rep.pair ri (Rep.pair ri (Rep.pair ri (Rep.pair (Rep.sl ri) (Rep.sl ri))))) Z0 Z12 Z13 Z11∧(X7y u8 x0_0 x0_1 x0_2 x0_3 x0_4 x0_5 x0_7 x0_9 x0_10 x0_11 x0_12 x0_13 x0_14 x0_15 x0_6 x0_8) Z2 Z3 Z4 Z5 Z6 Z7 Z8 Z11 Z14=some r) [(2,_),(4,_),(6,_)] [_,_,_] [0,1,2] [_,_] [0,1] ?_ ?_;rintro _ ⟨G27,b28,v29,v31,v33,v34,v35,v37,v38,a39,k41,v43,a44,k45,v47,rfl,e48,B49,s50,s51,r52⟩;refine .gn 0 ?_;unfold X7y at r52;try dsimp only at r52
 refine .go 5 ?_;refine .q .ro (.load_own_a 0 [_,_,_,_,_,_,_,_] rfl rfl ty116 rfl) rfl ?_;obtain⟨u53,hu53,r54⟩:=X0 r52;obtain⟨c55,p56,h57⟩:=OL.get (OL.mono e48 oo0_6) hu53;obtain⟨_,_,rfl,rfl,_,_,rfl,⟨_,_,rfl,rfl,_,_,rfl,rfl,_,_,rfl,rfl,rfl⟩,_,_,rfl,rfl,_,_,rfl,⟨a58,k59,rfl,s60⟩,a61,k62,rfl,s63⟩:=h57;refine .q .ro (.idxO 0 rfl rfl rfl hu53 sl32 ty116.sz) rfl ?_;obtain⟨u65,hu65,r66⟩:=X0 r54;refine .storeR 0 0 (Q:=(Rep.pair ri (Rep.pair (Rep.pair ri (Rep.pair ri (Rep.pair ri ri))) (Rep.pair Rep.bool (Rep.pair (Rep.sl (Rep.pair (Rep.pair ri (Rep.pair ri (Rep.pair ri (Rep.pair ri ri)))) (Rep.sl (Rep.sl ri)))) (Rep.sl (Rep.pair ri (Rep.pair ri (Rep.pair ri (Rep.pair (Rep.sl ri) (Rep.sl ri))))))))))) .ro rfl rfl (OL.mono e48 oo0_6) hu65 rfl (.inl ⟨rfl,rfl⟩) rfl ty116 p56 ((Rep.pairI (Rep.intI .i64 v29) (Rep.pairI (Rep.pairI (Rep.intI .i64 v31) (Rep.pairI (Rep.intI .i64 v33) (Rep.pairI (Rep.intI .i64 v34) (Rep.intI .i64 v35)))) (Rep.pairI (Rep.boolI v37) (Rep.pairI (Rep.slI s50) (Rep.slI s51))))) :) rfl rfl (fun cs67 hlcs67 o68=>?_);refine .reval 32 hlcs67 rfl (.recell 3 [_,_,_,_,_,_, .slice a0_6 u65.length k0_6,_,_,_,_,_,_,_,_,_] rfl (by rw[hlcs67]<;>rfl) [_,_,_,_] rfl (.go 3 ?_));refine .q .ro (.load_own_a 3 [_,_,_,_,_,_,_,_,_,_,_,_,_,_,_,_] rfl rfl ty46 rfl) rfl (.go 1 ?_);refine .store 1 [_,_,_,_,_,_,_,_,_,_,_,_,_,_,_,_] [_,_,_,_] .ro rfl rfl rfl ty46 rfl rfl rfl rfl (.go 2 ?_);cases r66;refine .retWD 4 (.inr ⟨_,rfl⟩) [.cell 4 46, .tmp 5] [_,_] rfl Tryz.func83 Tryz.results83 ⟨RV.cell_a 1 [_,_,_,_,_,_,_,_,_,_,_,_,_,_,_,_] rfl rfl ty46 rfl,RV.tmp rfl,trivial⟩ mcm mcs B49 (by subst hS0;exact hS2 (hS_s 0 rfl) (hS_s 1 rfl)) (fun G' hg=>⟨a0_4,k0_4,a0_5,k0_5,a0_7,k0_7,a0_11,k0_11,a0_12,k0_12,a0_13,k0_13,a0_14,k0_14,a0_15,k0_15,cs67,cc0_8,rfl,rfl,rfl,(SlR.mono hg (SlR.mono e48 s0_4)),(SlR.mono hg (SlR.mono e48 s0_5)),(SlR.mono hg (SlR.mono e48 s0_7)),(SlR.mono hg (SlR.mono e48 s0_11)),(SlR.mono hg (SlR.mono e48 s0_12)),(SlR.mono hg (SlR.mono e48 s0_13)),(SlR.mono hg (SlR.mono e48 s0_14)),(SlR.mono hg (SlR.mono e48 s0_15)),(OL.mono hg o68),(OL.mono hg (OL.mono e48 oo0_8))⟩);intro hb69;refine .drawL (.q 0 (.q 1 (.q 2 (.q 5 (.alt (.e 3 1 (.alt (.e 4 1 (.alt (.e 6 1 (.q 7 (.q 8 (.q 9 (.e 10 1 (.e 11 1 (.q 12 .nil))))))) (.e 10 1 (.e 6 1 (.q 7 (.q 8 (.q 9 (.e 11 1 (.q 12 .nil))))))))) (.e 10 1 (.e 4 1 (.e 6 1 (.q 7 (.q 8 (.q 9 (.e 11 1 (.q 12 .nil)))))))))) (.e 10 1 (.e 3 1 (.e 4 1 (.e 6 1 (.q 7 (.q 8 (.q 9 (.e 11 1 (.q 12 .nil)))))))))))))) [_,_,_] (by kernel_rfl) (by kernel_rfl) (X1 [0,1,2] rfl) ?_;obtain⟨u70,hu70,r71⟩:=X0 r14;obtain⟨u72,hu72,r73⟩:=X0 r71;refine .go 3 ?_;refine .dq (.load_own_a 1 [_,_,_,_,_,_,_,_] rfl rfl ty105 rfl) rfl ?_;refine .alt ?_ ?_;obtain⟨c74,p75,h76⟩:=OL.get oo0_6 hu70
 obtain⟨_,_,rfl,rfl,_,_,rfl,⟨_,_,rfl,rfl,_,_,rfl,rfl,_,_,rfl,rfl,rfl⟩,_,_,rfl,rfl,_,_,rfl,⟨a77,k78,rfl,s79⟩,a80,k81,rfl,s82⟩:=h76;refine .q .d1 (.idxO 0 rfl rfl rfl hu70 sl32 ty116.sz) rfl (.clsL (HpLe.refl _) (X1 [0,1,2] rfl) ?_);refine .alt ?_ ?_;refine .q .d1 (.loadO_a 0 0 [_,_,_,_,_,_,_,_] rfl hu70 p75 rfl (.inl ⟨rfl,rfl⟩) ty116 rfl) rfl ?_;refine .clsL (HpLe.refl _) (X1 [0,1,2] rfl) ?_;refine .alt ?_ ?_;refine .callW (b1:=[]) (b2:=[_,_,_]) (s1:=[]) [_,_] [] .d1 rfl rfl Tryz.call133 rfl rfl (Xaa mcs s79 s82 s1_5 s1_6 hu72) rfl B0 (fun v84 bo so G85 e86 B87 h88=>?_);obtain⟨a89,k90,a91,k92,rfl,rfl,rfl,s93,s94⟩:=h88;refine .gn 0 ?_;refine .clsL e86 (X1 [0,1,2] rfl) (.go 3 ?_);refine .alloc .d1 ty116 rfl (fun b95 hb95=>?_);refine .clsL e86 (X1 [1,2,3] rfl) (.store 0 [_,_,_,_,_,_,_,_] [_,_,_,_] .d1 rfl rfl rfl ty116 rfl rfl rfl rfl (.clsL e86 (X1 [1,2,3] rfl) (.go 2 ?_)));exact(hb69 _ ⟨G85,b95,u72.1.1,u72.1.2.1.1,u72.1.2.1.2.1,u72.1.2.1.2.2.1,u72.1.2.1.2.2.2,u72.1.2.2.1,u72.1.2.2.2.1,a89,k90,u72.1.2.2.2.2,a91,k92,u72.2,rfl,e86,B87,s93,s94,r73⟩).ar;refine .alloc .d1 ty116 rfl (fun b96 hb96=>?_);refine .clsL (HpLe.refl _) (X1 [1,2,3] rfl) ?_;refine .callW (b1:=[]) (b2:=[_,_,_,_]) (s1:=[]) [_,_] [] .d1 rfl rfl Tryz.call133 rfl rfl (Xaa mcs s79 s82 s1_5 s1_6 hu72) rfl B0 (fun v97 bo so G98 e99 B100 h101=>?_);obtain⟨a102,k103,a104,k106,rfl,rfl,rfl,s107,s108⟩:=h101;refine .gn 0 ?_;refine .clsL e99 (X1 [1,2,3] rfl) (.go 3 ?_);refine .store 0 [_,_,_,_,_,_,_,_] [_,_,_,_] .d1 rfl rfl rfl ty116 rfl rfl rfl rfl (.clsL e99 (X1 [1,2,3] rfl) (.go 2 ?_));exact(hb69 _ ⟨G98,b96,u72.1.1,u72.1.2.1.1,u72.1.2.1.2.1,u72.1.2.1.2.2.1,u72.1.2.1.2.2.2,u72.1.2.2.1,u72.1.2.2.2.1,a102,k103,u72.1.2.2.2.2,a104,k106,u72.2,rfl,e99,B100,s107,s108,r73⟩).ar;refine .alloc .d1 ty116 rfl (fun b109 hb109=>?_);refine .clsL (HpLe.refl _) (X1 [1,2,3] rfl) (.q .d1 (.loadO_a 0 0 [_,_,_,_,_,_,_,_] rfl hu70 p75 rfl (.inl ⟨rfl,rfl⟩) ty116 rfl) rfl (.clsL (HpLe.refl _) (X1 [1,2,3] rfl) ?_));refine .callW (b1:=[]) (b2:=[_,_,_,_]) (s1:=[]) [_,_] [] .d1 rfl rfl Tryz.call133 rfl rfl (Xaa mcs s79 s82 s1_5 s1_6 hu72) rfl B0 (fun v110 bo so G111 e112 B113 h114=>?_);obtain⟨a115,k117,a118,k119,rfl,rfl,rfl,s120,s121⟩:=h114;refine .gn 0 ?_;refine .clsL e112 (X1 [1,2,3] rfl) (.go 3 ?_);refine .store 0 [_,_,_,_,_,_,_,_] [_,_,_,_] .d1 rfl rfl rfl ty116 rfl rfl rfl rfl (.clsL e112 (X1 [1,2,3] rfl) (.go 2 ?_));exact(hb69 _ ⟨G111,b109,u72.1.1,u72.1.2.1.1,u72.1.2.1.2.1,u72.1.2.1.2.2.1,u72.1.2.1.2.2.2,u72.1.2.2.1,u72.1.2.2.2.1,a115,k117,u72.1.2.2.2.2,a118,k119,u72.2,rfl,e112,B113,s120,s121,r73⟩).ar;refine .alloc .d1 ty116 rfl (fun b122 hb122=>?_)
 refine .clsL (HpLe.refl _) (X1 [1,2,3] rfl) ?_;obtain⟨c123,p124,h125⟩:=OL.get oo0_6 hu70;obtain⟨_,_,rfl,rfl,_,_,rfl,⟨_,_,rfl,rfl,_,_,rfl,rfl,_,_,rfl,rfl,rfl⟩,_,_,rfl,rfl,_,_,rfl,⟨a126,k127,rfl,s128⟩,a129,k130,rfl,s131⟩:=h125;refine .q .d1 (.idxO 0 rfl rfl rfl hu70 sl32 ty116.sz) rfl (.clsL (HpLe.refl _) (X1 [1,2,3] rfl) (.q .d1 (.loadO_a 0 0 [_,_,_,_,_,_,_,_] rfl hu70 p124 rfl (.inl ⟨rfl,rfl⟩) ty116 rfl) rfl (.clsL (HpLe.refl _) (X1 [1,2,3] rfl) ?_)));refine .callW (b1:=[]) (b2:=[_,_,_,_]) (s1:=[]) [_,_] [] .d1 rfl rfl Tryz.call133 rfl rfl (Xaa mcs s128 s131 s1_5 s1_6 hu72) rfl B0 (fun v132 bo so G135 e136 B137 h138=>?_);obtain⟨a139,k140,a141,k142,rfl,rfl,rfl,s143,s144⟩:=h138;refine .gn 0 ?_;refine .clsL e136 (X1 [1,2,3] rfl) (.go 3 ?_);refine .store 0 [_,_,_,_,_,_,_,_] [_,_,_,_] .d1 rfl rfl rfl ty116 rfl rfl rfl rfl (.clsL e136 (X1 [1,2,3] rfl) (.go 2 ?_));exact(hb69 _ ⟨G135,b122,u72.1.1,u72.1.2.1.1,u72.1.2.1.2.1,u72.1.2.1.2.2.1,u72.1.2.1.2.2.2,u72.1.2.2.1,u72.1.2.2.2.1,a139,k140,u72.1.2.2.2.2,a141,k142,u72.2,rfl,e136,B137,s143,s144,r73⟩).ar;refine .go 8 ?_;refine .kR (fun y=>y=⟨[(48, .bool (decide ((x1_1<0)∨((x0_8.length:Int)≤x1_1))))],G::Fs,[],[]⟩) [(2,_),(3,_),(4,_)] [_,_,_] [0,1,2] [_,_] [0,1] 7 ?_ ?_;rintro _ rfl;refine .gn 1 ?_;refine .cH r26 (fun c145 r146=>?_) (fun c145 r147=>?_);cases r146;refine .go 2 ?_;refine .kG (fun y=>∃(Z0:_)(Z1:Nat)(Z2 Z3 Z4 Z5 Z6 Z7 Z8 Z9 Z10 Z11:_)(Z12:Ab)(Z13:_)(Z14:Nat)(Z15:Bn)(Z16:_)(Z17:Nat)(Z18:Aw)(Z19:_)(Z20:Nat)(Z21:Ah)(Z22:_)(Z23:Nat)(Z24 Z25:_),y=⟨[(9, .pointer (some ⟨Z1,0,none⟩)),(10, .int .i64 Z25)],Z0::Fs,[(Z1, .cells #[.int .i64 Z2, .int .i64 Z3, .int .i64 Z4, .int .i64 Z5, .int .i64 Z6, .int .i64 Z7, .int .i64 Z8, .int .i64 Z9, .int .i64 Z10, .int .i64 Z11, .slice Z13 Z12.length Z14, .slice Z16 Z15.length Z17, .slice Z19 Z18.length Z20, .slice Z22 Z21.length Z23, .bool Z24] 162 (0,0))],[]⟩∧HpLe G Z0∧Bd w0 S0 Fs Z0∧SlR ri Z0 Z13 Z14 Z12∧SlR (Rep.sl (Rep.sl ri)) Z0 Z16 Z17 Z15∧SlR (Rep.sl (Rep.pair Rep.bool (Rep.sl ri))) Z0 Z19 Z20 Z18∧SlR (Rep.sl ri) Z0 Z22 Z23 Z21∧(X7z x1_1 x0_0 x0_1 x0_2 x0_3 x0_4 x0_5 x0_7 x0_9 x0_10 x0_11 x0_12 x0_13 x0_14 x0_15 x0_6 x0_8) Z2 Z3 Z4 Z5 Z6 Z7 Z8 Z9 Z10 Z11 Z12 Z15 Z18 Z21 Z24 Z25=some r) [(2,_),(3,_),(4,_)] [_,_,_] [0,1,2] [_,_] [0,1] ?_ ?_;rintro _ ⟨G148,b149,v150,v151,v152,v153,v154,v155,v156,v157,v158,v159,v160,a161,k163,v164,a165,k166,v167,a168,k169,v170,a171,k172,v173,v174,rfl,e175,B176,s177,s178,s179,s180,r181⟩;refine .gn 0 ?_;unfold X7z at r181;try dsimp only at r181
 refine .go 6 ?_;refine .q .ro (.load_own_a 0 [_,_,_,_,_,_,_,_,_,_,_,_,_,_,_] rfl rfl ty162 rfl) rfl ?_;obtain⟨u182,hu182,r183⟩:=X0 r181;obtain⟨c184,p185,h186⟩:=OL.get (OL.mono e175 oo0_8) hu182;obtain⟨_,_,rfl,rfl,_,_,rfl,⟨_,_,rfl,rfl,_,_,rfl,rfl,_,_,rfl,rfl,rfl⟩,_,_,rfl,⟨_,_,rfl,rfl,_,_,rfl,rfl,_,_,rfl,rfl,_,_,rfl,rfl,rfl⟩,_,_,rfl,⟨a187,k188,rfl,s189⟩,_,_,rfl,⟨a190,k191,rfl,s192⟩,_,_,rfl,⟨a193,k194,rfl,s195⟩,_,_,rfl,⟨a196,k197,rfl,s198⟩,rfl⟩:=h186;refine .q .ro (.idxO 1 rfl rfl rfl hu182 sl36 ty162.sz) rfl ?_;obtain⟨u199,hu199,r200⟩:=X0 r183;refine .storeR 1 0 (Q:=(Rep.pair ri (Rep.pair (Rep.pair ri (Rep.pair ri (Rep.pair ri ri))) (Rep.pair (Rep.pair ri (Rep.pair ri (Rep.pair ri (Rep.pair ri ri)))) (Rep.pair (Rep.sl ri) (Rep.pair (Rep.sl (Rep.sl (Rep.sl ri))) (Rep.pair (Rep.sl (Rep.sl (Rep.pair Rep.bool (Rep.sl ri)))) (Rep.pair (Rep.sl (Rep.sl ri)) Rep.bool)))))))) .ro rfl rfl (OL.mono e175 oo0_8) hu199 rfl (.inl ⟨rfl,rfl⟩) rfl ty162 p185 ((Rep.pairI (Rep.intI .i64 v150) (Rep.pairI (Rep.pairI (Rep.intI .i64 v151) (Rep.pairI (Rep.intI .i64 v152) (Rep.pairI (Rep.intI .i64 v153) (Rep.intI .i64 v154)))) (Rep.pairI (Rep.pairI (Rep.intI .i64 v155) (Rep.pairI (Rep.intI .i64 v156) (Rep.pairI (Rep.intI .i64 v157) (Rep.pairI (Rep.intI .i64 v158) (Rep.intI .i64 v159))))) (Rep.pairI (Rep.slI s177) (Rep.pairI (Rep.slI s178) (Rep.pairI (Rep.slI s179) (Rep.pairI (Rep.slI s180) (Rep.boolI v173)))))))) :) rfl rfl (fun cs201 hlcs201 o202=>?_);refine .reval 64 hlcs201 rfl (.recell 3 [_,_,_,_,_,_,_,_, .slice a0_8 u199.length k0_8,_,_,_,_,_,_,_] rfl (by rw[hlcs201]<;>rfl) [_,_,_,_] rfl (.go 3 ?_));refine .q .ro (.load_own_a 3 [_,_,_,_,_,_,_,_,_,_,_,_,_,_,_,_] rfl rfl ty46 rfl) rfl (.go 1 ?_);refine .store 1 [_,_,_,_,_,_,_,_,_,_,_,_,_,_,_,_] [_,_,_,_] .ro rfl rfl rfl ty46 rfl rfl rfl rfl (.go 2 ?_);cases r200;refine .retWD 4 (.inr ⟨_,rfl⟩) [.cell 4 46, .tmp 5] [_,_] rfl Tryz.func83 Tryz.results83 ⟨RV.cell_a 1 [_,_,_,_,_,_,_,_,_,_,_,_,_,_,_,_] rfl rfl ty46 rfl,RV.tmp rfl,trivial⟩ mcm mcs B176 (by subst hS0;exact hS2 (hS_s 0 rfl) (hS_s 1 rfl)) (fun G' hg=>⟨a0_4,k0_4,a0_5,k0_5,a0_7,k0_7,a0_11,k0_11,a0_12,k0_12,a0_13,k0_13,a0_14,k0_14,a0_15,k0_15,cc0_6,cs201,rfl,rfl,rfl,(SlR.mono hg (SlR.mono e175 s0_4)),(SlR.mono hg (SlR.mono e175 s0_5)),(SlR.mono hg (SlR.mono e175 s0_7)),(SlR.mono hg (SlR.mono e175 s0_11)),(SlR.mono hg (SlR.mono e175 s0_12)),(SlR.mono hg (SlR.mono e175 s0_13)),(SlR.mono hg (SlR.mono e175 s0_14)),(SlR.mono hg (SlR.mono e175 s0_15)),(OL.mono hg (OL.mono e175 oo0_6)),(OL.mono hg o202)⟩);intro hb203
 refine .drawL (.q 0 (.q 1 (.q 2 (.q 3 (.q 6 (.q 7 (.q 8 (.alt (.e 4 1 (.alt (.e 5 1 (.alt (.e 9 1 (.q 10 (.q 11 (.q 12 (.e 13 1 (.e 14 1 (.q 15 .nil))))))) (.e 13 1 (.e 9 1 (.q 10 (.q 11 (.q 12 (.e 14 1 (.q 15 .nil))))))))) (.e 13 1 (.e 5 1 (.e 9 1 (.q 10 (.q 11 (.q 12 (.e 14 1 (.q 15 .nil)))))))))) (.e 13 1 (.e 4 1 (.e 5 1 (.e 9 1 (.q 10 (.q 11 (.q 12 (.e 14 1 (.q 15 .nil))))))))))))))))) [_,_,_] (by kernel_rfl) (by kernel_rfl) (X1 [0,1,2] rfl) ?_;obtain⟨u204,hu204,r205⟩:=X0 r147;obtain⟨u206,hu206,r207⟩:=X0 r205;refine .go 6 ?_;refine .dq (.load_own_a 1 [_,_,_,_,_,_,_,_] rfl rfl ty105 rfl) rfl ?_;refine .alt ?_ ?_;obtain⟨c208,p209,h210⟩:=OL.get oo0_8 hu204;obtain⟨_,_,rfl,rfl,_,_,rfl,⟨_,_,rfl,rfl,_,_,rfl,rfl,_,_,rfl,rfl,rfl⟩,_,_,rfl,⟨_,_,rfl,rfl,_,_,rfl,rfl,_,_,rfl,rfl,_,_,rfl,rfl,rfl⟩,_,_,rfl,⟨a211,k212,rfl,s213⟩,_,_,rfl,⟨a214,k215,rfl,s216⟩,_,_,rfl,⟨a217,k218,rfl,s219⟩,_,_,rfl,⟨a220,k221,rfl,s222⟩,rfl⟩:=h210;refine .q .d1 (.idxO 1 rfl rfl rfl hu204 sl36 ty162.sz) rfl (.clsL (HpLe.refl _) (X1 [0,1,2] rfl) ?_);refine .alt ?_ ?_;refine .q .d1 (.loadO_a 1 0 [_,_,_,_,_,_,_,_,_,_,_,_,_,_,_] rfl hu204 p209 rfl (.inl ⟨rfl,rfl⟩) ty162 rfl) rfl ?_;refine .clsL (HpLe.refl _) (X1 [0,1,2] rfl) ?_;refine .alt ?_ ?_;refine .callW (b1:=[]) (b2:=[_,_,_]) (s1:=[]) [_,_,_] [] .d1 rfl rfl Tryz.call134 rfl rfl (X99 mcs s213 s216 s219 s222 s0_4 s1_5 s1_6 hu206) rfl B0 (fun v223 bo so G224 e225 B226 h227=>?_);obtain⟨a228,k229,a230,k231,a232,k233,a234,k235,rfl,rfl,rfl,s236,s237,s238,s239⟩:=h227;refine .gn 0 ?_;refine .clsL e225 (X1 [0,1,2] rfl) (.go 3 ?_);refine .alloc .d1 ty162 rfl (fun b240 hb240=>?_);refine .clsL e225 (X1 [1,2,3] rfl) (.store 0 [_,_,_,_,_,_,_,_,_,_,_,_,_,_,_] [_,_,_,_] .d1 rfl rfl rfl ty162 rfl rfl rfl rfl (.clsL e225 (X1 [1,2,3] rfl) (.go 2 ?_)));exact(hb203 _ ⟨G224,b240,u206.1.1,u206.1.2.1.1,u206.1.2.1.2.1,u206.1.2.1.2.2.1,u206.1.2.1.2.2.2,u206.1.2.2.1.1,u206.1.2.2.1.2.1,u206.1.2.2.1.2.2.1,u206.1.2.2.1.2.2.2.1,u206.1.2.2.1.2.2.2.2,u206.1.2.2.2.1,a228,k229,u206.1.2.2.2.2.1,a230,k231,u206.1.2.2.2.2.2.1,a232,k233,u206.1.2.2.2.2.2.2.1,a234,k235,u206.1.2.2.2.2.2.2.2,u206.2,rfl,e225,B226,s236,s237,s238,s239,r207⟩).ar;refine .alloc .d1 ty162 rfl (fun b241 hb241=>?_);refine .clsL (HpLe.refl _) (X1 [1,2,3] rfl) ?_;refine .callW (b1:=[]) (b2:=[_,_,_,_]) (s1:=[]) [_,_,_] [] .d1 rfl rfl Tryz.call134 rfl rfl (X99 mcs s213 s216 s219 s222 s0_4 s1_5 s1_6 hu206) rfl B0 (fun v242 bo so G243 e244 B245 h246=>?_);obtain⟨a247,k248,a249,k250,a251,k252,a253,k254,rfl,rfl,rfl,s255,s256,s257,s258⟩:=h246;refine .gn 0 ?_;refine .clsL e244 (X1 [1,2,3] rfl) (.go 3 ?_)
 refine .store 0 [_,_,_,_,_,_,_,_,_,_,_,_,_,_,_] [_,_,_,_] .d1 rfl rfl rfl ty162 rfl rfl rfl rfl (.clsL e244 (X1 [1,2,3] rfl) (.go 2 ?_));exact(hb203 _ ⟨G243,b241,u206.1.1,u206.1.2.1.1,u206.1.2.1.2.1,u206.1.2.1.2.2.1,u206.1.2.1.2.2.2,u206.1.2.2.1.1,u206.1.2.2.1.2.1,u206.1.2.2.1.2.2.1,u206.1.2.2.1.2.2.2.1,u206.1.2.2.1.2.2.2.2,u206.1.2.2.2.1,a247,k248,u206.1.2.2.2.2.1,a249,k250,u206.1.2.2.2.2.2.1,a251,k252,u206.1.2.2.2.2.2.2.1,a253,k254,u206.1.2.2.2.2.2.2.2,u206.2,rfl,e244,B245,s255,s256,s257,s258,r207⟩).ar;refine .alloc .d1 ty162 rfl (fun b259 hb259=>?_);refine .clsL (HpLe.refl _) (X1 [1,2,3] rfl) (.q .d1 (.loadO_a 1 0 [_,_,_,_,_,_,_,_,_,_,_,_,_,_,_] rfl hu204 p209 rfl (.inl ⟨rfl,rfl⟩) ty162 rfl) rfl (.clsL (HpLe.refl _) (X1 [1,2,3] rfl) ?_));refine .callW (b1:=[]) (b2:=[_,_,_,_]) (s1:=[]) [_,_,_] [] .d1 rfl rfl Tryz.call134 rfl rfl (X99 mcs s213 s216 s219 s222 s0_4 s1_5 s1_6 hu206) rfl B0 (fun v260 bo so G261 e262 B263 h264=>?_);obtain⟨a265,k266,a267,k268,a269,k270,a271,k272,rfl,rfl,rfl,s273,s274,s275,s276⟩:=h264;refine .gn 0 ?_;refine .clsL e262 (X1 [1,2,3] rfl) (.go 3 ?_);refine .store 0 [_,_,_,_,_,_,_,_,_,_,_,_,_,_,_] [_,_,_,_] .d1 rfl rfl rfl ty162 rfl rfl rfl rfl (.clsL e262 (X1 [1,2,3] rfl) (.go 2 ?_));exact(hb203 _ ⟨G261,b259,u206.1.1,u206.1.2.1.1,u206.1.2.1.2.1,u206.1.2.1.2.2.1,u206.1.2.1.2.2.2,u206.1.2.2.1.1,u206.1.2.2.1.2.1,u206.1.2.2.1.2.2.1,u206.1.2.2.1.2.2.2.1,u206.1.2.2.1.2.2.2.2,u206.1.2.2.2.1,a265,k266,u206.1.2.2.2.2.1,a267,k268,u206.1.2.2.2.2.2.1,a269,k270,u206.1.2.2.2.2.2.2.1,a271,k272,u206.1.2.2.2.2.2.2.2,u206.2,rfl,e262,B263,s273,s274,s275,s276,r207⟩).ar;refine .alloc .d1 ty162 rfl (fun b277 hb277=>?_);refine .clsL (HpLe.refl _) (X1 [1,2,3] rfl) ?_;obtain⟨c278,p279,h280⟩:=OL.get oo0_8 hu204;obtain⟨_,_,rfl,rfl,_,_,rfl,⟨_,_,rfl,rfl,_,_,rfl,rfl,_,_,rfl,rfl,rfl⟩,_,_,rfl,⟨_,_,rfl,rfl,_,_,rfl,rfl,_,_,rfl,rfl,_,_,rfl,rfl,rfl⟩,_,_,rfl,⟨a281,k282,rfl,s283⟩,_,_,rfl,⟨a284,k285,rfl,s286⟩,_,_,rfl,⟨a287,k288,rfl,s289⟩,_,_,rfl,⟨a290,k291,rfl,s292⟩,rfl⟩:=h280;refine .q .d1 (.idxO 1 rfl rfl rfl hu204 sl36 ty162.sz) rfl (.clsL (HpLe.refl _) (X1 [1,2,3] rfl) (.q .d1 (.loadO_a 1 0 [_,_,_,_,_,_,_,_,_,_,_,_,_,_,_] rfl hu204 p279 rfl (.inl ⟨rfl,rfl⟩) ty162 rfl) rfl (.clsL (HpLe.refl _) (X1 [1,2,3] rfl) ?_)));refine .callW (b1:=[]) (b2:=[_,_,_,_]) (s1:=[]) [_,_,_] [] .d1 rfl rfl Tryz.call134 rfl rfl (X99 mcs s283 s286 s289 s292 s0_4 s1_5 s1_6 hu206) rfl B0 (fun v293 bo so G294 e295 B296 h297=>?_);obtain⟨a298,k299,a300,k301,a302,k303,a304,k305,rfl,rfl,rfl,s306,s307,s308,s309⟩:=h297;refine .gn 0 ?_;refine .clsL e295 (X1 [1,2,3] rfl) (.go 3 ?_)
 refine .store 0 [_,_,_,_,_,_,_,_,_,_,_,_,_,_,_] [_,_,_,_] .d1 rfl rfl rfl ty162 rfl rfl rfl rfl (.clsL e295 (X1 [1,2,3] rfl) (.go 2 ?_));exact(hb203 _ ⟨G294,b277,u206.1.1,u206.1.2.1.1,u206.1.2.1.2.1,u206.1.2.1.2.2.1,u206.1.2.1.2.2.2,u206.1.2.2.1.1,u206.1.2.2.1.2.1,u206.1.2.2.1.2.2.1,u206.1.2.2.1.2.2.2.1,u206.1.2.2.1.2.2.2.2,u206.1.2.2.2.1,a298,k299,u206.1.2.2.2.2.1,a300,k301,u206.1.2.2.2.2.2.1,a302,k303,u206.1.2.2.2.2.2.2.1,a304,k305,u206.1.2.2.2.2.2.2.2,u206.2,rfl,e295,B296,s306,s307,s308,s309,r207⟩).ar;intro hb310;refine .split 41 rfl (fun c311=>?_) (fun c311=>?_);refine .go 7 ?_;exact(hb310 _ rfl).ax ⟨X6 c311,rfl,rfl,rfl,trivial⟩;refine .go 13 ?_;exact(hb310 _ rfl).ax ⟨X7 c311,rfl,rfl,rfl,trivial⟩
theorem Xd5{x0_0 x0_1 x0_2 x0_3:Int}{x0_4:An}{x0_5:Bp}{x0_6:Bq}{x0_7:Bg}{x0_8:Bx}{x0_9 x0_10:Int}{x0_11:Bj}{x0_12:An}{x0_13 x0_14:Ab}{x0_15:Aj}{x1:Int}{x2:Bool}{r:Cv}(hG:G∈Fs)(s0_4:SlR (Rep.pair ri ri) G a0_4 k0_4 x0_4)(s0_5:SlR (Rep.pair ri (Rep.pair ri (Rep.pair ri (Rep.sl (Rep.sl ri))))) G a0_5 k0_5 x0_5)(oo0_6:OL (Rep.pair ri (Rep.pair (Rep.pair ri (Rep.pair ri (Rep.pair ri ri))) (Rep.pair Rep.bool (Rep.pair (Rep.sl (Rep.pair (Rep.pair ri (Rep.pair ri (Rep.pair ri (Rep.pair ri ri)))) (Rep.sl (Rep.sl ri)))) (Rep.sl (Rep.pair ri (Rep.pair ri (Rep.pair ri (Rep.pair (Rep.sl ri) (Rep.sl ri)))))))))) G cc0_6 x0_6)(s0_7:SlR (Rep.pair ri (Rep.pair ri (Rep.pair ri (Rep.pair ri (Rep.pair ri (Rep.pair (Rep.sl ri) (Rep.pair (Rep.sl ri) ri))))))) G a0_7 k0_7 x0_7)(oo0_8:OL (Rep.pair ri (Rep.pair (Rep.pair ri (Rep.pair ri (Rep.pair ri ri))) (Rep.pair (Rep.pair ri (Rep.pair ri (Rep.pair ri (Rep.pair ri ri)))) (Rep.pair (Rep.sl ri) (Rep.pair (Rep.sl (Rep.sl (Rep.sl ri))) (Rep.pair (Rep.sl (Rep.sl (Rep.pair Rep.bool (Rep.sl ri)))) (Rep.pair (Rep.sl (Rep.sl ri)) Rep.bool))))))) G cc0_8 x0_8)(s0_11:SlR (Rep.pair ri (Rep.pair ri (Rep.pair ri (Rep.pair ri ri)))) G a0_11 k0_11 x0_11)(s0_12:SlR (Rep.pair ri ri) G a0_12 k0_12 x0_12)(s0_13:SlR ri G a0_13 k0_13 x0_13)(s0_14:SlR ri G a0_14 k0_14 x0_14)(s0_15:SlR (Rep.pair ri (Rep.pair ri (Rep.pair (Rep.sl (Rep.pair ri (Rep.pair (Rep.sl ri) (Rep.sl ri)))) (Rep.sl (Rep.pair ri (Rep.pair ri (Rep.pair ri (Rep.pair ri (Rep.pair ri (Rep.pair (Rep.sl ri) (Rep.pair (Rep.sl ri) ri))))))))))) G a0_15 k0_15 x0_15)(h:X6l ((x0_0,x0_1,x0_2,x0_3),x0_4,x0_5,x0_6,x0_7,x0_8,(x0_9,x0_10,x0_11),(x0_12,x0_13),x0_14,x0_15) x1 x2=some r):RetW Tryz.prog 39 #[.agg #[.int .i64 x0_0, .int .i64 x0_1, .int .i64 x0_2, .int .i64 x0_3, .slice a0_4 x0_4.length k0_4, .slice a0_5 x0_5.length k0_5, .slice a0_6 x0_6.length k0_6, .slice a0_7 x0_7.length k0_7, .slice a0_8 x0_8.length k0_8, .int .i64 x0_9, .int .i64 x0_10, .slice a0_11 x0_11.length k0_11, .slice a0_12 x0_12.length k0_12, .slice a0_13 x0_13.length k0_13, .slice a0_14 x0_14.length k0_14, .slice a0_15 x0_15.length k0_15], .int .i64 x1, .bool x2] Fs [] [.s (.slice a0_6 x0_6.length k0_6) 116 8 x0_6.length cc0_6, .s (.slice a0_8 x0_8.length k0_8) 162 15 x0_8.length cc0_8] (fun v bo so G=>∃a0:Option Addr,∃k0:Nat,∃a1:Option Addr,∃k1:Nat,∃a2:Option Addr,∃k2:Nat,∃a3:Option Addr,∃k3:Nat,∃a4:Option Addr,∃k4:Nat,∃a5:Option Addr,∃k5:Nat,∃a6:Option Addr,∃k6:Nat,∃a7:Option Addr,∃k7:Nat,∃oc0:List Value,∃oc1:List Value,v= .tuple #[.agg #[.int .i64 r.1.1.1, .int .i64 r.1.1.2.1, .int .i64 r.1.1.2.2.1, .int .i64 r.1.1.2.2.2, .slice a0 r.1.2.1.length k0, .slice a1 r.1.2.2.1.length k1, .slice a0_6 r.1.2.2.2.1.length k0_6, .slice a2 r.1.2.2.2.2.1.length k2, .slice a0_8 r.1.2.2.2.2.2.1.length k0_8, .int .i64 r.1.2.2.2.2.2.2.1.1, .int .i64 r.1.2.2.2.2.2.2.1.2.1, .slice a3 r.1.2.2.2.2.2.2.1.2.2.length k3, .slice a4 r.1.2.2.2.2.2.2.2.1.1.length k4, .slice a5 r.1.2.2.2.2.2.2.2.1.2.length k5, .slice a6 r.1.2.2.2.2.2.2.2.2.1.length k6, .slice a7 r.1.2.2.2.2.2.2.2.2.2.length k7], .int .i64 r.2]∧bo=[]∧so=[.s (.slice a0_6 r.1.2.2.2.1.length k0_6) 116 8 r.1.2.2.2.1.length oc0, .s (.slice a0_8 r.1.2.2.2.2.2.1.length k0_8) 162 15 r.1.2.2.2.2.2.1.length oc1]∧SlR (Rep.pair ri ri) G a0 k0 r.1.2.1∧SlR (Rep.pair ri (Rep.pair ri (Rep.pair ri (Rep.sl (Rep.sl ri))))) G a1 k1 r.1.2.2.1∧SlR (Rep.pair ri (Rep.pair ri (Rep.pair ri (Rep.pair ri (Rep.pair ri (Rep.pair (Rep.sl ri) (Rep.pair (Rep.sl ri) ri))))))) G a2 k2 r.1.2.2.2.2.1∧SlR (Rep.pair ri (Rep.pair ri (Rep.pair ri (Rep.pair ri ri)))) G a3 k3 r.1.2.2.2.2.2.2.1.2.2∧SlR (Rep.pair ri ri) G a4 k4 r.1.2.2.2.2.2.2.2.1.1∧SlR ri G a5 k5 r.1.2.2.2.2.2.2.2.1.2∧SlR ri G a6 k6 r.1.2.2.2.2.2.2.2.2.1∧SlR (Rep.pair ri (Rep.pair ri (Rep.pair (Rep.sl (Rep.pair ri (Rep.pair (Rep.sl ri) (Rep.sl ri)))) (Rep.sl (Rep.pair ri (Rep.pair ri (Rep.pair ri (Rep.pair ri (Rep.pair ri (Rep.pair (Rep.sl ri) (Rep.pair (Rep.sl ri) ri))))))))))) G a7 k7 r.1.2.2.2.2.2.2.2.2.2∧OL (Rep.pair ri (Rep.pair (Rep.pair ri (Rep.pair ri (Rep.pair ri ri))) (Rep.pair Rep.bool (Rep.pair (Rep.sl (Rep.pair (Rep.pair ri (Rep.pair ri (Rep.pair ri (Rep.pair ri ri)))) (Rep.sl (Rep.sl ri)))) (Rep.sl (Rep.pair ri (Rep.pair ri (Rep.pair ri (Rep.pair (Rep.sl ri) (Rep.sl ri)))))))))) G oc0 r.1.2.2.2.1∧OL (Rep.pair ri (Rep.pair (Rep.pair ri (Rep.pair ri (Rep.pair ri ri))) (Rep.pair (Rep.pair ri (Rep.pair ri (Rep.pair ri (Rep.pair ri ri)))) (Rep.pair (Rep.sl ri) (Rep.pair (Rep.sl (Rep.sl (Rep.sl ri))) (Rep.pair (Rep.sl (Rep.sl (Rep.pair Rep.bool (Rep.sl ri)))) (Rep.pair (Rep.sl (Rep.sl ri)) Rep.bool))))))) G oc1 r.1.2.2.2.2.2.1):=by
 unfold X6l at h;try dsimp only at h
 refine RetW.st [(0,_),(1,_),(2,_)] Tryz.func39 Tryz.ntmps39 hG fun w0 S0 hS0 B0=>?_;refine .go 2 ?_;refine .box [_,_,_,_,_,_,_,_,_,_,_,_,_,_,_,_] .ro rfl rfl rfl (fun b3 hb3=>?_);refine .alloc .ro ty46 rfl (fun b4 hb4=>?_);refine .go 5 ?_;refine .q .ro (.load_own_a 1 [_] rfl rfl ty35 rfl) rfl (.go 1 ?_);obtain⟨u5,hu5,r6⟩:=X0 h;refine .cW [_,_] Tryz.call40 (Xfj mcs s0_7 hu5) B0 (fun v8 bo so G9 e10 B11 h7=>?_);obtain⟨a13,k14,a16,k17,a19,k20,rfl,rfl,rfl,s15,s18,s21⟩:=h7;refine .gn 4 ?_;refine .alloc .ro ty35 rfl (fun b22 hb22=>?_);refine .alloc .ro ty105 rfl (fun b23 hb23=>?_);refine .store 1 [_] [_,_,_,_] .ro rfl rfl rfl ty35 rfl rfl rfl rfl (.store 0 [_,_,_,_,_,_,_,_] [_,_,_,_] .ro rfl rfl rfl ty105 rfl rfl rfl rfl (.go 8 ?_));refine .cH r6 (fun c24 r25=>?_) (fun c24 r26=>?_);cases r25;refine .go 6 ?_;refine .kI (fun y=>∃(Z0:Bg)(Z1:_)(Z2:Nat),y=⟨[],G9::Fs,[(b3, .cells #[.int .i64 x0_0, .int .i64 x0_1, .int .i64 x0_2, .int .i64 x0_3, .slice a0_4 x0_4.length k0_4, .slice a0_5 x0_5.length k0_5, .slice a0_6 x0_6.length k0_6, .slice Z1 Z0.length Z2, .slice a0_8 x0_8.length k0_8, .int .i64 x0_9, .int .i64 x0_10, .slice a0_11 x0_11.length k0_11, .slice a0_12 x0_12.length k0_12, .slice a0_13 x0_13.length k0_13, .slice a0_14 x0_14.length k0_14, .slice a0_15 x0_15.length k0_15] 46 (0,0))],[]⟩∧SlR (Rep.pair ri (Rep.pair ri (Rep.pair ri (Rep.pair ri (Rep.pair ri (Rep.pair (Rep.sl ri) (Rep.pair (Rep.sl ri) ri))))))) G9 Z1 Z2 Z0∧(X3m x0_0 x0_1 x0_2 x0_3 x0_4 x0_5 x0_9 x0_10 x0_11 x0_12 x0_13 x0_14 x0_15 u5.2.1.1 u5.2.1.2.1 u5.2.1.2.2.1 u5.2.1.2.2.2.1 u5.2.1.2.2.2.2.1 u5.2.1.2.2.2.2.2.1 u5.2.1.2.2.2.2.2.2.1 u5.2.1.2.2.2.2.2.2.2 x0_6 x0_8) Z0=some r) [(3,_),(6,_),(9,_)] [_,_,_] [0,1,2] [_,_] [0,1] ?_ ?_;rintro _ ⟨v31,a32,k33,rfl,s34,r36⟩;refine .gn 0 ?_;unfold X3m at r36;try dsimp only at r36
 refine .go 2 ?_;refine .q .ro (.load_own_a 0 [_,_,_,_,_,_,_,_,_,_,_,_,_,_,_,_] rfl rfl ty46 rfl) rfl (.q .ro (.load_own_a 1 [_,_,_,_,_,_,_,_] rfl rfl ty105 rfl) rfl ?_);obtain⟨u61,hu61,r62⟩:=X0 r36;refine .pullS 1 rfl [_,_] rfl (.pullS 1 rfl [_,_] rfl ?_);refine .callW (b1:=[]) (b2:=[_,_,_,_]) (s1:=[_,_]) [_,_] [] .ro rfl rfl Tryz.call83 rfl rfl (Xfl mcs (SlR.mono e10 s0_4) (SlR.mono e10 s0_5) (OL.mono e10 oo0_6) s34 (OL.mono e10 oo0_8) (SlR.mono e10 s0_11) (SlR.mono e10 s0_12) (SlR.mono e10 s0_13) (SlR.mono e10 s0_14) (SlR.mono e10 s0_15) s18 s21 hu61) rfl B11 (fun v64 bo so G65 e66 B67 h63=>?_);obtain⟨a69,k70,a72,k73,a80,k81,a88,k89,a91,k92,a94,k95,a97,k98,a27,k28,cs78,cs86,rfl,rfl,rfl,s71,s74,s82,s90,s93,s96,s99,s29,o79,o87⟩:=h63;refine .gn 2 ?_;refine .store 3 [_,_,_,_,_,_,_,_,_,_,_,_,_,_,_,_] [_,_,_,_] .ro rfl rfl rfl ty46 rfl rfl rfl rfl (.go 2 ?_);cases r62;refine .retWD 4 (.inr ⟨_,rfl⟩) [.cell 6 46, .tmp 7] [_,_] rfl Tryz.func39 Tryz.results39 ⟨RV.cell_a 3 [_,_,_,_,_,_,_,_,_,_,_,_,_,_,_,_] rfl rfl ty46 rfl,RV.tmp rfl,trivial⟩ mcm mcs B67 (by subst hS0;exact hS2 (hS_s 0 rfl) (hS_s 1 rfl)) (fun G' hg=>⟨a69,k70,a72,k73,a80,k81,a88,k89,a91,k92,a94,k95,a97,k98,a27,k28,cs78,cs86,rfl,rfl,rfl,(SlR.mono hg s71),(SlR.mono hg s74),(SlR.mono hg s82),(SlR.mono hg s90),(SlR.mono hg s93),(SlR.mono hg s96),(SlR.mono hg s99),(SlR.mono hg s29),(OL.mono hg o79),(OL.mono hg o87)⟩);intro hb30;refine .cB r26 (fun c37 r38=>?_) (fun c37 r41=>?_);refine .go 1 ?_;refine .q .ro (.load_own_a 1 [_] rfl rfl ty35 rfl) rfl (.go 1 ?_);refine .store 3 [_,_,_,_,_,_,_,_,_,_,_,_,_,_,_,_] [_,_,_,_] .ro rfl rfl rfl ty35 rfl rfl rfl rfl (.go 1 ?_);refine .pull 2 rfl [_,_,_,_] rfl (.pull 2 rfl [_,_,_,_] rfl (.pull 2 rfl [_,_,_,_] rfl (.pull 3 rfl [_,_,_,_] rfl ?_)));exact(hb30 _ ⟨u5.1,a13,k14,rfl,s15,r38⟩).ar;cases r41
theorem Xd6{x0_0:Int}{x1:Ab}{x2:Ah}{x3:Int}{r:Ag}(hG:G∈Fs)(s1:SlR ri G a1 k1 x1)(s2:SlR (Rep.sl ri) G a2 k2 x2)(h:X80 x0_0 x1 x2 x3=some r):RetS Tryz.prog 188 #[.agg #[.int .i64 x0_0], .slice a1 x1.length k1, .slice a2 x2.length k2, .int .i64 x3] Fs [] [] (fun v bo so=>∃(oa0:Ax)(ok0:Nat)(oc0:Be),v= .tuple #[.slice oa0 r.1.length ok0, .int .i64 r.2]∧bo=[]∧so=[.s (.slice oa0 r.1.length ok0) 3 1 r.1.length oc0]∧OL ri G oc0 r.1):=by
 unfold X80 at h;try dsimp only at h
 refine RetS.st [(0,_),(1,_),(2,_),(3,_)] Tryz.func188 Tryz.ntmps188 hG fun w0 S0 hS0 B0=>?_;refine .go 2 ?_;refine .box [_] .ro rfl rfl rfl (fun b1 hb1=>?_);refine .go 6 ?_;refine .q .ro (.load_own_a 0 [_] rfl rfl ty49 rfl) rfl ?_;obtain⟨u2,hu2,r3⟩:=X0 h;refine .cV [_] Tryz.call122 (X22 mcs hu2) ?_;refine .go 7 ?_;refine .cH r3 (fun c6 r7=>?_) (fun c6 r8=>?_);cases r7;refine .go 7 ?_;refine .kR (fun y=>y=⟨[(30, .bool (decide ((x3<0)∨(64<x3))))],G::Fs,[],[]⟩) [(1,_),(2,_),(3,_),(4,_)] [_] [0] [] [] 3 ?_ ?_;rintro _ rfl;refine .gn 1 ?_;refine .cH r8 (fun c13 r14=>?_) (fun c13 r15=>?_);cases r14;refine .go 10 ?_;refine .cH r15 (fun c16 r17=>?_) (fun c16 r18=>?_);cases r17;refine .go 8 ?_;refine .kB (fun y=>∃(Z0:_),y=⟨[],G::Fs,[(b1, .cells #[.int .i64 Z0] 49 (0,0))],[]⟩∧(X1f x1 x2 x3) Z0=some r) [(1,_),(2,_),(3,_),(4,_)] [] [] [] [] ?_ ?_;rintro _ ⟨v59,rfl,r61⟩;refine .gn 0 ?_;unfold X1f at r61;try dsimp only at r61
 refine .go 3 ?_;refine .q .ro (.load_own_a 0 [_] rfl rfl ty49 rfl) rfl (.go 1 ?_);obtain⟨u65,hu65,r66⟩:=X0 r61;refine .cV [_,_] Tryz.call123 (X6t mcs s1 hu65) ?_;refine .go 2 ?_;refine .cB r66 (fun c69 r70=>?_) (fun c69 r71=>?_);cases r70;refine .go 8 ?_;refine .kB (fun y=>∃(Z0:_),y=⟨[],G::Fs,[(b1, .cells #[.int .i64 Z0] 49 (0,0))],[]⟩∧(X1d x1 x2 x3) Z0=some r) [(1,_),(2,_),(3,_),(4,_)] [] [] [] [] ?_ ?_;rintro _ ⟨v11,rfl,r12⟩;refine .gn 0 ?_;unfold X1d at r12;try dsimp only at r12
 refine .go 3 ?_;obtain⟨u19,hu19,r20⟩:=X0 r12;refine .makeR (G:=G) (Q:=ri) .ro sl41 ty3 rfl rfl rfl ((Rep.intI .i64 0) :) rfl rfl hu19 rfl rfl (fun b21 cs22 hb21 o23=>?_);refine .go 9 ?_;refine .block ?_;refine .lp (fun y m=>∃(Z0:Nat)(Z1:Ah)(Z2:Ab)(Z3:_)(Z4:Nat)(Z5 Z6:_),y=⟨[(15, .slice Z3 Z2.length Z4),(66, .int .i64 (Z0:Int))],[],[(b1, .cells #[.int .i64 Z6] 49 (0,0))],[.s (.slice Z3 Z2.length Z4) 3 1 Z2.length Z5]⟩∧Z1.length=m∧OL ri G Z5 Z2∧List.drop Z0 x2=Z1∧Xh x1 Z1 Z0 Z2 Z6=some r) [(1,_),(4,_),(64,_),(65,_)] [] [] ⟨0,x2,u19,(some ⟨b21,0,none⟩),u19.length,cs22,v11,rfl,rfl,o23,rfl,r20⟩ (fun y m hI hb24=>?_);obtain⟨i25,w26,v27,a28,k29,cs30,v31,rfl,rfl,o32,g33,r34⟩:=hI;refine .gn 0 ?_;rcases w26 with _ | ⟨x35,xs36⟩;rw[Xh] at r34;try dsimp only at r34
 refine .go 5 ?_;refine .cond_dec rfl (fun c=>absurd c (X14 g33)) (fun _=>?_);refine .exit rfl (.go 6 ?_);cases r34;refine .drop 1 0 [] _ rfl rfl ?_;refine .rS [.tmp 8, .tmp 9] [_,_] Tryz.func188 Tryz.results188 ⟨a28,k29,cs30,rfl,rfl,rfl,o32⟩;have r37:X3o x1 (Xh x1 xs36 (i25+1)) x35 i25 v27 v31=some r:=r34;clear r34;unfold X3o at r37;try dsimp only at r37
 refine .go 5 ?_;refine .cond_dec rfl (fun _=>?_) (fun c=>absurd (X24 g33) c);refine .go 2 ?_;refine .block (.go 3 ?_);obtain⟨c38,p39,h40⟩:=SlR.get s2 (X5 g33);obtain⟨a42,k43,rfl,s44⟩:=h40;refine .q .ro (.idxR s2 rfl rfl (X5 g33) sl50 ty41.sz) rfl (.q .ro (.load_rp p39 mcs rfl ty41 rfl) rfl (.go 9 ?_));refine .block ?_;refine .lp (fun y m=>∃(Z0:Nat)(Z1 Z2:Ab)(Z3:_)(Z4:Nat)(Z5:_),y=⟨[(15, .slice Z3 Z2.length Z4),(73, .int .i64 (Z0:Int))],[],[],[.s (.slice Z3 Z2.length Z4) 3 1 Z2.length Z5]⟩∧Z1.length=m∧OL ri G Z5 Z2∧List.drop Z0 x35=Z1∧Xw (Xh x1 xs36 (i25+1)) (i25:Int) x1 v31 Z1 Z0 Z2=some r) [(66,_),(1,_),(4,_),(64,_),(65,_),(16,_),(71,_),(72,_)] [_] [] ⟨0,x35,v27,a28,k29,cs30,rfl,rfl,o32,rfl,r37⟩ (fun y m hI hb45=>?_);obtain⟨i46,w47,v48,a51,k52,cs53,rfl,rfl,o54,g55,r56⟩:=hI;refine .gn 0 ?_;rcases w47 with _ | ⟨x57,xs58⟩;rw[Xw] at r56;try dsimp only at r56
 refine .go 5 ?_;refine .cond_dec rfl (fun c=>absurd c (X14 g55)) (fun _=>?_);refine .exit rfl (.go 5 ?_);exact(hb24 _ _ ⟨(i25+1),xs36,v48,a51,k52,cs53,v31,rfl,rfl,o54,(Xn g33),r56⟩ (Nat.lt_succ_self _)).ax ⟨rfl,(congrArg (fun z=>some (Value.int .i64 z)) (Xx (SlR.len s2) g33)),rfl,rfl,rfl,rfl,trivial⟩;have r60:X3n (Xh x1 xs36 (i25+1)) (i25:Int) x1 v31 (Xw (Xh x1 xs36 (i25+1)) (i25:Int) x1 v31 xs58 (i46+1)) x57 i46 v48=some r:=r56;clear r56;unfold X3n at r60;try dsimp only at r60
 refine .go 5 ?_;refine .cond_dec rfl (fun _=>?_) (fun c=>absurd (X24 g55) c);refine .go 2 ?_;refine .block (.go 3 ?_);obtain⟨c62,p63,h67⟩:=SlR.get s44 (X5 g55);obtain rfl:=h67;refine .q .ro (.idxR s44 rfl rfl (X5 g55) sl41 ty3.sz) rfl (.q .ro (.load_rp p63 mcs rfl ty3 rfl) rfl (.go 3 ?_));refine .drawL (.q 0 (.q 1 (.q 2 (.q 3 (.q 6 (.q 7 (.q 8 (.q 9 (.q 10 (.q 11 (.q 13 (.q 14 (.e 4 1 (.e 5 1 (.q 12 (.q 15 (.e 16 2 (.e 17 2 .nil)))))))))))))))))) [_] (by kernel_rfl) (by kernel_rfl) (X1 [0] rfl) (.go 6 ?_);obtain⟨u68,hu68,r72⟩:=X0 r60;obtain⟨c73,p74,h75⟩:=SlR.get s1 hu68;obtain rfl:=h75;refine .dq (.idxR s1 rfl rfl hu68 sl41 ty3.sz) rfl (.dq (.load_rp p74 mcs rfl ty3 rfl) rfl (.go 4 ?_));obtain⟨u76,hu76,r77⟩:=X0 r72;obtain⟨c78,p79,h80⟩:=OL.get o54 hu76;obtain rfl:=h80;refine .q .d1 (.idxO 0 rfl rfl rfl hu76 sl41 ty3.sz) rfl (.clsL (HpLe.refl _) (X1 [0] rfl) (.q .d1 (.loadO 0 0 rfl hu76 p79 rfl (.inl ⟨rfl,rfl⟩) ty3 rfl) rfl (.clsL (HpLe.refl _) (X1 [0] rfl) (.go 1 ?_))));obtain⟨u81,hu81,r82⟩:=X0 r77;refine .dq (.remt rfl rfl (X2p hu81)) rfl ?_;obtain⟨u83,hu83,r84⟩:=X0 r82;obtain⟨c85,p86,h87⟩:=OL.get o54 hu83;obtain rfl:=h87;refine .q .d2 (.idxO 0 rfl rfl rfl hu83 sl41 ty3.sz) rfl ?_;obtain⟨u88,hu88,r89⟩:=X0 r84;refine .storeR 0 0 (Q:=ri) .d2 rfl rfl o54 hu88 rfl (.inl ⟨rfl,rfl⟩) rfl ty3 p86 ((Rep.intI .i64 (Int.tmod (w64 (u76+(w64 (u68*x57)))) v31)) :) rfl rfl (fun cs90 hlcs90 o91=>?_);refine .reval 15 hlcs90 rfl (.reval 78 hlcs90 rfl (.reval 80 hlcs90 rfl (.go 6 ?_)));exact(hb45 _ _ ⟨(i46+1),xs58,u88,a51,k52,cs90,rfl,rfl,o91,(Xn g55),r89⟩ (Nat.lt_succ_self _)).ax ⟨rfl,(congrArg (fun z=>some (Value.int .i64 z)) (Xx (SlR.len s44) g55)),rfl,rfl,rfl,rfl,rfl,rfl,rfl,rfl,trivial⟩;intro hb92;refine .block ?_;refine .lp (fun y m=>∃(Z0:Nat)(Z1:Ah),y=⟨[(53, .int .i64 (Z0:Int))],[],[],[]⟩∧Z1.length=m∧List.drop Z0 x2=Z1∧X1e (X1d x1 x2 x3) v59 Z1=some r) [(1,_),(2,_),(3,_),(4,_),(51,_),(52,_)] [_] [] ⟨0,x2,rfl,rfl,rfl,r71⟩ (fun y m hI hb93=>?_);obtain⟨i94,w95,rfl,rfl,g96,r97⟩:=hI;refine .gn 0 ?_;rcases w95 with _ | ⟨x98,xs99⟩;rw[X1e] at r97;try dsimp only at r97
 refine .go 5 ?_;refine .cond_dec rfl (fun c=>absurd c (X14 g96)) (fun _=>?_);refine .exit rfl ?_;exact(hb92 _ ⟨(v59),rfl,r97⟩).ar;have r100:X3p (X1d x1 x2 x3) v59 (X1e (X1d x1 x2 x3) v59 xs99) x98=some r:=r97;clear r97;unfold X3p at r100;try dsimp only at r100
 refine .go 5 ?_;refine .cond_dec rfl (fun _=>?_) (fun c=>absurd (X24 g96) c);refine .go 2 ?_;refine .block (.go 2 ?_);obtain⟨c101,p102,h103⟩:=SlR.get s2 (X5 g96);obtain⟨a104,k105,rfl,s106⟩:=h103;refine .q .ro (.idxR s2 rfl rfl (X5 g96) sl50 ty41.sz) rfl (.q .ro (.load_rp p102 mcs rfl ty41 rfl) rfl (.go 4 ?_));refine .q .ro (.load_own_a 0 [_] rfl rfl ty49 rfl) rfl (.go 1 ?_);obtain⟨u107,hu107,r108⟩:=X0 r100;refine .cV [_,_] Tryz.call123 (X6t mcs s106 hu107) ?_;refine .go 2 ?_;refine .cB r108 (fun c109 r110=>?_) (fun c109 r111=>?_);cases r110;refine .go 6 ?_;exact(hb93 _ _ ⟨(i94+1),xs99,rfl,rfl,(Xn g96),r111⟩ (Nat.lt_succ_self _)).ax ⟨(congrArg (fun z=>some (Value.int .i64 z)) (Xx (SlR.len s2) g96)),rfl,rfl,rfl,rfl,rfl,rfl,trivial⟩;intro hb112;refine .block ?_;refine .lp (fun y m=>∃(Z0:Nat)(Z1:Ah),y=⟨[(38, .int .i64 (Z0:Int))],[],[],[]⟩∧Z1.length=m∧List.drop Z0 x2=Z1∧X1g (X1f x1 x2 x3) x3 x0_0 Z1=some r) [(1,_),(2,_),(3,_),(4,_),(36,_),(37,_)] [_] [] ⟨0,x2,rfl,rfl,rfl,r18⟩ (fun y m hI hb113=>?_);obtain⟨i114,w115,rfl,rfl,g116,r117⟩:=hI;refine .gn 0 ?_;rcases w115 with _ | ⟨x118,xs119⟩;rw[X1g] at r117;try dsimp only at r117
 refine .go 5 ?_;refine .cond_dec rfl (fun c=>absurd c (X14 g116)) (fun _=>?_);refine .exit rfl ?_;exact(hb112 _ ⟨(x0_0),rfl,r117⟩).ar;have r120:X3q (X1f x1 x2 x3) x3 x0_0 (X1g (X1f x1 x2 x3) x3 x0_0 xs119) x118=some r:=r117;clear r117;unfold X3q at r120;try dsimp only at r120
 refine .go 5 ?_;refine .cond_dec rfl (fun _=>?_) (fun c=>absurd (X24 g116) c);refine .go 2 ?_;refine .block (.go 2 ?_);obtain⟨c121,p122,h124⟩:=SlR.get s2 (X5 g116);obtain⟨a125,k126,rfl,s127⟩:=h124;refine .q .ro (.idxR s2 rfl rfl (X5 g116) sl50 ty41.sz) rfl (.q .ro (.load_rp p122 mcs rfl ty41 rfl) rfl (.go 9 ?_));refine .cH r120 (fun c128 r129=>?_) (fun c128 r130=>?_);cases r129;refine .go 6 ?_;exact(hb113 _ _ ⟨(i114+1),xs119,rfl,rfl,(Xn g116),r130⟩ (Nat.lt_succ_self _)).ax ⟨(congrArg (fun z=>some (Value.int .i64 z)) (Xx (SlR.len s2) g116)),rfl,rfl,rfl,rfl,rfl,rfl,trivial⟩;intro hb10;refine .split 27 rfl (fun c9=>?_) (fun c9=>?_);refine .go 3 ?_;exact(hb10 _ rfl).ax ⟨X6 c9,rfl,rfl,rfl,rfl,trivial⟩;refine .go 5 ?_;exact(hb10 _ rfl).ax ⟨X7 c9,rfl,rfl,rfl,rfl,trivial⟩
end Go.Proofs.YtnfalgmfmiolbaaGreat
end

section
set_option maxHeartbeats 4000000
set_option maxRecDepth 100000
namespace Go.Proofs.YtnfalgmfmiolbaaGreat
open Go.RowKit
set_option linter.unusedSimpArgs false
set_option linter.unusedVariables false
set_option synthInstance.maxSize 2000
set_option synthInstance.maxHeartbeats 400000
variable{Fs:Da}{G:Hp}{a2 a3 a0_6 a0_7 a0_4 a0_5 a0_8 a0_11 a0_12 a0_13 a0_14 a0_15 a1_2 a1_6:Ax}{k2 k3 k0_6 k0_7 k0_4 k0_5 k0_8 k0_11 k0_12 k0_13 k0_14 k0_15 k1_2 k1_6:Nat}{cc0_6 cc0_8:Be}
theorem Xdh{x0_0 x1:Int}{x2:Ah}{x3:Ab}{r:Ag}(hG:G∈Fs)(s2:SlR (Rep.sl ri) G a2 k2 x2)(s3:SlR ri G a3 k3 x3)(h:X94 x0_0 x1 x2 x3=some r):RetS Tryz.prog 168 #[.agg #[.int .i64 x0_0], .int .i64 x1, .slice a2 x2.length k2, .slice a3 x3.length k3] Fs [] [] (fun v bo so=>∃(oa0:Ax)(ok0:Nat)(oc0:Be),v= .tuple #[.slice oa0 r.1.length ok0, .int .i64 r.2]∧bo=[]∧so=[.s (.slice oa0 r.1.length ok0) 3 1 r.1.length oc0]∧OL ri G oc0 r.1):=by
 unfold X94 at h;try dsimp only at h
 refine RetS.st [(0,_),(1,_),(2,_),(3,_)] Tryz.func168 Tryz.ntmps168 hG fun w0 S0 hS0 B0=>?_;refine .go 2 ?_;refine .box [_] .ro rfl rfl rfl (fun b1 hb1=>?_);refine .go 5 ?_;refine .q .ro (.load_own_a 0 [_] rfl rfl ty49 rfl) rfl (.go 3 ?_);obtain⟨u2,hu2,r3⟩:=X0 h;refine .cS [_,_,_,_] Tryz.call188 (Xd6 mcs s3 s2 hu2) (fun v5 bo so h4=>?_);obtain⟨a7,k8,cs9,rfl,rfl,rfl,o10⟩:=h4;refine .gn 5 ?_;cases r3;refine .drop 1 0 [] _ rfl rfl ?_;refine .rS [.tmp 8, .tmp 9] [_,_] Tryz.func168 Tryz.results168 ⟨a7,k8,cs9,rfl,rfl,rfl,o10⟩
theorem Xdi{x0_0 x1:Int}{x2:Ah}{x3:Ab}{r:Ag}(hG:G∈Fs)(s2:SlR (Rep.sl ri) G a2 k2 x2)(s3:SlR ri G a3 k3 x3)(h:X7j x0_0 x1 x2 x3=some r):RetS Tryz.prog 135 #[.agg #[.int .i64 x0_0], .int .i64 x1, .slice a2 x2.length k2, .slice a3 x3.length k3] Fs [] [] (fun v bo so=>∃(oa0:Ax)(ok0:Nat)(oc0:Be),v= .tuple #[.slice oa0 r.1.length ok0, .int .i64 r.2]∧bo=[]∧so=[.s (.slice oa0 r.1.length ok0) 3 1 r.1.length oc0]∧OL ri G oc0 r.1):=by
 unfold X7j at h;try dsimp only at h
 refine RetS.st [(0,_),(1,_),(2,_),(3,_)] Tryz.func135 Tryz.ntmps135 hG fun w0 S0 hS0 B0=>?_;refine .go 2 ?_;refine .box [_] .ro rfl rfl rfl (fun b1 hb1=>?_);refine .go 5 ?_;refine .q .ro (.load_own_a 0 [_] rfl rfl ty49 rfl) rfl (.go 3 ?_);obtain⟨u2,hu2,r3⟩:=X0 h;refine .cS [_,_,_,_] Tryz.call168 (Xdh mcs s2 s3 hu2) (fun v5 bo so h4=>?_);obtain⟨a7,k8,cs9,rfl,rfl,rfl,o10⟩:=h4;refine .gn 5 ?_;cases r3;refine .drop 1 0 [] _ rfl rfl ?_;refine .rS [.tmp 8, .tmp 9] [_,_] Tryz.func135 Tryz.results135 ⟨a7,k8,cs9,rfl,rfl,rfl,o10⟩
theorem X7l{x0_0 x0_1 x0_2 x0_3 x0_4:Int}{x0_5:Bool}{x0_6:Bc}{x0_7:Ar}{x1_0 x1_1 x2:Int}{r:Eb}(hG:G∈Fs)(s0_6:SlR (Rep.pair (Rep.pair ri (Rep.pair ri (Rep.pair ri (Rep.pair ri ri)))) (Rep.sl (Rep.sl ri))) G a0_6 k0_6 x0_6)(s0_7:SlR (Rep.pair ri (Rep.pair ri (Rep.pair ri (Rep.pair (Rep.sl ri) (Rep.sl ri))))) G a0_7 k0_7 x0_7)(h:X5t (x0_0,(x0_1,x0_2,x0_3,x0_4),x0_5,x0_6,x0_7) (x1_0,x1_1) x2=some r):RetW Tryz.prog 84 #[.agg #[.int .i64 x0_0, .int .i64 x0_1, .int .i64 x0_2, .int .i64 x0_3, .int .i64 x0_4, .bool x0_5, .slice a0_6 x0_6.length k0_6, .slice a0_7 x0_7.length k0_7], .agg #[.int .i64 x1_0, .int .i64 x1_1], .int .i64 x2] Fs [] [] (fun v bo so G=>∃a0:Option Addr,∃k0:Nat,∃a1:Option Addr,∃k1:Nat,∃a2:Option Addr,∃k2:Nat,∃a3:Option Addr,∃k3:Nat,v= .tuple #[.agg #[.int .i64 r.1.1, .int .i64 r.1.2.1.1, .int .i64 r.1.2.1.2.1, .int .i64 r.1.2.1.2.2.1, .int .i64 r.1.2.1.2.2.2, .bool r.1.2.2.1, .slice a0 r.1.2.2.2.1.length k0, .slice a1 r.1.2.2.2.2.length k1], .agg #[.int .i64 r.2.1.1, .int .i64 r.2.1.2.1, .int .i64 r.2.1.2.2.1, .int .i64 r.2.1.2.2.2.1, .int .i64 r.2.1.2.2.2.2.1, .slice a2 r.2.1.2.2.2.2.2.1.length k2, .slice a3 r.2.1.2.2.2.2.2.2.1.length k3, .int .i64 r.2.1.2.2.2.2.2.2.2], .bool r.2.2.1, .int .i64 r.2.2.2]∧bo=[]∧so=[]∧SlR (Rep.pair (Rep.pair ri (Rep.pair ri (Rep.pair ri (Rep.pair ri ri)))) (Rep.sl (Rep.sl ri))) G a0 k0 r.1.2.2.2.1∧SlR (Rep.pair ri (Rep.pair ri (Rep.pair ri (Rep.pair (Rep.sl ri) (Rep.sl ri))))) G a1 k1 r.1.2.2.2.2∧SlR ri G a2 k2 r.2.1.2.2.2.2.2.1∧SlR ri G a3 k3 r.2.1.2.2.2.2.2.2.1):=by
 unfold X5t at h;try dsimp only at h
 refine RetW.st [(0,_),(1,_),(2,_)] Tryz.func84 Tryz.ntmps84 hG fun w0 S0 hS0 B0=>?_;refine .go 2 ?_;refine .box [_,_,_,_,_,_,_,_] .ro rfl rfl rfl (fun b1 hb1=>?_);refine .box [_,_] .ro rfl rfl rfl (fun b2 hb2=>?_);refine .alloc .ro ty116 rfl (fun b3 hb3=>?_);refine .alloc .ro ty105 rfl (fun b4 hb4=>?_);refine .go 10 ?_;refine .cB h (fun c5 r6=>?_) (fun c5 r7=>?_);cases r6;refine .go 9 ?_;refine .cH r7 (fun c8 r9=>?_) (fun c8 r10=>?_);cases r9;refine .go 5 ?_;obtain⟨u11,hu11,r12⟩:=X0 r10;obtain⟨c13,p14,h15⟩:=SlR.get s0_7 hu11;obtain⟨_,_,rfl,rfl,_,_,rfl,rfl,_,_,rfl,rfl,_,_,rfl,⟨a19,k20,rfl,s21⟩,a16,k17,rfl,s18⟩:=h15;refine .q .ro (.idxR s0_7 rfl rfl hu11 sl114 ty233.sz) rfl (.q .ro (.load_rp_a [_,_,_,_,_] p14 mcs rfl ty233 rfl) rfl ?_);refine .alloc .ro ty233 rfl (fun b22 hb22=>?_);refine .store 0 [_,_,_,_,_] [_,_,_,_,_] .ro rfl rfl rfl ty233 rfl rfl rfl rfl (.go 2 ?_);refine .kG (fun y=>∃(Z0:Nat)(Z1 Z2 Z3 Z4 Z5:_)(Z6:Ah)(Z7:_)(Z8:Nat),y=⟨[(11, .pointer (some ⟨Z0,0,none⟩))],G::Fs,[(Z0, .cells #[.int .i64 Z1, .int .i64 Z2, .int .i64 Z3, .int .i64 Z4, .int .i64 Z5, .slice Z7 Z6.length Z8] 191 (0,0))],[]⟩∧SlR (Rep.sl ri) G Z7 Z8 Z6∧(X82 x2 u11.1 u11.2.1 u11.2.2.1 u11.2.2.2.1 u11.2.2.2.2 x1_1 x0_0 x0_1 x0_2 x0_3 x0_4 x0_5 x0_6 x0_7) Z1 Z2 Z3 Z4 Z5 Z6=some r) [(2,_),(3,_),(4,_),(6,_),(7,_),(10,_)] [_,_,_,_,_] [0,1,2,3,4] [] [] ?_ ?_;rintro _ ⟨b24,v25,v26,v27,v28,v29,v31,a32,k33,rfl,s34,r35⟩;refine .gn 0 ?_;unfold X82 at r35;try dsimp only at r35
 refine .go 5 ?_;refine .q .ro (.build [_] [(0,_)] ty49 pl49 rfl rfl) rfl ?_;refine .alloc .ro ty49 rfl (fun b36 hb36=>?_);refine .store 0 [_] [_,_,_,_,_,_,_] .ro rfl rfl rfl ty49 rfl rfl rfl rfl (.go 3 ?_);refine .q .ro (.load_own_a 0 [_] rfl rfl ty49 rfl) rfl (.go 7 ?_);obtain⟨u37,hu37,r38⟩:=X0 r35;refine .cS [_,_,_,_] Tryz.call135 (Xdi mcs s34 s21 hu37) (fun v39 bo so h40=>?_);obtain⟨a42,k43,cs44,rfl,rfl,rfl,o45⟩:=h40;refine .gn 12 ?_;obtain⟨u46,hu46,r47⟩:=X0 r38;obtain⟨c48,p50,h51⟩:=OL.get o45 hu46;obtain rfl:=h51;refine .q .ro (.idxO 0 rfl rfl rfl hu46 sl41 ty3.sz) rfl (.q .ro (.loadO 0 0 rfl hu46 p50 rfl (.inl ⟨rfl,rfl⟩) ty3 rfl) rfl (.go 10 ?_));refine .kI (fun y=>∃(Z0:_),y=⟨[(15, .int .i64 Z0)],G::Fs,[],[]⟩∧(X3a v28 u11.1 u11.2.1 u11.2.2.1 u11.2.2.2.1 u11.2.2.2.2 x1_1 x0_0 x0_1 x0_2 x0_3 x0_4 x0_5 x0_6 x0_7) Z0=some r) [(11,_),(3,_),(4,_),(6,_),(7,_),(10,_)] [_,_,_,_,_,_,_] [0,1,2,3,4,5,6] [_] [0] ?_ ?_;rintro _ ⟨v52,rfl,r53⟩;refine .gn 0 ?_;unfold X3a at r53;try dsimp only at r53
 refine .go 9 ?_;refine .own_nil 3 1 ?_;obtain⟨u54,hu54,r55⟩:=X0 r53;refine .appR (Q:=ri) 0 .ro sl41 ty3 rfl rfl rfl rfl rfl (OL.nil (Rp':=ri)) rfl rfl s18 rfl mcs hu54 rfl (fun a56 k57 cs58 o59=>?_);refine .go 1 ?_;refine .lit [_] [(0,_)] .ro sl41 ty3 rfl rfl rfl rfl rfl rfl (fun b60 hb60=>?_);have o61:OL ri G [.int .i64 v52] ([v52]:List Int):=((OL.cons rfl (Rep.intI .i64 v52) (OL.nil (Rp':=ri))) :)
 refine .reval 90 (n':=([v52]:List Int).length) rfl rfl ?_;obtain⟨u62,hu62,r63⟩:=X0 r55;refine .appO (Q:=ri) 0 .ro sl41 ty3 rfl rfl rfl rfl rfl rfl o59 o61 rfl rfl rfl B0 hu62 rfl (fun a65 k66 cs67 o68=>?_);refine .go 16 ?_;refine .cH r63 (fun c69 r70=>?_) (fun c69 r71=>?_);refine .go 4 ?_;refine .store 2 [_,_,_,_,_] [_,_,_,_,_,_,_] .ro rfl rfl rfl ty41 rfl rfl rfl rfl (.go 2 ?_);refine .drawL (.q 0 (.q 1 (.q 4 (.q 5 (.q 6 (.e 2 1 (.e 3 1 (.e 7 1 (.q 8 .nil))))))))) [_,_,_,_,_,_,_] (by kernel_rfl) (by kernel_rfl) (X1 [0,1,2,3,4,5,6] rfl) (.go 1 ?_);refine .dq (.load_own_a 2 [_,_,_,_,_] rfl rfl ty233 rfl) rfl (.go 1 ?_);refine .dq (.load_own 6 rfl rfl ty114 rfl) rfl ?_;obtain⟨u72,hu72,r73⟩:=X0 r70;obtain⟨a74,k75,h76,s77⟩:=SlR.sub s0_7 hu72;refine .dq (.sliceR s0_7 rfl hu72 sl114 ty233.sz (fun h=> .yes' rfl h) (fun _=> .no) h76) rfl ?_;refine .freezeR 0 rfl rfl o68 [_] rfl B0 (fun G78 e79 B80 s81=>?_);refine .lit [_,_,_,_,_] [(0,_)] .d1 sl114 ty233 rfl rfl rfl rfl rfl rfl (fun b82 hb82=>?_);have o83:OL (Rep.pair ri (Rep.pair ri (Rep.pair ri (Rep.pair (Rep.sl ri) (Rep.sl ri))))) G78 [.int .i64 u11.1, .int .i64 u11.2.1, .int .i64 u11.2.2.1, .slice a19 u11.2.2.2.1.length k20, .slice a65 u62.length k66] ([(u11.1,u11.2.1,u11.2.2.1,u11.2.2.2.1,u62)]:List (Int×Int×Int×(List Int)×(List Int))):=((OL.cons rfl (Rep.pairI (Rep.intI .i64 u11.1) (Rep.pairI (Rep.intI .i64 u11.2.1) (Rep.pairI (Rep.intI .i64 u11.2.2.1) (Rep.pairI (Rep.slI (SlR.mono e79 s21)) (Rep.slI s81))))) (OL.nil (Rp':=(Rep.pair ri (Rep.pair ri (Rep.pair ri (Rep.pair (Rep.sl ri) (Rep.sl ri)))))))) :)
 refine .reval 102 (n':=([(u11.1,u11.2.1,u11.2.2.1,u11.2.2.2.1,u62)]:List (Int×Int×Int×(List Int)×(List Int))).length) rfl rfl (.clsL e79 (X1 [0,1,2,3,4,5,6] rfl) (.own_nil 233 5 ?_));obtain⟨u85,hu85,r86⟩:=X0 r73;refine .pullS 1 rfl [_,_,_] rfl ?_;refine .appO (Q:=(Rep.pair ri (Rep.pair ri (Rep.pair ri (Rep.pair (Rep.sl ri) (Rep.sl ri)))))) 0 .d1 sl114 ty233 rfl rfl rfl rfl rfl rfl (OL.nil (Rp':=(Rep.pair ri (Rep.pair ri (Rep.pair ri (Rep.pair (Rep.sl ri) (Rep.sl ri))))))) o83 rfl rfl rfl B80 hu85 rfl (fun a87 k88 cs89 o90=>?_);refine .clsL e79 (X1 [0,1,2,3,4,5,6] rfl) ?_;obtain⟨u91,hu91,r92⟩:=X0 r86;refine .appR (Q:=(Rep.pair ri (Rep.pair ri (Rep.pair ri (Rep.pair (Rep.sl ri) (Rep.sl ri)))))) 0 .d1 sl114 ty233 rfl rfl rfl rfl rfl o90 rfl rfl (SlR.mono e79 s77) rfl mcs hu91 rfl (fun a93 k94 cs95 o96=>?_);refine .clsL e79 (X1 [0,1,2,3,4,5,6] rfl) (.go 6 ?_);refine .store 6 [_,_,_,_,_,_,_,_] [_,_,_,_,_,_,_] .ro rfl rfl rfl ty114 rfl rfl rfl rfl (.go 3 ?_);refine .q .ro (.load_own_a 6 [_,_,_,_,_,_,_,_] rfl rfl ty116 rfl) rfl (.q .ro (.build [_,_,_,_,_,_,_,_] [] ty105 pl105 rfl rfl) rfl (.store 4 [_,_,_,_,_,_,_,_] [_,_,_,_,_,_,_] .ro rfl rfl rfl ty116 rfl rfl rfl rfl (.store 3 [_,_,_,_,_,_,_,_] [_,_,_,_,_,_,_] .ro rfl rfl rfl ty105 rfl rfl rfl rfl (.go 3 ?_))));refine .freezeR 0 rfl rfl o96 [_] rfl B80 (fun G97 e98 B99 s100=>?_);cases r92;refine .drop 0 1 _ [] rfl rfl ?_;refine .rW 7 [.cell 6 116, .cell 7 105, .tmp 8, .tmp 9] [_,_,_,_] Tryz.func84 Tryz.results84 ⟨RV.cell_a 4 [_,_,_,_,_,_,_,_] rfl rfl ty116 rfl,RV.cell_a 3 [_,_,_,_,_,_,_,_] rfl rfl ty105 rfl,RV.tmp rfl,RV.tmp rfl,trivial⟩ B99 hS0 (fun G' hg=>⟨a0_6,k0_6,a93,k94,none,0,none,0,rfl,rfl,rfl,(SlR.mono hg (SlR.mono (HpLe.trans e79 e98) s0_6)),(SlR.mono hg s100),(SlR.mono hg (SlR.nil (Rp':=ri))),(SlR.mono hg (SlR.nil (Rp':=ri)))⟩);refine .go 2 ?_;refine .kG (fun y=>∃(Z0:_)(Z1:Nat)(Z2 Z3 Z4 Z5 Z6:_)(Z7:Ab)(Z8:_)(Z9:Nat)(Z10:_)(Z11:Ab)(Z12:_)(Z13:Nat)(Z14:_),y=⟨[(18, .pointer (some ⟨Z1,0,none⟩))],Z0::Fs,[(Z1, .cells #[.int .i64 Z2, .int .i64 Z3, .int .i64 Z4, .int .i64 Z5, .int .i64 Z6, .slice Z8 Z7.length Z9, .slice Z12 Z11.length Z13, .int .i64 Z14] 105 (0,0))],[.s (.slice Z8 Z7.length Z9) 3 1 Z7.length Z10]⟩∧HpLe G Z0∧Bd w0 S0 Fs Z0∧OL ri Z0 Z10 Z7∧SlR ri Z0 Z12 Z13 Z11∧(X81 x1_1 x0_0 x0_1 x0_2 x0_3 x0_4 x0_5 x0_6 x0_7) Z2 Z3 Z4 Z5 Z6 Z7 Z11 Z14=some r) [(3,_),(4,_),(6,_),(7,_),(17,_)] [_,_,_,_,_,_,_] [0,1,2,3,4,5,6] [_] [1] ?_ ?_;rintro _ ⟨G101,b102,v103,v104,v106,v107,v108,v109,a110,k111,cs112,v115,a117,k118,v119,rfl,e120,B121,o122,s123,r124⟩;refine .gn 0 ?_;unfold X81 at r124;try dsimp only at r124
 refine .go 1 ?_;refine .drawL (.q 0 (.q 1 (.q 2 (.e 3 1 (.e 4 1 (.q 5 (.q 6 (.q 7 (.q 8 (.q 9 .nil)))))))))) [_,_,_,_,_,_,_,_] (by kernel_rfl) (by kernel_rfl) (X1 [0,1,2,3,4,5,6,7] rfl) (.go 1 ?_);refine .dq (.load_own 6 rfl rfl ty3 rfl) rfl (.dq (.load_own_a 0 [_,_,_,_,_,_,_,_] rfl rfl ty105 rfl) rfl ?_);refine .freezeR 0 rfl rfl o122 [_] rfl B121 (fun G126 e127 B128 s129=>?_);obtain⟨u130,hu130,r131⟩:=X0 r124;refine .cSd [_] Tryz.call137 (Xap mcs s129 (SlR.mono e127 s123) hu130) (fun v132 bo so h133=>?_);obtain⟨a134,k138,cs139,rfl,rfl,rfl,o140⟩:=h133;refine .gn 0 ?_;refine .clsL e127 (X1 [0,1,2,3,4,5,6,7] rfl) ?_;refine .freezeR 0 rfl rfl o140 [_] rfl B128 (fun G141 e142 B143 s144=>?_);obtain⟨u145,hu145,r146⟩:=X0 r131;refine .cVd [_,_] Tryz.call136 (Xc8 mcs s144 hu145) ?_;refine .clsL (HpLe.trans e127 e142) (X1 [0,1,2,3,4,5,6,7] rfl) (.go 12 ?_);refine .cH r146 (fun c147 r148=>?_) (fun c147 r149=>?_);cases r148;refine .go 5 ?_;refine .store 0 [_,_,_,_,_,_,_,_] [_,_,_,_,_,_,_,_] .ro rfl rfl rfl ty3 rfl rfl rfl rfl (.go 5 ?_);refine .q .ro (.load_own 7 rfl rfl ty114 rfl) rfl ?_;obtain⟨u150,hu150,r151⟩:=X0 r149;obtain⟨a152,k153,h154,s155⟩:=SlR.sub (SlR.mono (HpLe.trans (HpLe.trans e120 e127) e142) s0_7) hu150;refine .q .ro (.sliceR (SlR.mono (HpLe.trans (HpLe.trans e120 e127) e142) s0_7) rfl hu150 sl114 ty233.sz (fun h=> .yes' rfl h) (fun _=> .no) h154) rfl (.own_nil 233 5 ?_);obtain⟨u156,hu156,r157⟩:=X0 r151;refine .appR (Q:=(Rep.pair ri (Rep.pair ri (Rep.pair ri (Rep.pair (Rep.sl ri) (Rep.sl ri)))))) 0 .ro sl114 ty233 rfl rfl rfl rfl rfl (OL.nil (Rp':=(Rep.pair ri (Rep.pair ri (Rep.pair ri (Rep.pair (Rep.sl ri) (Rep.sl ri))))))) rfl rfl s155 rfl mcs hu156 rfl (fun a158 k159 cs160 o161=>?_);refine .go 1 ?_;refine .store 7 [_,_,_,_,_,_,_,_] [_,_,_,_,_,_,_,_] .ro rfl rfl rfl ty114 rfl rfl rfl rfl (.go 2 ?_);refine .drawL (.q 0 (.q 1 (.e 2 1 (.e 3 1 (.q 4 (.q 5 .nil)))))) [_,_,_,_,_,_] (by kernel_rfl) (by kernel_rfl) (X1 [0,1,2,3,6,7] rfl) (.dq (.load_own_a 5 [_,_,_,_,_,_,_,_] rfl rfl ty116 rfl) rfl (.dq (.load_own_a 0 [_,_,_,_,_,_,_,_] rfl rfl ty105 rfl) rfl (.store 5 [_,_,_,_,_,_,_,_] [_,_,_,_,_,_,_,_] .d1 rfl rfl rfl ty116 rfl rfl rfl rfl (.clsL (HpLe.refl _) (X1 [0,1,2,3,6,7] rfl) (.store 4 [_,_,_,_,_,_,_,_] [_,_,_,_,_,_,_,_] .d1 rfl rfl rfl ty105 rfl rfl rfl rfl (.clsL (HpLe.refl _) (X1 [0,1,2,3,6,7] rfl) (.go 3 ?_)))))));refine .freezeR 0 rfl rfl o161 [_] rfl B143 (fun G162 e163 B164 s165=>?_);cases r157;refine .drop 0 1 _ [] rfl rfl ?_
 refine .rW 8 [.cell 6 116, .cell 7 105, .tmp 8, .tmp 9] [_,_,_,_] Tryz.func84 Tryz.results84 ⟨RV.cell_a 5 [_,_,_,_,_,_,_,_] rfl rfl ty116 rfl,RV.cell_a 4 [_,_,_,_,_,_,_,_] rfl rfl ty105 rfl,RV.tmp rfl,RV.tmp rfl,trivial⟩ B164 hS0 (fun G' hg=>⟨a0_6,k0_6,a158,k159,a110,k111,a117,k118,rfl,rfl,rfl,(SlR.mono hg (SlR.mono (HpLe.trans (HpLe.trans (HpLe.trans e120 e127) e142) e163) s0_6)),(SlR.mono hg s165),(SlR.mono hg (SlR.mono (HpLe.trans e142 e163) s129)),(SlR.mono hg (SlR.mono (HpLe.trans (HpLe.trans e127 e142) e163) s123))⟩);intro hb166;refine .freezeR 0 rfl rfl o68 [_] rfl B0 (fun G167 e168 B169 s170=>?_);refine .drawL (.q 0 (.q 1 (.q 2 (.q 3 (.q 4 (.q 5 (.q 6 (.q 7 (.q 9 (.q 10 (.q 12 (.alt (.e 8 1 (.alt (.e 11 1 (.q 13 (.e 14 1 (.e 15 2 .nil)))) (.e 14 1 (.e 11 1 (.q 13 (.e 15 2 .nil)))))) (.e 14 1 (.e 8 1 (.e 11 1 (.q 13 (.e 15 2 .nil))))))))))))))))) [_,_,_,_,_,_,_] (by kernel_rfl) (by kernel_rfl) (X1 [0,1,2,3,4,5,6] rfl) ?_;obtain⟨u171,hu171,r172⟩:=X0 r71;refine .go 5 ?_;refine .dq (.load_own 6 rfl rfl ty3 rfl) rfl (.go 5 ?_);refine .alt ?_ ?_;refine .lit [] [] .d1 sl41 ty3 rfl rfl rfl rfl rfl rfl (fun b173 hb173=>?_);have o174:OL ri G167 [] ([]:List Int):=((OL.nil (Rp':=ri)) :)
 refine .reval 120 (n':=([]:List Int).length) rfl rfl (.clsL (HpLe.refl _) (X1 [0,1,2,3,4,5,6] rfl) ?_);refine .alt ?_ ?_;refine .appR (Q:=ri) 0 .d1 sl41 ty3 rfl rfl rfl rfl rfl o174 rfl rfl (SlR.mono e168 s21) rfl mcs hu171 rfl (fun a175 k176 cs177 o178=>?_);refine .clsL (HpLe.refl _) (X1 [0,1,2,3,4,5,6] rfl) (.dq (.build [_,_,_,_,_,_,_,_] [(0,_),(1,_),(2,_),(3,_),(4,_),(5,_),(6,_)] ty105 pl105 rfl rfl) rfl ?_);refine .alloc .d1 ty105 rfl (fun b179 hb179=>?_);refine .clsL (HpLe.refl _) (X1 [1,2,3,4,5,6,7] rfl) (.store 0 [_,_,_,_,_,_,_,_] [_,_,_,_,_,_,_,_] .d2 rfl rfl rfl ty105 rfl rfl rfl rfl (.go 1 ?_));exact(hb166 _ ⟨G167,b179,2,u11.1,u11.2.1,x0_0,u11.2.2.1,u171,a175,k176,cs177,u62,a65,k66,0,rfl,e168,B169,o178,s170,r172⟩).ar;refine .alloc .d1 ty105 rfl (fun b180 hb180=>?_);refine .clsL (HpLe.refl _) (X1 [1,2,3,4,5,6,7] rfl) ?_;refine .appR (Q:=ri) 0 .d1 sl41 ty3 rfl rfl rfl rfl rfl o174 rfl rfl (SlR.mono e168 s21) rfl mcs hu171 rfl (fun a181 k182 cs183 o184=>?_);refine .clsL (HpLe.refl _) (X1 [1,2,3,4,5,6,7] rfl) (.dq (.build [_,_,_,_,_,_,_,_] [(0,_),(1,_),(2,_),(3,_),(4,_),(5,_),(6,_)] ty105 pl105 rfl rfl) rfl (.store 0 [_,_,_,_,_,_,_,_] [_,_,_,_,_,_,_,_] .d2 rfl rfl rfl ty105 rfl rfl rfl rfl (.go 1 ?_)));exact(hb166 _ ⟨G167,b180,2,u11.1,u11.2.1,x0_0,u11.2.2.1,u171,a181,k182,cs183,u62,a65,k66,0,rfl,e168,B169,o184,s170,r172⟩).ar;refine .alloc .d1 ty105 rfl (fun b185 hb185=>?_);refine .clsL (HpLe.refl _) (X1 [1,2,3,4,5,6,7] rfl) ?_;refine .lit [] [] .d1 sl41 ty3 rfl rfl rfl rfl rfl rfl (fun b186 hb186=>?_);have o187:OL ri G167 [] ([]:List Int):=((OL.nil (Rp':=ri)) :)
 refine .reval 120 (n':=([]:List Int).length) rfl rfl (.clsL (HpLe.refl _) (X1 [1,2,3,4,5,6,7] rfl) ?_);refine .appR (Q:=ri) 0 .d1 sl41 ty3 rfl rfl rfl rfl rfl o187 rfl rfl (SlR.mono e168 s21) rfl mcs hu171 rfl (fun a188 k189 cs190 o192=>?_);refine .clsL (HpLe.refl _) (X1 [1,2,3,4,5,6,7] rfl) (.dq (.build [_,_,_,_,_,_,_,_] [(0,_),(1,_),(2,_),(3,_),(4,_),(5,_),(6,_)] ty105 pl105 rfl rfl) rfl (.store 0 [_,_,_,_,_,_,_,_] [_,_,_,_,_,_,_,_] .d2 rfl rfl rfl ty105 rfl rfl rfl rfl (.go 1 ?_)));exact(hb166 _ ⟨G167,b185,2,u11.1,u11.2.1,x0_0,u11.2.2.1,u171,a188,k189,cs190,u62,a65,k66,0,rfl,e168,B169,o192,s170,r172⟩).ar;intro hb193;refine .cH r47 (fun c194 r195=>?_) (fun c194 r196=>?_);refine .drawL (.q 0 (.q 1 (.q 2 (.q 3 (.q 4 (.q 5 (.q 6 (.q 7 (.q 8 (.q 9 (.q 10 (.q 11 (.q 12 (.q 13 (.q 14 (.q 15 .nil)))))))))))))))) [_,_,_,_,_,_,_] (by kernel_rfl) (by kernel_rfl) (X1 [0,1,2,3,4,5,6] rfl) ?_;refine .go 4 ?_;obtain⟨u197,hu197,r198⟩:=X0 r195;refine .dq (.remt rfl rfl (X2p hu197)) rfl (.go 5 ?_);obtain⟨u199,hu199,r200⟩:=X0 r198;refine .dq (.remt rfl rfl (X2p hu199)) rfl (.go 3 ?_);obtain⟨u201,hu201,r202⟩:=X0 r200;refine .dq (.remt rfl rfl (X2p hu201)) rfl (.go 2 ?_);exact(hb193 _ ⟨((Int.tmod (w64 (u46+(Int.tmod (w64 ((Int.tmod x2 v26)+v26)) v26))) v26)),rfl,r202⟩).ar;refine .go 1 ?_;exact(hb193 _ ⟨(u46),rfl,r196⟩).ar;intro hb203;refine .drawL (.q 0 (.q 1 (.q 2 (.q 3 (.q 4 (.alt (.e 5 1 (.q 6 (.q 7 (.e 8 1 (.e 9 2 .nil))))) (.e 8 1 (.e 5 1 (.q 6 (.q 7 (.e 9 2 .nil))))))))))) [_,_,_,_,_] (by kernel_rfl) (by kernel_rfl) (X1 [0,1,2,3,4] rfl) ?_;obtain⟨u204,hu204,r205⟩:=X0 r12;obtain⟨u206,hu206,r207⟩:=X0 r205;refine .go 2 ?_;refine .dq (.load_own_a 4 [_,_,_,_,_,_,_,_] rfl rfl ty116 rfl) rfl (.go 2 ?_);refine .alt ?_ ?_;refine .cVd [_,_] Tryz.call125 (X97 mcs s0_6 s0_7 hu204) ?_;refine .clsL (HpLe.refl _) (X1 [0,1,2,3,4] rfl) ?_;obtain⟨c208,p209,h210⟩:=SlR.get s0_6 hu206;obtain⟨_,_,rfl,⟨_,_,rfl,rfl,_,_,rfl,rfl,_,_,rfl,rfl,_,_,rfl,rfl,rfl⟩,a211,k212,rfl,s213⟩:=h210;refine .dq (.idxR s0_6 rfl rfl hu206 sl113 ty191.sz) rfl (.dq (.load_rp_a [_,_,_,_,_,_] p209 mcs rfl ty191 rfl) rfl ?_);refine .alloc .d1 ty191 rfl (fun b214 hb214=>?_);refine .clsL (HpLe.refl _) (X1 [1,2,3,4,5] rfl) (.store 0 [_,_,_,_,_,_] [_,_,_,_,_,_] .d2 rfl rfl rfl ty191 rfl rfl rfl rfl (.go 1 ?_));exact(hb203 _ ⟨b214,u206.1.1,u206.1.2.1,u206.1.2.2.1,u206.1.2.2.2.1,u206.1.2.2.2.2,u206.2,a211,k212,rfl,s213,r207⟩).ar;refine .alloc .d1 ty191 rfl (fun b215 hb215=>?_);refine .clsL (HpLe.refl _) (X1 [1,2,3,4,5] rfl) (.cVd [_,_] Tryz.call125 (X97 mcs s0_6 s0_7 hu204) ?_);refine .clsL (HpLe.refl _) (X1 [1,2,3,4,5] rfl) ?_;obtain⟨c216,p217,h218⟩:=SlR.get s0_6 hu206
 obtain⟨_,_,rfl,⟨_,_,rfl,rfl,_,_,rfl,rfl,_,_,rfl,rfl,_,_,rfl,rfl,rfl⟩,a219,k220,rfl,s221⟩:=h218;refine .dq (.idxR s0_6 rfl rfl hu206 sl113 ty191.sz) rfl (.dq (.load_rp_a [_,_,_,_,_,_] p217 mcs rfl ty191 rfl) rfl (.store 0 [_,_,_,_,_,_] [_,_,_,_,_,_] .d2 rfl rfl rfl ty191 rfl rfl rfl rfl (.go 1 ?_)));exact(hb203 _ ⟨b215,u206.1.1,u206.1.2.1,u206.1.2.2.1,u206.1.2.2.2.1,u206.1.2.2.2.2,u206.2,a219,k220,rfl,s221,r207⟩).ar
theorem Xfm{x0_0 x0_1 x0_2 x0_3:Int}{x0_4:An}{x0_5:Bp}{x0_6:Bq}{x0_7:Bg}{x0_8:Bx}{x0_9 x0_10:Int}{x0_11:Bj}{x0_12:An}{x0_13 x0_14:Ab}{x0_15:Aj}{x1:Int}{r:Cv}(hG:G∈Fs)(s0_4:SlR (Rep.pair ri ri) G a0_4 k0_4 x0_4)(s0_5:SlR (Rep.pair ri (Rep.pair ri (Rep.pair ri (Rep.sl (Rep.sl ri))))) G a0_5 k0_5 x0_5)(oo0_6:OL (Rep.pair ri (Rep.pair (Rep.pair ri (Rep.pair ri (Rep.pair ri ri))) (Rep.pair Rep.bool (Rep.pair (Rep.sl (Rep.pair (Rep.pair ri (Rep.pair ri (Rep.pair ri (Rep.pair ri ri)))) (Rep.sl (Rep.sl ri)))) (Rep.sl (Rep.pair ri (Rep.pair ri (Rep.pair ri (Rep.pair (Rep.sl ri) (Rep.sl ri)))))))))) G cc0_6 x0_6)(s0_7:SlR (Rep.pair ri (Rep.pair ri (Rep.pair ri (Rep.pair ri (Rep.pair ri (Rep.pair (Rep.sl ri) (Rep.pair (Rep.sl ri) ri))))))) G a0_7 k0_7 x0_7)(oo0_8:OL (Rep.pair ri (Rep.pair (Rep.pair ri (Rep.pair ri (Rep.pair ri ri))) (Rep.pair (Rep.pair ri (Rep.pair ri (Rep.pair ri (Rep.pair ri ri)))) (Rep.pair (Rep.sl ri) (Rep.pair (Rep.sl (Rep.sl (Rep.sl ri))) (Rep.pair (Rep.sl (Rep.sl (Rep.pair Rep.bool (Rep.sl ri)))) (Rep.pair (Rep.sl (Rep.sl ri)) Rep.bool))))))) G cc0_8 x0_8)(s0_11:SlR (Rep.pair ri (Rep.pair ri (Rep.pair ri (Rep.pair ri ri)))) G a0_11 k0_11 x0_11)(s0_12:SlR (Rep.pair ri ri) G a0_12 k0_12 x0_12)(s0_13:SlR ri G a0_13 k0_13 x0_13)(s0_14:SlR ri G a0_14 k0_14 x0_14)(s0_15:SlR (Rep.pair ri (Rep.pair ri (Rep.pair (Rep.sl (Rep.pair ri (Rep.pair (Rep.sl ri) (Rep.sl ri)))) (Rep.sl (Rep.pair ri (Rep.pair ri (Rep.pair ri (Rep.pair ri (Rep.pair ri (Rep.pair (Rep.sl ri) (Rep.pair (Rep.sl ri) ri))))))))))) G a0_15 k0_15 x0_15)(h:X88 ((x0_0,x0_1,x0_2,x0_3),x0_4,x0_5,x0_6,x0_7,x0_8,(x0_9,x0_10,x0_11),(x0_12,x0_13),x0_14,x0_15) x1=some r):RetW Tryz.prog 41 #[.agg #[.int .i64 x0_0, .int .i64 x0_1, .int .i64 x0_2, .int .i64 x0_3, .slice a0_4 x0_4.length k0_4, .slice a0_5 x0_5.length k0_5, .slice a0_6 x0_6.length k0_6, .slice a0_7 x0_7.length k0_7, .slice a0_8 x0_8.length k0_8, .int .i64 x0_9, .int .i64 x0_10, .slice a0_11 x0_11.length k0_11, .slice a0_12 x0_12.length k0_12, .slice a0_13 x0_13.length k0_13, .slice a0_14 x0_14.length k0_14, .slice a0_15 x0_15.length k0_15], .int .i64 x1] Fs [] [.s (.slice a0_6 x0_6.length k0_6) 116 8 x0_6.length cc0_6, .s (.slice a0_8 x0_8.length k0_8) 162 15 x0_8.length cc0_8] (fun v bo so G=>∃a0:Option Addr,∃k0:Nat,∃a1:Option Addr,∃k1:Nat,∃a2:Option Addr,∃k2:Nat,∃a3:Option Addr,∃k3:Nat,∃a4:Option Addr,∃k4:Nat,∃a5:Option Addr,∃k5:Nat,∃a6:Option Addr,∃k6:Nat,∃a7:Option Addr,∃k7:Nat,∃oc0:List Value,∃oc1:List Value,v= .tuple #[.agg #[.int .i64 r.1.1.1, .int .i64 r.1.1.2.1, .int .i64 r.1.1.2.2.1, .int .i64 r.1.1.2.2.2, .slice a0 r.1.2.1.length k0, .slice a1 r.1.2.2.1.length k1, .slice a0_6 r.1.2.2.2.1.length k0_6, .slice a2 r.1.2.2.2.2.1.length k2, .slice a0_8 r.1.2.2.2.2.2.1.length k0_8, .int .i64 r.1.2.2.2.2.2.2.1.1, .int .i64 r.1.2.2.2.2.2.2.1.2.1, .slice a3 r.1.2.2.2.2.2.2.1.2.2.length k3, .slice a4 r.1.2.2.2.2.2.2.2.1.1.length k4, .slice a5 r.1.2.2.2.2.2.2.2.1.2.length k5, .slice a6 r.1.2.2.2.2.2.2.2.2.1.length k6, .slice a7 r.1.2.2.2.2.2.2.2.2.2.length k7], .int .i64 r.2]∧bo=[]∧so=[.s (.slice a0_6 r.1.2.2.2.1.length k0_6) 116 8 r.1.2.2.2.1.length oc0, .s (.slice a0_8 r.1.2.2.2.2.2.1.length k0_8) 162 15 r.1.2.2.2.2.2.1.length oc1]∧SlR (Rep.pair ri ri) G a0 k0 r.1.2.1∧SlR (Rep.pair ri (Rep.pair ri (Rep.pair ri (Rep.sl (Rep.sl ri))))) G a1 k1 r.1.2.2.1∧SlR (Rep.pair ri (Rep.pair ri (Rep.pair ri (Rep.pair ri (Rep.pair ri (Rep.pair (Rep.sl ri) (Rep.pair (Rep.sl ri) ri))))))) G a2 k2 r.1.2.2.2.2.1∧SlR (Rep.pair ri (Rep.pair ri (Rep.pair ri (Rep.pair ri ri)))) G a3 k3 r.1.2.2.2.2.2.2.1.2.2∧SlR (Rep.pair ri ri) G a4 k4 r.1.2.2.2.2.2.2.2.1.1∧SlR ri G a5 k5 r.1.2.2.2.2.2.2.2.1.2∧SlR ri G a6 k6 r.1.2.2.2.2.2.2.2.2.1∧SlR (Rep.pair ri (Rep.pair ri (Rep.pair (Rep.sl (Rep.pair ri (Rep.pair (Rep.sl ri) (Rep.sl ri)))) (Rep.sl (Rep.pair ri (Rep.pair ri (Rep.pair ri (Rep.pair ri (Rep.pair ri (Rep.pair (Rep.sl ri) (Rep.pair (Rep.sl ri) ri))))))))))) G a7 k7 r.1.2.2.2.2.2.2.2.2.2∧OL (Rep.pair ri (Rep.pair (Rep.pair ri (Rep.pair ri (Rep.pair ri ri))) (Rep.pair Rep.bool (Rep.pair (Rep.sl (Rep.pair (Rep.pair ri (Rep.pair ri (Rep.pair ri (Rep.pair ri ri)))) (Rep.sl (Rep.sl ri)))) (Rep.sl (Rep.pair ri (Rep.pair ri (Rep.pair ri (Rep.pair (Rep.sl ri) (Rep.sl ri)))))))))) G oc0 r.1.2.2.2.1∧OL (Rep.pair ri (Rep.pair (Rep.pair ri (Rep.pair ri (Rep.pair ri ri))) (Rep.pair (Rep.pair ri (Rep.pair ri (Rep.pair ri (Rep.pair ri ri)))) (Rep.pair (Rep.sl ri) (Rep.pair (Rep.sl (Rep.sl (Rep.sl ri))) (Rep.pair (Rep.sl (Rep.sl (Rep.pair Rep.bool (Rep.sl ri)))) (Rep.pair (Rep.sl (Rep.sl ri)) Rep.bool))))))) G oc1 r.1.2.2.2.2.2.1):=by
 unfold X88 at h;try dsimp only at h
 refine RetW.st [(0,_),(1,_)] Tryz.func41 Tryz.ntmps41 hG fun w0 S0 hS0 B0=>?_;refine .go 2 ?_;refine .box [_,_,_,_,_,_,_,_,_,_,_,_,_,_,_,_] .ro rfl rfl rfl (fun b3 hb3=>?_);refine .alloc .ro ty46 rfl (fun b4 hb4=>?_);refine .go 4 ?_;refine .q .ro (.load_own_a 1 [_,_,_,_,_,_,_,_,_,_,_,_,_,_,_,_] rfl rfl ty46 rfl) rfl (.go 1 ?_);obtain⟨u5,hu5,r6⟩:=X0 h;refine .pullS 1 rfl [_,_] rfl (.pullS 1 rfl [_,_] rfl ?_);refine .callB (Q:=fun v bo so=>v= .int .i64 u5∧bo=[]∧so=[]) (b1:=[]) (b2:=[_,_]) (s1:=[]) (sB:=[_,_]) (s2:=[]) [_,_] [] .ro rfl rfl Tryz.call42 rfl rfl (fun Fs' G' hle hB hm=>(Xba (G:=G') hm (SlR.mono hle s0_4) (SlR.mono hle s0_5) (SlR.rd oo0_6 rfl hle (hB _ (List.mem_of_getElem? (i:=0) rfl))) (SlR.mono hle s0_7) (SlR.rd oo0_8 rfl hle (hB _ (List.mem_of_getElem? (i:=1) rfl))) (SlR.mono hle s0_11) (SlR.mono hle s0_12) (SlR.mono hle s0_13) (SlR.mono hle s0_14) (SlR.mono hle s0_15) hu5)) rfl (fun v8 bo so h7=>?_);obtain⟨rfl,rfl,rfl⟩:=h7;refine .gn 8 ?_;refine .cH r6 (fun c9 r10=>?_) (fun c9 r11=>?_);cases r10;refine .go 6 ?_;obtain⟨u12,hu12,r13⟩:=X0 r11;refine .cV [_,_] Tryz.call70 (Xan mcs s0_4 hu12) ?_;refine .go 3 ?_;refine .alloc .ro ty136 rfl (fun b16 hb16=>?_);refine .store 0 [_,_] [_,_,_] .ro rfl rfl rfl ty136 rfl rfl rfl rfl (.go 3 ?_);refine .kG (fun y=>∃(Z0:_)(Z1:Nat)(Z2 Z3 Z4 Z5 Z6 Z7:_)(Z8:Bc)(Z9:_)(Z10:Nat)(Z11:Ar)(Z12:_)(Z13 Z14:Nat)(Z15 Z16 Z17 Z18 Z19:_)(Z20:Ab)(Z21:_)(Z22:Nat)(Z23:Ab)(Z24:_)(Z25:Nat)(Z26 Z27 Z28:_),y=⟨[(9, .pointer (some ⟨Z1,0,none⟩)),(10, .pointer (some ⟨Z14,0,none⟩)),(11, .bool Z27),(12, .int .i64 Z28)],Z0::Fs,[(Z1, .cells #[.int .i64 Z2, .int .i64 Z3, .int .i64 Z4, .int .i64 Z5, .int .i64 Z6, .bool Z7, .slice Z9 Z8.length Z10, .slice Z12 Z11.length Z13] 116 (0,0)),(Z14, .cells #[.int .i64 Z15, .int .i64 Z16, .int .i64 Z17, .int .i64 Z18, .int .i64 Z19, .slice Z21 Z20.length Z22, .slice Z24 Z23.length Z25, .int .i64 Z26] 105 (0,0))],[]⟩∧HpLe G Z0∧Bd w0 S0 Fs Z0∧SlR (Rep.pair (Rep.pair ri (Rep.pair ri (Rep.pair ri (Rep.pair ri ri)))) (Rep.sl (Rep.sl ri))) Z0 Z9 Z10 Z8∧SlR (Rep.pair ri (Rep.pair ri (Rep.pair ri (Rep.pair (Rep.sl ri) (Rep.sl ri))))) Z0 Z12 Z13 Z11∧SlR ri Z0 Z21 Z22 Z20∧SlR ri Z0 Z24 Z25 Z23∧(X4r u5 x0_0 x0_1 x0_2 x0_3 x0_4 x0_5 x0_7 x0_9 x0_10 x0_11 x0_12 x0_13 x0_14 x0_15 x0_6 x0_8) Z2 Z3 Z4 Z5 Z6 Z7 Z8 Z11 Z15 Z16 Z17 Z18 Z19 Z20 Z23 Z26 Z27 Z28=some r) [(2,_),(4,_),(6,_)] [_,_,_] [0,1,2] [_,_] [0,1] ?_ ?_;rintro _ ⟨G29,b34,v36,v37,v38,v39,v43,v44,v45,a47,k48,v49,a50,k51,b52,v53,v54,v55,v56,v57,v58,a59,k60,v61,a62,k63,v65,v66,v67,rfl,e68,B69,s71,s72,s73,s74,r75⟩;refine .gn 0 ?_;unfold X4r at r75;try dsimp only at r75
 refine .go 6 ?_;refine .cH r75 (fun c76 r77=>?_) (fun c76 r78=>?_);cases r77;refine .go 6 ?_;refine .kI (fun y=>∃(Z0:_)(Z1:Bg)(Z2:_)(Z3:Nat),y=⟨[],Z0::Fs,[(b3, .cells #[.int .i64 x0_0, .int .i64 x0_1, .int .i64 x0_2, .int .i64 x0_3, .slice a0_4 x0_4.length k0_4, .slice a0_5 x0_5.length k0_5, .slice a0_6 x0_6.length k0_6, .slice Z2 Z1.length Z3, .slice a0_8 x0_8.length k0_8, .int .i64 x0_9, .int .i64 x0_10, .slice a0_11 x0_11.length k0_11, .slice a0_12 x0_12.length k0_12, .slice a0_13 x0_13.length k0_13, .slice a0_14 x0_14.length k0_14, .slice a0_15 x0_15.length k0_15] 46 (0,0))],[]⟩∧HpLe G29 Z0∧Bd w0 S0 Fs Z0∧SlR (Rep.pair ri (Rep.pair ri (Rep.pair ri (Rep.pair ri (Rep.pair ri (Rep.pair (Rep.sl ri) (Rep.pair (Rep.sl ri) ri))))))) Z0 Z2 Z3 Z1∧(X4q u5 x0_0 x0_1 x0_2 x0_3 x0_4 x0_5 x0_9 x0_10 x0_11 x0_12 x0_13 x0_14 x0_15 v36 v37 v38 v39 v43 v44 v45 v49 x0_6 x0_8) Z1=some r) [(9,_),(2,_),(4,_),(6,_)] [_,_,_,_] [0,1,2,3] [_,_] [0,1] ?_ ?_;rintro _ ⟨G79,v80,a82,k83,rfl,e85,B86,s87,r88⟩;refine .gn 0 ?_;unfold X4q at r88;try dsimp only at r88
 refine .go 5 ?_;refine .q .ro (.load_own_a 1 [_,_,_,_,_,_,_,_] rfl rfl ty116 rfl) rfl ?_;obtain⟨u89,hu89,r90⟩:=X0 r88;obtain⟨c91,p92,h93⟩:=OL.get (OL.mono (HpLe.trans e68 e85) oo0_6) hu89;obtain⟨_,_,rfl,rfl,_,_,rfl,⟨_,_,rfl,rfl,_,_,rfl,rfl,_,_,rfl,rfl,rfl⟩,_,_,rfl,rfl,_,_,rfl,⟨a94,k95,rfl,s96⟩,a97,k98,rfl,s99⟩:=h93;refine .q .ro (.idxO 0 rfl rfl rfl hu89 sl32 ty116.sz) rfl ?_;obtain⟨u100,hu100,r101⟩:=X0 r90;refine .storeR 0 0 (Q:=(Rep.pair ri (Rep.pair (Rep.pair ri (Rep.pair ri (Rep.pair ri ri))) (Rep.pair Rep.bool (Rep.pair (Rep.sl (Rep.pair (Rep.pair ri (Rep.pair ri (Rep.pair ri (Rep.pair ri ri)))) (Rep.sl (Rep.sl ri)))) (Rep.sl (Rep.pair ri (Rep.pair ri (Rep.pair ri (Rep.pair (Rep.sl ri) (Rep.sl ri))))))))))) .ro rfl rfl (OL.mono (HpLe.trans e68 e85) oo0_6) hu100 rfl (.inl ⟨rfl,rfl⟩) rfl ty116 p92 ((Rep.pairI (Rep.intI .i64 v36) (Rep.pairI (Rep.pairI (Rep.intI .i64 v37) (Rep.pairI (Rep.intI .i64 v38) (Rep.pairI (Rep.intI .i64 v39) (Rep.intI .i64 v43)))) (Rep.pairI (Rep.boolI v44) (Rep.pairI (Rep.slI (SlR.mono e85 s71)) (Rep.slI (SlR.mono e85 s72)))))) :) rfl rfl (fun cs102 hlcs102 o103=>?_);refine .reval 65 hlcs102 rfl (.recell 0 [_,_,_,_,_,_, .slice a0_6 u100.length k0_6,_,_,_,_,_,_,_,_,_] rfl (by rw[hlcs102]<;>rfl) [_,_,_,_,_] rfl (.go 3 ?_));refine .q .ro (.load_own_a 0 [_,_,_,_,_,_,_,_,_,_,_,_,_,_,_,_] rfl rfl ty46 rfl) rfl (.store 4 [_,_,_,_,_,_,_,_,_,_,_,_,_,_,_,_] [_,_,_,_,_] .ro rfl rfl rfl ty46 rfl rfl rfl rfl (.go 2 ?_));cases r101;refine .retWD 5 (.inr ⟨_,rfl⟩) [.cell 4 46, .tmp 5] [_,_] rfl Tryz.func41 Tryz.results41 ⟨RV.cell_a 4 [_,_,_,_,_,_,_,_,_,_,_,_,_,_,_,_] rfl rfl ty46 rfl,RV.tmp rfl,trivial⟩ mcm mcs B86 (by subst hS0;exact hS2 (hS_s 0 rfl) (hS_s 1 rfl)) (fun G' hg=>⟨a0_4,k0_4,a0_5,k0_5,a82,k83,a0_11,k0_11,a0_12,k0_12,a0_13,k0_13,a0_14,k0_14,a0_15,k0_15,cs102,cc0_8,rfl,rfl,rfl,(SlR.mono hg (SlR.mono (HpLe.trans e68 e85) s0_4)),(SlR.mono hg (SlR.mono (HpLe.trans e68 e85) s0_5)),(SlR.mono hg s87),(SlR.mono hg (SlR.mono (HpLe.trans e68 e85) s0_11)),(SlR.mono hg (SlR.mono (HpLe.trans e68 e85) s0_12)),(SlR.mono hg (SlR.mono (HpLe.trans e68 e85) s0_13)),(SlR.mono hg (SlR.mono (HpLe.trans e68 e85) s0_14)),(SlR.mono hg (SlR.mono (HpLe.trans e68 e85) s0_15)),(OL.mono hg o103),(OL.mono hg (OL.mono (HpLe.trans e68 e85) oo0_8))⟩);intro hb104;refine .cB r78 (fun c106 r107=>?_) (fun c106 r108=>?_);refine .go 3 ?_;refine .q .ro (.load_own_a 4 [_] rfl rfl ty35 rfl) rfl (.q .ro (.load_own_a 1 [_,_,_,_,_,_,_,_] rfl rfl ty105 rfl) rfl ?_);refine .lit [_,_,_,_,_,_,_,_] [(0,_)] .ro sl33 ty105 rfl rfl rfl rfl rfl rfl (fun b109 hb109=>?_)
 have o110:OL (Rep.pair ri (Rep.pair ri (Rep.pair ri (Rep.pair ri (Rep.pair ri (Rep.pair (Rep.sl ri) (Rep.pair (Rep.sl ri) ri))))))) G29 [.int .i64 v53, .int .i64 v54, .int .i64 v55, .int .i64 v56, .int .i64 v57, .slice a59 v58.length k60, .slice a62 v61.length k63, .int .i64 v65] ([(v53,v54,v55,v56,v57,v58,v61,v65)]:List (Int×Int×Int×Int×Int×(List Int)×(List Int)×Int)):=((OL.cons rfl (Rep.pairI (Rep.intI .i64 v53) (Rep.pairI (Rep.intI .i64 v54) (Rep.pairI (Rep.intI .i64 v55) (Rep.pairI (Rep.intI .i64 v56) (Rep.pairI (Rep.intI .i64 v57) (Rep.pairI (Rep.slI s73) (Rep.pairI (Rep.slI s74) (Rep.intI .i64 v65)))))))) (OL.nil (Rp':=(Rep.pair ri (Rep.pair ri (Rep.pair ri (Rep.pair ri (Rep.pair ri (Rep.pair (Rep.sl ri) (Rep.pair (Rep.sl ri) ri)))))))))) :)
 refine .reval 54 (n':=([(v53,v54,v55,v56,v57,v58,v61,v65)]:List (Int×Int×Int×Int×Int×(List Int)×(List Int)×Int)).length) rfl rfl ?_;refine .freezeR 0 rfl rfl o110 [_,_] rfl B69 (fun G111 e112 B113 s114=>?_);obtain⟨u115,hu115,r117⟩:=X0 r107;refine .cW [_,_] Tryz.call81 (X98 mcs (SlR.mono (HpLe.trans e68 e112) s0_7) s114 hu115) B113 (fun v118 bo so G119 e120 B121 h122=>?_);obtain⟨a123,k124,rfl,rfl,rfl,s125⟩:=h122;refine .gn 3 ?_;refine .alloc .ro ty35 rfl (fun b126 hb126=>?_);refine .store 0 [_] [_,_,_,_,_,_] .ro rfl rfl rfl ty35 rfl rfl rfl rfl (.go 8 ?_);refine .cH r117 (fun c127 r128=>?_) (fun c127 r129=>?_);cases r128;refine .go 2 ?_;refine .q .ro (.load_own_a 0 [_] rfl rfl ty35 rfl) rfl (.go 1 ?_);refine .store 5 [_,_,_,_,_,_,_,_,_,_,_,_,_,_,_,_] [_,_,_,_,_,_] .ro rfl rfl rfl ty35 rfl rfl rfl rfl (.go 1 ?_);refine .pull 4 rfl [_,_,_,_,_,_] rfl (.pull 4 rfl [_,_,_,_,_,_] rfl (.pull 4 rfl [_,_,_,_,_,_] rfl (.pull 4 rfl [_,_,_,_,_,_] rfl (.pull 5 rfl [_,_,_,_,_,_] rfl (.pull 5 rfl [_,_,_,_,_,_] rfl (.drop 1 0 [_,_,_,_,_] _ rfl rfl ?_))))));exact(hb104 _ ⟨G119,u115.1,a123,k124,rfl,(HpLe.trans e112 e120),B121,s125,r129⟩).ar;refine .go 1 ?_;refine .pull 3 rfl [_,_,_,_,_] rfl (.pull 3 rfl [_,_,_,_,_] rfl (.pull 3 rfl [_,_,_,_,_] rfl (.pull 3 rfl [_,_,_,_,_] rfl (.pull 4 rfl [_,_,_,_,_] rfl ?_))));exact(hb104 _ ⟨G29,x0_7,a0_7,k0_7,rfl,(HpLe.refl _),B69,(SlR.mono e68 s0_7),r108⟩).ar;intro hb130;refine .drawO (.q 0 (.q 1 (.q 2 (.q 3 (.q 4 (.q 5 (.q 6 (.q 7 (.q 8 (.q 9 (.q 10 (.alt (.e 11 1 (.q 12 (.q 13 (.q 14 (.q 15 (.q 16 (.alt (.e 17 1 (.e 18 1 (.e 19 1 (.e 20 1 (.q 21 (.q 22 .nil)))))) (.e 18 1 (.e 17 1 (.e 19 1 (.e 20 1 (.q 21 (.q 22 .nil))))))))))))) (.alt (.e 17 1 (.alt (.e 11 1 (.q 12 (.q 13 (.q 14 (.q 15 (.q 16 (.e 18 1 (.e 19 1 (.e 20 1 (.q 21 (.q 22 .nil))))))))))) (.e 18 1 (.e 11 1 (.q 12 (.q 13 (.q 14 (.q 15 (.q 16 (.e 19 1 (.e 20 1 (.q 21 (.q 22 .nil))))))))))))) (.e 18 1 (.alt (.e 11 1 (.q 12 (.q 13 (.q 14 (.q 15 (.q 16 (.e 17 1 (.e 19 1 (.e 20 1 (.q 21 (.q 22 .nil))))))))))) (.e 17 1 (.e 11 1 (.q 12 (.q 13 (.q 14 (.q 15 (.q 16 (.e 19 1 (.e 20 1 (.q 21 (.q 22 .nil)))))))))))))))))))))))))) [_,_,_] [_,_] (by kernel_rfl) (by kernel_rfl) (X1 [0,1,2] rfl) (X1 [0,1] rfl) ?_;obtain⟨u131,hu131,r132⟩:=X0 r13;obtain⟨u133,hu133,r134⟩:=X0 r132;obtain⟨u135,hu135,r137⟩:=X0 r134;refine .dqO (.fieldAddr 6 rfl Xj8 ty32.sz rfl) rfl (.dqO (.load_own 2 rfl rfl ty32 rfl) rfl (.dqO (.move rfl) rfl ?_));obtain⟨c138,p139,h140⟩:=OL.get oo0_6 hu131;obtain⟨_,_,rfl,rfl,_,_,rfl,⟨_,_,rfl,rfl,_,_,rfl,rfl,_,_,rfl,rfl,rfl⟩,_,_,rfl,rfl,_,_,rfl,⟨a141,k142,rfl,s143⟩,a144,k145,rfl,s146⟩:=h140
 refine .dqO (.idxO 0 rfl rfl rfl hu131 sl32 ty116.sz) rfl (.dqO (.loadO_a 0 0 [_,_,_,_,_,_,_,_] rfl hu131 p139 rfl (.inl ⟨rfl,rfl⟩) ty116 rfl) rfl (.dqO (.load_own_a 0 [_,_] rfl rfl ty136 rfl) rfl (.dqO (.fieldAddr 14 rfl Xj9 ty41.sz rfl) rfl (.dqO (.load_own 2 rfl rfl ty41 rfl) rfl (.dqO (.move rfl) rfl ?_)))));obtain⟨c147,p148,h149⟩:=SlR.get s0_14 hu133;obtain rfl:=h149;refine .dqO (.idxR s0_14 rfl rfl hu133 sl41 ty3.sz) rfl (.dqO (.load_rp p148 mcs rfl ty3 rfl) rfl ?_);refine .alt ?_ ?_;refine .callW (b1:=[]) (b2:=[_,_,_]) (s1:=[]) [_,_,_] [] .d1 rfl rfl Tryz.call84 rfl rfl (X7l mcs s143 s146 hu135) rfl B0 (fun v150 bo so G151 e152 B153 h154=>?_);obtain⟨a155,k156,a157,k158,a159,k160,a161,k162,rfl,rfl,rfl,s163,s164,s165,s166⟩:=h154;refine .gn 0 ?_;refine .clsO e152 (X1 [0,1,2] rfl) (X1 [0,1] rfl) (.dqO (.move rfl) rfl (.dqO (.extract rfl rfl) rfl (.dqO (.extract rfl rfl) rfl (.dqO (.extract rfl rfl) rfl (.dqO (.extract rfl rfl) rfl ?_)))));refine .alt ?_ ?_;refine .alloc .d1 ty116 rfl (fun b167 hb167=>?_);refine .clsO e152 (X1 [1,2,3] rfl) (X1 [0,1] rfl) ?_;refine .alloc .d1 ty105 rfl (fun b168 hb168=>?_);refine .clsO e152 (X1 [2,3,4] rfl) (X1 [0,1] rfl) (.store 1 [_,_,_,_,_,_,_,_] [_,_,_,_,_] .d1 rfl rfl rfl ty116 rfl rfl rfl rfl (.clsO e152 (X1 [2,3,4] rfl) (X1 [0,1] rfl) (.store 0 [_,_,_,_,_,_,_,_] [_,_,_,_,_] .d1 rfl rfl rfl ty105 rfl rfl rfl rfl (.clsO e152 (X1 [2,3,4] rfl) (X1 [0,1] rfl) (.dqO (.assign rfl) rfl (.dqO (.assign rfl) rfl (.go 1 ?_)))))));refine .pull 4 rfl [_,_,_,_,_] rfl (.pull 4 rfl [_,_,_,_,_] rfl (.pull 4 rfl [_,_,_,_,_] rfl (.pull 3 rfl [_,_,_,_,_] rfl (.pull 4 rfl [_,_,_,_,_] rfl ?_))));exact(hb130 _ ⟨G151,b167,u135.1.1,u135.1.2.1.1,u135.1.2.1.2.1,u135.1.2.1.2.2.1,u135.1.2.1.2.2.2,u135.1.2.2.1,u135.1.2.2.2.1,a155,k156,u135.1.2.2.2.2,a157,k158,b168,u135.2.1.1,u135.2.1.2.1,u135.2.1.2.2.1,u135.2.1.2.2.2.1,u135.2.1.2.2.2.2.1,u135.2.1.2.2.2.2.2.1,a159,k160,u135.2.1.2.2.2.2.2.2.1,a161,k162,u135.2.1.2.2.2.2.2.2.2,u135.2.2.1,u135.2.2.2,rfl,e152,B153,s163,s164,s165,s166,r137⟩).ar;refine .alloc .d1 ty105 rfl (fun b169 hb169=>?_);refine .clsO e152 (X1 [1,2,3] rfl) (X1 [0,1] rfl) ?_;refine .alloc .d1 ty116 rfl (fun b170 hb170=>?_);refine .clsO e152 (X1 [2,3,4] rfl) (X1 [0,1] rfl) (.store 0 [_,_,_,_,_,_,_,_] [_,_,_,_,_] .d1 rfl rfl rfl ty116 rfl rfl rfl rfl (.clsO e152 (X1 [2,3,4] rfl) (X1 [0,1] rfl) (.store 1 [_,_,_,_,_,_,_,_] [_,_,_,_,_] .d1 rfl rfl rfl ty105 rfl rfl rfl rfl (.clsO e152 (X1 [2,3,4] rfl) (X1 [0,1] rfl) (.dqO (.assign rfl) rfl (.dqO (.assign rfl) rfl (.go 1 ?_)))))))
 exact(hb130 _ ⟨G151,b170,u135.1.1,u135.1.2.1.1,u135.1.2.1.2.1,u135.1.2.1.2.2.1,u135.1.2.1.2.2.2,u135.1.2.2.1,u135.1.2.2.2.1,a155,k156,u135.1.2.2.2.2,a157,k158,b169,u135.2.1.1,u135.2.1.2.1,u135.2.1.2.2.1,u135.2.1.2.2.2.1,u135.2.1.2.2.2.2.1,u135.2.1.2.2.2.2.2.1,a159,k160,u135.2.1.2.2.2.2.2.2.1,a161,k162,u135.2.1.2.2.2.2.2.2.2,u135.2.2.1,u135.2.2.2,rfl,e152,B153,s163,s164,s165,s166,r137⟩).ar;refine .alt ?_ ?_;refine .alloc .d1 ty116 rfl (fun b171 hb171=>?_);refine .clsO (HpLe.refl _) (X1 [1,2,3] rfl) (X1 [0,1] rfl) ?_;refine .alt ?_ ?_;refine .callW (b1:=[]) (b2:=[_,_,_,_]) (s1:=[]) [_,_,_] [] .d1 rfl rfl Tryz.call84 rfl rfl (X7l mcs s143 s146 hu135) rfl B0 (fun v172 bo so G173 e174 B175 h176=>?_);obtain⟨a177,k178,a179,k180,a181,k182,a183,k184,rfl,rfl,rfl,s185,s186,s187,s188⟩:=h176;refine .gn 0 ?_;refine .clsO e174 (X1 [1,2,3] rfl) (X1 [0,1] rfl) (.dqO (.move rfl) rfl (.dqO (.extract rfl rfl) rfl (.dqO (.extract rfl rfl) rfl (.dqO (.extract rfl rfl) rfl (.dqO (.extract rfl rfl) rfl ?_)))));refine .alloc .d1 ty105 rfl (fun b189 hb189=>?_);refine .clsO e174 (X1 [2,3,4] rfl) (X1 [0,1] rfl) (.store 1 [_,_,_,_,_,_,_,_] [_,_,_,_,_] .d1 rfl rfl rfl ty116 rfl rfl rfl rfl (.clsO e174 (X1 [2,3,4] rfl) (X1 [0,1] rfl) (.store 0 [_,_,_,_,_,_,_,_] [_,_,_,_,_] .d1 rfl rfl rfl ty105 rfl rfl rfl rfl (.clsO e174 (X1 [2,3,4] rfl) (X1 [0,1] rfl) (.dqO (.assign rfl) rfl (.dqO (.assign rfl) rfl (.go 1 ?_)))))));refine .pull 4 rfl [_,_,_,_,_] rfl (.pull 4 rfl [_,_,_,_,_] rfl (.pull 4 rfl [_,_,_,_,_] rfl (.pull 3 rfl [_,_,_,_,_] rfl (.pull 4 rfl [_,_,_,_,_] rfl ?_))));exact(hb130 _ ⟨G173,b171,u135.1.1,u135.1.2.1.1,u135.1.2.1.2.1,u135.1.2.1.2.2.1,u135.1.2.1.2.2.2,u135.1.2.2.1,u135.1.2.2.2.1,a177,k178,u135.1.2.2.2.2,a179,k180,b189,u135.2.1.1,u135.2.1.2.1,u135.2.1.2.2.1,u135.2.1.2.2.2.1,u135.2.1.2.2.2.2.1,u135.2.1.2.2.2.2.2.1,a181,k182,u135.2.1.2.2.2.2.2.2.1,a183,k184,u135.2.1.2.2.2.2.2.2.2,u135.2.2.1,u135.2.2.2,rfl,e174,B175,s185,s186,s187,s188,r137⟩).ar;refine .alloc .d1 ty105 rfl (fun b190 hb190=>?_);refine .clsO (HpLe.refl _) (X1 [2,3,4] rfl) (X1 [0,1] rfl) ?_;refine .callW (b1:=[]) (b2:=[_,_,_,_,_]) (s1:=[]) [_,_,_] [] .d1 rfl rfl Tryz.call84 rfl rfl (X7l mcs s143 s146 hu135) rfl B0 (fun v191 bo so G192 e193 B194 h195=>?_);obtain⟨a196,k197,a198,k199,a200,k201,a202,k203,rfl,rfl,rfl,s204,s205,s206,s207⟩:=h195;refine .gn 0 ?_
 refine .clsO e193 (X1 [2,3,4] rfl) (X1 [0,1] rfl) (.dqO (.move rfl) rfl (.dqO (.extract rfl rfl) rfl (.dqO (.extract rfl rfl) rfl (.dqO (.extract rfl rfl) rfl (.dqO (.extract rfl rfl) rfl (.store 1 [_,_,_,_,_,_,_,_] [_,_,_,_,_] .d1 rfl rfl rfl ty116 rfl rfl rfl rfl (.clsO e193 (X1 [2,3,4] rfl) (X1 [0,1] rfl) (.store 0 [_,_,_,_,_,_,_,_] [_,_,_,_,_] .d1 rfl rfl rfl ty105 rfl rfl rfl rfl (.clsO e193 (X1 [2,3,4] rfl) (X1 [0,1] rfl) (.dqO (.assign rfl) rfl (.dqO (.assign rfl) rfl (.go 1 ?_))))))))))));refine .pull 4 rfl [_,_,_,_,_] rfl (.pull 4 rfl [_,_,_,_,_] rfl (.pull 4 rfl [_,_,_,_,_] rfl (.pull 3 rfl [_,_,_,_,_] rfl (.pull 4 rfl [_,_,_,_,_] rfl ?_))));exact(hb130 _ ⟨G192,b171,u135.1.1,u135.1.2.1.1,u135.1.2.1.2.1,u135.1.2.1.2.2.1,u135.1.2.1.2.2.2,u135.1.2.2.1,u135.1.2.2.2.1,a196,k197,u135.1.2.2.2.2,a198,k199,b190,u135.2.1.1,u135.2.1.2.1,u135.2.1.2.2.1,u135.2.1.2.2.2.1,u135.2.1.2.2.2.2.1,u135.2.1.2.2.2.2.2.1,a200,k201,u135.2.1.2.2.2.2.2.2.1,a202,k203,u135.2.1.2.2.2.2.2.2.2,u135.2.2.1,u135.2.2.2,rfl,e193,B194,s204,s205,s206,s207,r137⟩).ar;refine .alloc .d1 ty105 rfl (fun b208 hb208=>?_);refine .clsO (HpLe.refl _) (X1 [1,2,3] rfl) (X1 [0,1] rfl) ?_;refine .alt ?_ ?_;refine .callW (b1:=[]) (b2:=[_,_,_,_]) (s1:=[]) [_,_,_] [] .d1 rfl rfl Tryz.call84 rfl rfl (X7l mcs s143 s146 hu135) rfl B0 (fun v209 bo so G210 e211 B212 h213=>?_);obtain⟨a214,k215,a216,k217,a218,k219,a220,k221,rfl,rfl,rfl,s222,s223,s224,s225⟩:=h213;refine .gn 0 ?_;refine .clsO e211 (X1 [1,2,3] rfl) (X1 [0,1] rfl) (.dqO (.move rfl) rfl (.dqO (.extract rfl rfl) rfl (.dqO (.extract rfl rfl) rfl (.dqO (.extract rfl rfl) rfl (.dqO (.extract rfl rfl) rfl ?_)))));refine .alloc .d1 ty116 rfl (fun b226 hb226=>?_);refine .clsO e211 (X1 [2,3,4] rfl) (X1 [0,1] rfl) (.store 0 [_,_,_,_,_,_,_,_] [_,_,_,_,_] .d1 rfl rfl rfl ty116 rfl rfl rfl rfl (.clsO e211 (X1 [2,3,4] rfl) (X1 [0,1] rfl) (.store 1 [_,_,_,_,_,_,_,_] [_,_,_,_,_] .d1 rfl rfl rfl ty105 rfl rfl rfl rfl (.clsO e211 (X1 [2,3,4] rfl) (X1 [0,1] rfl) (.dqO (.assign rfl) rfl (.dqO (.assign rfl) rfl (.go 1 ?_)))))));exact(hb130 _ ⟨G210,b226,u135.1.1,u135.1.2.1.1,u135.1.2.1.2.1,u135.1.2.1.2.2.1,u135.1.2.1.2.2.2,u135.1.2.2.1,u135.1.2.2.2.1,a214,k215,u135.1.2.2.2.2,a216,k217,b208,u135.2.1.1,u135.2.1.2.1,u135.2.1.2.2.1,u135.2.1.2.2.2.1,u135.2.1.2.2.2.2.1,u135.2.1.2.2.2.2.2.1,a218,k219,u135.2.1.2.2.2.2.2.2.1,a220,k221,u135.2.1.2.2.2.2.2.2.2,u135.2.2.1,u135.2.2.2,rfl,e211,B212,s222,s223,s224,s225,r137⟩).ar;refine .alloc .d1 ty116 rfl (fun b227 hb227=>?_);refine .clsO (HpLe.refl _) (X1 [2,3,4] rfl) (X1 [0,1] rfl) ?_
 refine .callW (b1:=[]) (b2:=[_,_,_,_,_]) (s1:=[]) [_,_,_] [] .d1 rfl rfl Tryz.call84 rfl rfl (X7l mcs s143 s146 hu135) rfl B0 (fun v228 bo so G229 e230 B231 h232=>?_);obtain⟨a233,k234,a235,k236,a237,k238,a239,k240,rfl,rfl,rfl,s241,s242,s243,s244⟩:=h232;refine .gn 0 ?_;refine .clsO e230 (X1 [2,3,4] rfl) (X1 [0,1] rfl) (.dqO (.move rfl) rfl (.dqO (.extract rfl rfl) rfl (.dqO (.extract rfl rfl) rfl (.dqO (.extract rfl rfl) rfl (.dqO (.extract rfl rfl) rfl (.store 0 [_,_,_,_,_,_,_,_] [_,_,_,_,_] .d1 rfl rfl rfl ty116 rfl rfl rfl rfl (.clsO e230 (X1 [2,3,4] rfl) (X1 [0,1] rfl) (.store 1 [_,_,_,_,_,_,_,_] [_,_,_,_,_] .d1 rfl rfl rfl ty105 rfl rfl rfl rfl (.clsO e230 (X1 [2,3,4] rfl) (X1 [0,1] rfl) (.dqO (.assign rfl) rfl (.dqO (.assign rfl) rfl (.go 1 ?_))))))))))));exact(hb130 _ ⟨G229,b227,u135.1.1,u135.1.2.1.1,u135.1.2.1.2.1,u135.1.2.1.2.2.1,u135.1.2.1.2.2.2,u135.1.2.2.1,u135.1.2.2.2.1,a233,k234,u135.1.2.2.2.2,a235,k236,b208,u135.2.1.1,u135.2.1.2.1,u135.2.1.2.2.1,u135.2.1.2.2.2.1,u135.2.1.2.2.2.2.1,u135.2.1.2.2.2.2.2.1,a237,k238,u135.2.1.2.2.2.2.2.2.1,a239,k240,u135.2.1.2.2.2.2.2.2.2,u135.2.2.1,u135.2.2.2,rfl,e230,B231,s241,s242,s243,s244,r137⟩).ar
theorem Xc0{x0_0 x0_1 x0_2 x0_3:Int}{x0_4:An}{x0_5:Bp}{x0_6:Bq}{x0_7:Bg}{x0_8:Bx}{x0_9 x0_10:Int}{x0_11:Bj}{x0_12:An}{x0_13 x0_14:Ab}{x0_15:Aj}{x1_0 x1_1:Int}{x1_2:Ab}{x1_3 x1_4 x1_5:Int}{x1_6:List (Int×Ab)}{r:Cv}(hG:G∈Fs)(s0_4:SlR (Rep.pair ri ri) G a0_4 k0_4 x0_4)(s0_5:SlR (Rep.pair ri (Rep.pair ri (Rep.pair ri (Rep.sl (Rep.sl ri))))) G a0_5 k0_5 x0_5)(s0_6:SlR (Rep.pair ri (Rep.pair (Rep.pair ri (Rep.pair ri (Rep.pair ri ri))) (Rep.pair Rep.bool (Rep.pair (Rep.sl (Rep.pair (Rep.pair ri (Rep.pair ri (Rep.pair ri (Rep.pair ri ri)))) (Rep.sl (Rep.sl ri)))) (Rep.sl (Rep.pair ri (Rep.pair ri (Rep.pair ri (Rep.pair (Rep.sl ri) (Rep.sl ri)))))))))) G a0_6 k0_6 x0_6)(s0_7:SlR (Rep.pair ri (Rep.pair ri (Rep.pair ri (Rep.pair ri (Rep.pair ri (Rep.pair (Rep.sl ri) (Rep.pair (Rep.sl ri) ri))))))) G a0_7 k0_7 x0_7)(s0_8:SlR (Rep.pair ri (Rep.pair (Rep.pair ri (Rep.pair ri (Rep.pair ri ri))) (Rep.pair (Rep.pair ri (Rep.pair ri (Rep.pair ri (Rep.pair ri ri)))) (Rep.pair (Rep.sl ri) (Rep.pair (Rep.sl (Rep.sl (Rep.sl ri))) (Rep.pair (Rep.sl (Rep.sl (Rep.pair Rep.bool (Rep.sl ri)))) (Rep.pair (Rep.sl (Rep.sl ri)) Rep.bool))))))) G a0_8 k0_8 x0_8)(s0_11:SlR (Rep.pair ri (Rep.pair ri (Rep.pair ri (Rep.pair ri ri)))) G a0_11 k0_11 x0_11)(s0_12:SlR (Rep.pair ri ri) G a0_12 k0_12 x0_12)(s0_13:SlR ri G a0_13 k0_13 x0_13)(s0_14:SlR ri G a0_14 k0_14 x0_14)(s0_15:SlR (Rep.pair ri (Rep.pair ri (Rep.pair (Rep.sl (Rep.pair ri (Rep.pair (Rep.sl ri) (Rep.sl ri)))) (Rep.sl (Rep.pair ri (Rep.pair ri (Rep.pair ri (Rep.pair ri (Rep.pair ri (Rep.pair (Rep.sl ri) (Rep.pair (Rep.sl ri) ri))))))))))) G a0_15 k0_15 x0_15)(s1_2:SlR ri G a1_2 k1_2 x1_2)(s1_6:SlR (Rep.pair ri (Rep.sl ri)) G a1_6 k1_6 x1_6)(h:X21 ((x0_0,x0_1,x0_2,x0_3),x0_4,x0_5,x0_6,x0_7,x0_8,(x0_9,x0_10,x0_11),(x0_12,x0_13),x0_14,x0_15) (x1_0,x1_1,x1_2,(x1_3,x1_4,x1_5,x1_6))=some r):RetW Tryz.prog 10 #[.agg #[.int .i64 x0_0, .int .i64 x0_1, .int .i64 x0_2, .int .i64 x0_3, .slice a0_4 x0_4.length k0_4, .slice a0_5 x0_5.length k0_5, .slice a0_6 x0_6.length k0_6, .slice a0_7 x0_7.length k0_7, .slice a0_8 x0_8.length k0_8, .int .i64 x0_9, .int .i64 x0_10, .slice a0_11 x0_11.length k0_11, .slice a0_12 x0_12.length k0_12, .slice a0_13 x0_13.length k0_13, .slice a0_14 x0_14.length k0_14, .slice a0_15 x0_15.length k0_15], .agg #[.int .i64 x1_0, .int .i64 x1_1, .slice a1_2 x1_2.length k1_2, .int .i64 x1_3, .int .i64 x1_4, .int .i64 x1_5, .slice a1_6 x1_6.length k1_6]] Fs [] [] (fun v bo so G=>∃a0:Option Addr,∃k0:Nat,∃a1:Option Addr,∃k1:Nat,∃a2:Option Addr,∃k2:Nat,∃a3:Option Addr,∃k3:Nat,∃a4:Option Addr,∃k4:Nat,∃a5:Option Addr,∃k5:Nat,∃a6:Option Addr,∃k6:Nat,∃a7:Option Addr,∃k7:Nat,∃a8:Option Addr,∃k8:Nat,∃a9:Option Addr,∃k9:Nat,v= .tuple #[.agg #[.int .i64 r.1.1.1, .int .i64 r.1.1.2.1, .int .i64 r.1.1.2.2.1, .int .i64 r.1.1.2.2.2, .slice a0 r.1.2.1.length k0, .slice a1 r.1.2.2.1.length k1, .slice a2 r.1.2.2.2.1.length k2, .slice a3 r.1.2.2.2.2.1.length k3, .slice a4 r.1.2.2.2.2.2.1.length k4, .int .i64 r.1.2.2.2.2.2.2.1.1, .int .i64 r.1.2.2.2.2.2.2.1.2.1, .slice a5 r.1.2.2.2.2.2.2.1.2.2.length k5, .slice a6 r.1.2.2.2.2.2.2.2.1.1.length k6, .slice a7 r.1.2.2.2.2.2.2.2.1.2.length k7, .slice a8 r.1.2.2.2.2.2.2.2.2.1.length k8, .slice a9 r.1.2.2.2.2.2.2.2.2.2.length k9], .int .i64 r.2]∧bo=[]∧so=[]∧SlR (Rep.pair ri ri) G a0 k0 r.1.2.1∧SlR (Rep.pair ri (Rep.pair ri (Rep.pair ri (Rep.sl (Rep.sl ri))))) G a1 k1 r.1.2.2.1∧SlR (Rep.pair ri (Rep.pair (Rep.pair ri (Rep.pair ri (Rep.pair ri ri))) (Rep.pair Rep.bool (Rep.pair (Rep.sl (Rep.pair (Rep.pair ri (Rep.pair ri (Rep.pair ri (Rep.pair ri ri)))) (Rep.sl (Rep.sl ri)))) (Rep.sl (Rep.pair ri (Rep.pair ri (Rep.pair ri (Rep.pair (Rep.sl ri) (Rep.sl ri)))))))))) G a2 k2 r.1.2.2.2.1∧SlR (Rep.pair ri (Rep.pair ri (Rep.pair ri (Rep.pair ri (Rep.pair ri (Rep.pair (Rep.sl ri) (Rep.pair (Rep.sl ri) ri))))))) G a3 k3 r.1.2.2.2.2.1∧SlR (Rep.pair ri (Rep.pair (Rep.pair ri (Rep.pair ri (Rep.pair ri ri))) (Rep.pair (Rep.pair ri (Rep.pair ri (Rep.pair ri (Rep.pair ri ri)))) (Rep.pair (Rep.sl ri) (Rep.pair (Rep.sl (Rep.sl (Rep.sl ri))) (Rep.pair (Rep.sl (Rep.sl (Rep.pair Rep.bool (Rep.sl ri)))) (Rep.pair (Rep.sl (Rep.sl ri)) Rep.bool))))))) G a4 k4 r.1.2.2.2.2.2.1∧SlR (Rep.pair ri (Rep.pair ri (Rep.pair ri (Rep.pair ri ri)))) G a5 k5 r.1.2.2.2.2.2.2.1.2.2∧SlR (Rep.pair ri ri) G a6 k6 r.1.2.2.2.2.2.2.2.1.1∧SlR ri G a7 k7 r.1.2.2.2.2.2.2.2.1.2∧SlR ri G a8 k8 r.1.2.2.2.2.2.2.2.2.1∧SlR (Rep.pair ri (Rep.pair ri (Rep.pair (Rep.sl (Rep.pair ri (Rep.pair (Rep.sl ri) (Rep.sl ri)))) (Rep.sl (Rep.pair ri (Rep.pair ri (Rep.pair ri (Rep.pair ri (Rep.pair ri (Rep.pair (Rep.sl ri) (Rep.pair (Rep.sl ri) ri))))))))))) G a9 k9 r.1.2.2.2.2.2.2.2.2.2):=by
 unfold X21 at h;try dsimp only at h
 refine RetW.st [(0,_),(1,_)] Tryz.func10 Tryz.ntmps10 hG fun w0 S0 hS0 B0=>?_;refine .go 2 ?_;refine .box [_,_,_,_,_,_,_,_,_,_,_,_,_,_,_,_] .ro rfl rfl rfl (fun b1 hb1=>?_);refine .box [_,_,_,_,_,_,_] .ro rfl rfl rfl (fun b2 hb2=>?_);refine .alloc .ro ty46 rfl (fun b3 hb3=>?_);refine .go 4 ?_;refine .q .ro (.load_own_a 2 [_,_,_,_,_,_,_,_,_,_,_,_,_,_,_,_] rfl rfl ty46 rfl) rfl ?_;obtain⟨u4,hu4,r5⟩:=X0 h;refine .cW [_] Tryz.call36 (Xff mcs s0_4 s0_5 s0_6 s0_7 s0_8 s0_11 s0_12 s0_13 s0_14 s0_15 hu4) B0 (fun v7 bo so G8 e9 B10 h6=>?_);obtain⟨a12,k13,a15,k16,a23,k24,a31,k32,a34,k35,a37,k38,a40,k41,a43,k44,a19,k20,cs21,a27,k28,cs29,rfl,rfl,rfl,s14,s17,s25,s33,s36,s39,s42,s45,o22,o30⟩:=h6;refine .gn 0 ?_;refine .alloc .ro ty46 rfl (fun b46 hb46=>?_);refine .store 0 [_,_,_,_,_,_,_,_,_,_,_,_,_,_,_,_] [_,_,_,_] .ro rfl rfl rfl ty46 rfl rfl rfl rfl (.go 11 ?_);refine .block (.go 5 ?_)
 refine .kI (fun y=>∃(Z0 Z1 Z2 Z3 Z4 Z5:_)(Z6:An)(Z7:_)(Z8:Nat)(Z9:Bp)(Z10:_)(Z11:Nat)(Z12:Bq)(Z13:_)(Z14:Nat)(Z15:_)(Z16:Bg)(Z17:_)(Z18:Nat)(Z19:Bx)(Z20:_)(Z21:Nat)(Z22 Z23 Z24:_)(Z25:Bj)(Z26:_)(Z27:Nat)(Z28:An)(Z29:_)(Z30:Nat)(Z31:Ab)(Z32:_)(Z33:Nat)(Z34:Ab)(Z35:_)(Z36:Nat)(Z37:Aj)(Z38:_)(Z39:Nat),y=⟨[(7, .int .i64 Z1)],Z0::Fs,[(b46, .cells #[.int .i64 Z2, .int .i64 Z3, .int .i64 Z4, .int .i64 Z5, .slice Z7 Z6.length Z8, .slice Z10 Z9.length Z11, .slice Z13 Z12.length Z14, .slice Z17 Z16.length Z18, .slice Z20 Z19.length Z21, .int .i64 Z23, .int .i64 Z24, .slice Z26 Z25.length Z27, .slice Z29 Z28.length Z30, .slice Z32 Z31.length Z33, .slice Z35 Z34.length Z36, .slice Z38 Z37.length Z39] 46 (0,0))],[.s (.slice Z13 Z12.length Z14) 116 8 Z12.length Z15, .s (.slice Z20 Z19.length Z21) 162 15 Z19.length Z22]⟩∧HpLe G8 Z0∧Bd w0 S0 Fs Z0∧SlR (Rep.pair ri ri) Z0 Z7 Z8 Z6∧SlR (Rep.pair ri (Rep.pair ri (Rep.pair ri (Rep.sl (Rep.sl ri))))) Z0 Z10 Z11 Z9∧OL (Rep.pair ri (Rep.pair (Rep.pair ri (Rep.pair ri (Rep.pair ri ri))) (Rep.pair Rep.bool (Rep.pair (Rep.sl (Rep.pair (Rep.pair ri (Rep.pair ri (Rep.pair ri (Rep.pair ri ri)))) (Rep.sl (Rep.sl ri)))) (Rep.sl (Rep.pair ri (Rep.pair ri (Rep.pair ri (Rep.pair (Rep.sl ri) (Rep.sl ri)))))))))) Z0 Z15 Z12∧SlR (Rep.pair ri (Rep.pair ri (Rep.pair ri (Rep.pair ri (Rep.pair ri (Rep.pair (Rep.sl ri) (Rep.pair (Rep.sl ri) ri))))))) Z0 Z17 Z18 Z16∧OL (Rep.pair ri (Rep.pair (Rep.pair ri (Rep.pair ri (Rep.pair ri ri))) (Rep.pair (Rep.pair ri (Rep.pair ri (Rep.pair ri (Rep.pair ri ri)))) (Rep.pair (Rep.sl ri) (Rep.pair (Rep.sl (Rep.sl (Rep.sl ri))) (Rep.pair (Rep.sl (Rep.sl (Rep.pair Rep.bool (Rep.sl ri)))) (Rep.pair (Rep.sl (Rep.sl ri)) Rep.bool))))))) Z0 Z22 Z19∧SlR (Rep.pair ri (Rep.pair ri (Rep.pair ri (Rep.pair ri ri)))) Z0 Z26 Z27 Z25∧SlR (Rep.pair ri ri) Z0 Z29 Z30 Z28∧SlR ri Z0 Z32 Z33 Z31∧SlR ri Z0 Z35 Z36 Z34∧SlR (Rep.pair ri (Rep.pair ri (Rep.pair (Rep.sl (Rep.pair ri (Rep.pair (Rep.sl ri) (Rep.sl ri)))) (Rep.sl (Rep.pair ri (Rep.pair ri (Rep.pair ri (Rep.pair ri (Rep.pair ri (Rep.pair (Rep.sl ri) (Rep.pair (Rep.sl ri) ri))))))))))) Z0 Z38 Z39 Z37∧X8w Z1 Z2 Z3 Z4 Z5 Z6 Z9 Z12 Z16 Z19 Z23 Z24 Z25 Z28 Z31 Z34 Z37=some r) [(2,_),(4,_),(6,_)] [_,_,_] [1,2,3] [] [] ?_ ?_;rintro _ ⟨G47,v48,v49,v50,v51,v52,v53,a54,k55,v56,a57,k58,v59,a60,k61,cs62,v63,a65,k66,v67,a68,k69,cs70,v71,v72,v73,a74,k75,v76,a77,k78,v79,a80,k81,v82,a83,k84,v85,a86,k87,rfl,e88,B89,s90,s91,o92,s93,o94,s95,s96,s97,s98,s99,r100⟩;refine .gn 0 ?_;unfold X8w at r100;try dsimp only at r100
 refine .go 7 ?_;refine .cH r100 (fun c101 r102=>?_) (fun c101 r103=>?_);cases r102;refine .go 3 ?_;refine .q .ro (.load_own_a 0 [_,_,_,_,_,_,_,_,_,_,_,_,_,_,_,_] rfl rfl ty46 rfl) rfl (.store 1 [_,_,_,_,_,_,_,_,_,_,_,_,_,_,_,_] [_,_,_,_] .ro rfl rfl rfl ty46 rfl rfl rfl rfl (.go 2 ?_));refine .freezeR 0 rfl rfl o92 [_] rfl B89 (fun G104 e106 B107 s108=>?_);refine .freezeR 0 rfl rfl (OL.mono e106 o94) [] rfl B107 (fun G109 e110 B111 s112=>?_);cases r103;refine .rW 4 [.cell 4 46, .tmp 5] [_,_] Tryz.func10 Tryz.results10 ⟨RV.cell_a 1 [_,_,_,_,_,_,_,_,_,_,_,_,_,_,_,_] rfl rfl ty46 rfl,RV.tmp rfl,trivial⟩ B111 hS0 (fun G' hg=>⟨a54,k55,a57,k58,a60,k61,a65,k66,a68,k69,a74,k75,a77,k78,a80,k81,a83,k84,a86,k87,rfl,rfl,rfl,(SlR.mono hg (SlR.mono (HpLe.trans e106 e110) s90)),(SlR.mono hg (SlR.mono (HpLe.trans e106 e110) s91)),(SlR.mono hg (SlR.mono e110 s108)),(SlR.mono hg (SlR.mono (HpLe.trans e106 e110) s93)),(SlR.mono hg s112),(SlR.mono hg (SlR.mono (HpLe.trans e106 e110) s95)),(SlR.mono hg (SlR.mono (HpLe.trans e106 e110) s96)),(SlR.mono hg (SlR.mono (HpLe.trans e106 e110) s97)),(SlR.mono hg (SlR.mono (HpLe.trans e106 e110) s98)),(SlR.mono hg (SlR.mono (HpLe.trans e106 e110) s99))⟩);intro hb113;refine .cH r5 (fun c114 r115=>?_) (fun c114 r116=>?_);refine .go 1 ?_;refine .q .ro (.load_own_a 0 [_,_,_,_,_,_,_,_,_,_,_,_,_,_,_,_] rfl rfl ty46 rfl) rfl (.go 2 ?_);obtain⟨u117,hu117,r118⟩:=X0 r115;refine .pullS 1 rfl [_,_] rfl (.pullS 1 rfl [_,_] rfl ?_);refine .callW (b1:=[]) (b2:=[_,_,_,_]) (s1:=[_,_]) [_,_] [] .ro rfl rfl Tryz.call37 rfl rfl (Xeo mcs s14 s17 o22 s25 o30 s33 s36 s39 s42 s45 (SlR.mono e9 s1_2) hu117) rfl B10 (fun v119 bo so G120 e121 B122 h123=>?_);obtain⟨a124,k125,a126,k127,a128,k129,a130,k131,a132,k133,a134,k135,a136,k137,a138,k139,cs140,a141,k142,cs143,rfl,rfl,rfl,s144,s145,s146,s147,s148,s149,s150,s151,o152,o153⟩:=h123;refine .gn 3 ?_;refine .store 0 [_,_,_,_,_,_,_,_,_,_,_,_,_,_,_,_] [_,_,_,_] .ro rfl rfl rfl ty46 rfl rfl rfl rfl (.go 2 ?_);exact(hb113 _ ⟨G120,u117.2,u117.1.1.1,u117.1.1.2.1,u117.1.1.2.2.1,u117.1.1.2.2.2,u117.1.2.1,a124,k125,u117.1.2.2.1,a126,k127,u117.1.2.2.2.1,a19,k20,cs140,u117.1.2.2.2.2.1,a128,k129,u117.1.2.2.2.2.2.1,a141,k142,cs143,u117.1.2.2.2.2.2.2.1.1,u117.1.2.2.2.2.2.2.1.2.1,u117.1.2.2.2.2.2.2.1.2.2,a130,k131,u117.1.2.2.2.2.2.2.2.1.1,a132,k133,u117.1.2.2.2.2.2.2.2.1.2,a134,k135,u117.1.2.2.2.2.2.2.2.2.1,a136,k137,u117.1.2.2.2.2.2.2.2.2.2,a138,k139,rfl,e121,B122,s144,s145,o152,s146,o153,s147,s148,s149,s150,s151,r118⟩).ar;refine .go 5 ?_;refine .cH r116 (fun c154 r155=>?_) (fun c154 r156=>?_);refine .go 4 ?_;refine .q .ro (.load_own_a 0 [_] rfl rfl ty35 rfl) rfl (.go 2 ?_);obtain⟨u157,hu157,r158⟩:=X0 r155
 refine .cS [_,_] Tryz.call38 (Xc7 mcs s25 hu157) (fun v159 bo so h160=>?_);obtain⟨a161,k162,a163,k164,rfl,rfl,rfl,s165,s166⟩:=h160;refine .gn 3 ?_;refine .alloc .ro ty105 rfl (fun b167 hb167=>?_);refine .store 0 [_,_,_,_,_,_,_,_] [_,_,_,_,_] .ro rfl rfl rfl ty105 rfl rfl rfl rfl (.go 7 ?_);refine .cH r158 (fun c168 r169=>?_) (fun c168 r170=>?_);cases r169;refine .go 3 ?_;refine .q .ro (.load_own_a 1 [_,_,_,_,_,_,_,_,_,_,_,_,_,_,_,_] rfl rfl ty46 rfl) rfl (.go 2 ?_);obtain⟨u171,hu171,r172⟩:=X0 r170;refine .pullS 1 rfl [_,_] rfl (.pullS 1 rfl [_,_] rfl ?_);refine .callW (b1:=[]) (b2:=[_,_,_,_,_]) (s1:=[_,_]) [_,_,_] [] .ro rfl rfl Tryz.call39 rfl rfl (Xd5 mcs s14 s17 o22 s25 o30 s33 s36 s39 s42 s45 hu171) rfl B10 (fun v173 bo so G174 e175 B176 h177=>?_);obtain⟨a178,k179,a180,k181,a182,k183,a184,k185,a186,k187,a188,k189,a190,k191,a192,k193,cs194,cs195,rfl,rfl,rfl,s196,s197,s198,s199,s200,s201,s202,s203,o204,o205⟩:=h177;refine .gn 2 ?_;refine .store 2 [_,_,_,_,_,_,_,_,_,_,_,_,_,_,_,_] [_,_,_,_,_] .ro rfl rfl rfl ty46 rfl rfl rfl rfl (.go 2 ?_);refine .freezeR 0 rfl rfl o204 [_] rfl B176 (fun G206 e207 B208 s209=>?_);refine .freezeR 0 rfl rfl (OL.mono e207 o205) [] rfl B208 (fun G210 e211 B212 s213=>?_);cases r172;refine .rW 5 [.cell 4 46, .tmp 5] [_,_] Tryz.func10 Tryz.results10 ⟨RV.cell_a 2 [_,_,_,_,_,_,_,_,_,_,_,_,_,_,_,_] rfl rfl ty46 rfl,RV.tmp rfl,trivial⟩ B212 hS0 (fun G' hg=>⟨a178,k179,a180,k181,a19,k20,a182,k183,a27,k28,a184,k185,a186,k187,a188,k189,a190,k191,a192,k193,rfl,rfl,rfl,(SlR.mono hg (SlR.mono (HpLe.trans e207 e211) s196)),(SlR.mono hg (SlR.mono (HpLe.trans e207 e211) s197)),(SlR.mono hg (SlR.mono e211 s209)),(SlR.mono hg (SlR.mono (HpLe.trans e207 e211) s198)),(SlR.mono hg s213),(SlR.mono hg (SlR.mono (HpLe.trans e207 e211) s199)),(SlR.mono hg (SlR.mono (HpLe.trans e207 e211) s200)),(SlR.mono hg (SlR.mono (HpLe.trans e207 e211) s201)),(SlR.mono hg (SlR.mono (HpLe.trans e207 e211) s202)),(SlR.mono hg (SlR.mono (HpLe.trans e207 e211) s203))⟩);refine .go 5 ?_;refine .cH r156 (fun c214 r215=>?_) (fun c214 r216=>?_);cases r215;refine .go 5 ?_;refine .cH r216 (fun c217 r218=>?_) (fun c217 r219=>?_);cases r218;refine .go 5 ?_;refine .cH r219 (fun c220 r221=>?_) (fun c220 r222=>?_);refine .go 1 ?_;refine .q .ro (.load_own_a 0 [_,_,_,_,_,_,_,_,_,_,_,_,_,_,_,_] rfl rfl ty46 rfl) rfl (.go 2 ?_);obtain⟨u223,hu223,r224⟩:=X0 r221;refine .pullS 1 rfl [_,_] rfl (.pullS 1 rfl [_,_] rfl ?_);refine .callW (b1:=[]) (b2:=[_,_,_,_]) (s1:=[_,_]) [_,_] [] .ro rfl rfl Tryz.call41 rfl rfl (Xfm mcs s14 s17 o22 s25 o30 s33 s36 s39 s42 s45 hu223) rfl B10 (fun v225 bo so G226 e227 B228 h229=>?_)
 obtain⟨a230,k231,a232,k233,a234,k235,a236,k237,a238,k239,a240,k241,a242,k243,a244,k245,cs246,cs247,rfl,rfl,rfl,s248,s249,s250,s251,s252,s253,s254,s255,o256,o257⟩:=h229;refine .gn 3 ?_;refine .store 0 [_,_,_,_,_,_,_,_,_,_,_,_,_,_,_,_] [_,_,_,_] .ro rfl rfl rfl ty46 rfl rfl rfl rfl (.go 2 ?_);exact(hb113 _ ⟨G226,u223.2,u223.1.1.1,u223.1.1.2.1,u223.1.1.2.2.1,u223.1.1.2.2.2,u223.1.2.1,a230,k231,u223.1.2.2.1,a232,k233,u223.1.2.2.2.1,a19,k20,cs246,u223.1.2.2.2.2.1,a234,k235,u223.1.2.2.2.2.2.1,a27,k28,cs247,u223.1.2.2.2.2.2.2.1.1,u223.1.2.2.2.2.2.2.1.2.1,u223.1.2.2.2.2.2.2.1.2.2,a236,k237,u223.1.2.2.2.2.2.2.2.1.1,a238,k239,u223.1.2.2.2.2.2.2.2.1.2,a240,k241,u223.1.2.2.2.2.2.2.2.2.1,a242,k243,u223.1.2.2.2.2.2.2.2.2.2,a244,k245,rfl,e227,B228,s248,s249,o256,s250,o257,s251,s252,s253,s254,s255,r224⟩).ar;cases r222
theorem Xdj{x0_0 x0_1 x0_2 x0_3:Int}{x0_4:An}{x0_5:Bp}{x0_6:Bq}{x0_7:Bg}{x0_8:Bx}{x0_9 x0_10:Int}{x0_11:Bj}{x0_12:An}{x0_13 x0_14:Ab}{x0_15:Aj}{x1:Int}{r:Cv}(hG:G∈Fs)(s0_4:SlR (Rep.pair ri ri) G a0_4 k0_4 x0_4)(s0_5:SlR (Rep.pair ri (Rep.pair ri (Rep.pair ri (Rep.sl (Rep.sl ri))))) G a0_5 k0_5 x0_5)(s0_6:SlR (Rep.pair ri (Rep.pair (Rep.pair ri (Rep.pair ri (Rep.pair ri ri))) (Rep.pair Rep.bool (Rep.pair (Rep.sl (Rep.pair (Rep.pair ri (Rep.pair ri (Rep.pair ri (Rep.pair ri ri)))) (Rep.sl (Rep.sl ri)))) (Rep.sl (Rep.pair ri (Rep.pair ri (Rep.pair ri (Rep.pair (Rep.sl ri) (Rep.sl ri)))))))))) G a0_6 k0_6 x0_6)(s0_7:SlR (Rep.pair ri (Rep.pair ri (Rep.pair ri (Rep.pair ri (Rep.pair ri (Rep.pair (Rep.sl ri) (Rep.pair (Rep.sl ri) ri))))))) G a0_7 k0_7 x0_7)(s0_8:SlR (Rep.pair ri (Rep.pair (Rep.pair ri (Rep.pair ri (Rep.pair ri ri))) (Rep.pair (Rep.pair ri (Rep.pair ri (Rep.pair ri (Rep.pair ri ri)))) (Rep.pair (Rep.sl ri) (Rep.pair (Rep.sl (Rep.sl (Rep.sl ri))) (Rep.pair (Rep.sl (Rep.sl (Rep.pair Rep.bool (Rep.sl ri)))) (Rep.pair (Rep.sl (Rep.sl ri)) Rep.bool))))))) G a0_8 k0_8 x0_8)(s0_11:SlR (Rep.pair ri (Rep.pair ri (Rep.pair ri (Rep.pair ri ri)))) G a0_11 k0_11 x0_11)(s0_12:SlR (Rep.pair ri ri) G a0_12 k0_12 x0_12)(s0_13:SlR ri G a0_13 k0_13 x0_13)(s0_14:SlR ri G a0_14 k0_14 x0_14)(s0_15:SlR (Rep.pair ri (Rep.pair ri (Rep.pair (Rep.sl (Rep.pair ri (Rep.pair (Rep.sl ri) (Rep.sl ri)))) (Rep.sl (Rep.pair ri (Rep.pair ri (Rep.pair ri (Rep.pair ri (Rep.pair ri (Rep.pair (Rep.sl ri) (Rep.pair (Rep.sl ri) ri))))))))))) G a0_15 k0_15 x0_15)(h:X95 ((x0_0,x0_1,x0_2,x0_3),x0_4,x0_5,x0_6,x0_7,x0_8,(x0_9,x0_10,x0_11),(x0_12,x0_13),x0_14,x0_15) x1=some r):RetW Tryz.prog 12 #[.agg #[.int .i64 x0_0, .int .i64 x0_1, .int .i64 x0_2, .int .i64 x0_3, .slice a0_4 x0_4.length k0_4, .slice a0_5 x0_5.length k0_5, .slice a0_6 x0_6.length k0_6, .slice a0_7 x0_7.length k0_7, .slice a0_8 x0_8.length k0_8, .int .i64 x0_9, .int .i64 x0_10, .slice a0_11 x0_11.length k0_11, .slice a0_12 x0_12.length k0_12, .slice a0_13 x0_13.length k0_13, .slice a0_14 x0_14.length k0_14, .slice a0_15 x0_15.length k0_15], .int .i64 x1] Fs [] [] (fun v bo so G=>∃a0:Option Addr,∃k0:Nat,∃a1:Option Addr,∃k1:Nat,∃a2:Option Addr,∃k2:Nat,∃a3:Option Addr,∃k3:Nat,∃a4:Option Addr,∃k4:Nat,∃a5:Option Addr,∃k5:Nat,∃a6:Option Addr,∃k6:Nat,∃a7:Option Addr,∃k7:Nat,∃a8:Option Addr,∃k8:Nat,∃a9:Option Addr,∃k9:Nat,v= .tuple #[.agg #[.int .i64 r.1.1.1, .int .i64 r.1.1.2.1, .int .i64 r.1.1.2.2.1, .int .i64 r.1.1.2.2.2, .slice a0 r.1.2.1.length k0, .slice a1 r.1.2.2.1.length k1, .slice a2 r.1.2.2.2.1.length k2, .slice a3 r.1.2.2.2.2.1.length k3, .slice a4 r.1.2.2.2.2.2.1.length k4, .int .i64 r.1.2.2.2.2.2.2.1.1, .int .i64 r.1.2.2.2.2.2.2.1.2.1, .slice a5 r.1.2.2.2.2.2.2.1.2.2.length k5, .slice a6 r.1.2.2.2.2.2.2.2.1.1.length k6, .slice a7 r.1.2.2.2.2.2.2.2.1.2.length k7, .slice a8 r.1.2.2.2.2.2.2.2.2.1.length k8, .slice a9 r.1.2.2.2.2.2.2.2.2.2.length k9], .int .i64 r.2]∧bo=[]∧so=[]∧SlR (Rep.pair ri ri) G a0 k0 r.1.2.1∧SlR (Rep.pair ri (Rep.pair ri (Rep.pair ri (Rep.sl (Rep.sl ri))))) G a1 k1 r.1.2.2.1∧SlR (Rep.pair ri (Rep.pair (Rep.pair ri (Rep.pair ri (Rep.pair ri ri))) (Rep.pair Rep.bool (Rep.pair (Rep.sl (Rep.pair (Rep.pair ri (Rep.pair ri (Rep.pair ri (Rep.pair ri ri)))) (Rep.sl (Rep.sl ri)))) (Rep.sl (Rep.pair ri (Rep.pair ri (Rep.pair ri (Rep.pair (Rep.sl ri) (Rep.sl ri)))))))))) G a2 k2 r.1.2.2.2.1∧SlR (Rep.pair ri (Rep.pair ri (Rep.pair ri (Rep.pair ri (Rep.pair ri (Rep.pair (Rep.sl ri) (Rep.pair (Rep.sl ri) ri))))))) G a3 k3 r.1.2.2.2.2.1∧SlR (Rep.pair ri (Rep.pair (Rep.pair ri (Rep.pair ri (Rep.pair ri ri))) (Rep.pair (Rep.pair ri (Rep.pair ri (Rep.pair ri (Rep.pair ri ri)))) (Rep.pair (Rep.sl ri) (Rep.pair (Rep.sl (Rep.sl (Rep.sl ri))) (Rep.pair (Rep.sl (Rep.sl (Rep.pair Rep.bool (Rep.sl ri)))) (Rep.pair (Rep.sl (Rep.sl ri)) Rep.bool))))))) G a4 k4 r.1.2.2.2.2.2.1∧SlR (Rep.pair ri (Rep.pair ri (Rep.pair ri (Rep.pair ri ri)))) G a5 k5 r.1.2.2.2.2.2.2.1.2.2∧SlR (Rep.pair ri ri) G a6 k6 r.1.2.2.2.2.2.2.2.1.1∧SlR ri G a7 k7 r.1.2.2.2.2.2.2.2.1.2∧SlR ri G a8 k8 r.1.2.2.2.2.2.2.2.2.1∧SlR (Rep.pair ri (Rep.pair ri (Rep.pair (Rep.sl (Rep.pair ri (Rep.pair (Rep.sl ri) (Rep.sl ri)))) (Rep.sl (Rep.pair ri (Rep.pair ri (Rep.pair ri (Rep.pair ri (Rep.pair ri (Rep.pair (Rep.sl ri) (Rep.pair (Rep.sl ri) ri))))))))))) G a9 k9 r.1.2.2.2.2.2.2.2.2.2):=by
 unfold X95 at h;try dsimp only at h
 refine RetW.st [(0,_),(1,_)] Tryz.func12 Tryz.ntmps12 hG fun w0 S0 hS0 B0=>?_;refine .go 2 ?_;refine .box [_,_,_,_,_,_,_,_,_,_,_,_,_,_,_,_] .ro rfl rfl rfl (fun b1 hb1=>?_);refine .alloc .ro ty46 rfl (fun b2 hb2=>?_);refine .go 7 ?_;refine .block (.pull 1 rfl [_,_] rfl (.pull 1 rfl [_,_] rfl ?_))
 refine .lp (fun y m=>∃(Z0:Nat)(Z1 Z2 Z3 Z4 Z5 Z6 Z7 Z8 Z9 Z10 Z11 Z12:_)(Z13:An)(Z14:_)(Z15:Nat)(Z16:Bp)(Z17:_)(Z18:Nat)(Z19:Bq)(Z20:_)(Z21:Nat)(Z22:Bg)(Z23:_)(Z24:Nat)(Z25:Bx)(Z26:_)(Z27:Nat)(Z28 Z29:_)(Z30:Bj)(Z31:_)(Z32:Nat)(Z33:An)(Z34:_)(Z35:Nat)(Z36:Ab)(Z37:_)(Z38:Nat)(Z39:Ab)(Z40:_)(Z41:Nat)(Z42:Aj)(Z43:_)(Z44:Nat),y=⟨[(6, .int .i64 Z2)],[Z1],[(b2, .cells #[.int .i64 Z3, .int .i64 Z4, .int .i64 Z5, .int .i64 Z6, .slice none 0 0, .slice none 0 0, .slice none 0 0, .slice none 0 0, .slice none 0 0, .int .i64 Z7, .int .i64 Z8, .slice none 0 0, .slice none 0 0, .slice none 0 0, .slice none 0 0, .slice none 0 0] 46 (0,0)),(b1, .cells #[.int .i64 Z9, .int .i64 Z10, .int .i64 Z11, .int .i64 Z12, .slice Z14 Z13.length Z15, .slice Z17 Z16.length Z18, .slice Z20 Z19.length Z21, .slice Z23 Z22.length Z24, .slice Z26 Z25.length Z27, .int .i64 Z28, .int .i64 Z29, .slice Z31 Z30.length Z32, .slice Z34 Z33.length Z35, .slice Z37 Z36.length Z38, .slice Z40 Z39.length Z41, .slice Z43 Z42.length Z44] 46 (0,0))],[]⟩∧Z0=m∧HpLe G Z1∧Bd w0 S0 Fs Z1∧SlR (Rep.pair ri ri) Z1 Z14 Z15 Z13∧SlR (Rep.pair ri (Rep.pair ri (Rep.pair ri (Rep.sl (Rep.sl ri))))) Z1 Z17 Z18 Z16∧SlR (Rep.pair ri (Rep.pair (Rep.pair ri (Rep.pair ri (Rep.pair ri ri))) (Rep.pair Rep.bool (Rep.pair (Rep.sl (Rep.pair (Rep.pair ri (Rep.pair ri (Rep.pair ri (Rep.pair ri ri)))) (Rep.sl (Rep.sl ri)))) (Rep.sl (Rep.pair ri (Rep.pair ri (Rep.pair ri (Rep.pair (Rep.sl ri) (Rep.sl ri)))))))))) Z1 Z20 Z21 Z19∧SlR (Rep.pair ri (Rep.pair ri (Rep.pair ri (Rep.pair ri (Rep.pair ri (Rep.pair (Rep.sl ri) (Rep.pair (Rep.sl ri) ri))))))) Z1 Z23 Z24 Z22∧SlR (Rep.pair ri (Rep.pair (Rep.pair ri (Rep.pair ri (Rep.pair ri ri))) (Rep.pair (Rep.pair ri (Rep.pair ri (Rep.pair ri (Rep.pair ri ri)))) (Rep.pair (Rep.sl ri) (Rep.pair (Rep.sl (Rep.sl (Rep.sl ri))) (Rep.pair (Rep.sl (Rep.sl (Rep.pair Rep.bool (Rep.sl ri)))) (Rep.pair (Rep.sl (Rep.sl ri)) Rep.bool))))))) Z1 Z26 Z27 Z25∧SlR (Rep.pair ri (Rep.pair ri (Rep.pair ri (Rep.pair ri ri)))) Z1 Z31 Z32 Z30∧SlR (Rep.pair ri ri) Z1 Z34 Z35 Z33∧SlR ri Z1 Z37 Z38 Z36∧SlR ri Z1 Z40 Z41 Z39∧SlR (Rep.pair ri (Rep.pair ri (Rep.pair (Rep.sl (Rep.pair ri (Rep.pair (Rep.sl ri) (Rep.sl ri)))) (Rep.sl (Rep.pair ri (Rep.pair ri (Rep.pair ri (Rep.pair ri (Rep.pair ri (Rep.pair (Rep.sl ri) (Rep.pair (Rep.sl ri) ri))))))))))) Z1 Z43 Z44 Z42∧X8 x1 Z0 Z2 Z3 Z4 Z5 Z6 Z7 Z8 Z9 Z10 Z11 Z12 Z13 Z16 Z19 Z22 Z25 Z28 Z29 Z30 Z33 Z36 Z39 Z42=some r) [(1,_),(2,_),(4,_)] [] [] ⟨big,G,0,0,0,0,0,0,0,x0_0,x0_1,x0_2,x0_3,x0_4,a0_4,k0_4,x0_5,a0_5,k0_5,x0_6,a0_6,k0_6,x0_7,a0_7,k0_7,x0_8,a0_8,k0_8,x0_9,x0_10,x0_11,a0_11,k0_11,x0_12,a0_12,k0_12,x0_13,a0_13,k0_13,x0_14,a0_14,k0_14,x0_15,a0_15,k0_15,rfl,rfl,(HpLe.refl _),B0,s0_4,s0_5,s0_6,s0_7,s0_8,s0_11,s0_12,s0_13,s0_14,s0_15,h⟩ (fun y m hI hb45=>?_)
 obtain⟨n47,G48,v49,v50,v51,v52,v53,v54,v55,v56,v57,v58,v59,v60,a61,k62,v65,a66,k67,v68,a69,k70,v71,a72,k73,v74,a75,k76,v77,v78,v79,a80,k81,v82,a83,k84,v85,a86,k87,v88,a89,k90,v91,a92,k93,rfl,rfl,e94,B95,s96,s97,s98,s99,s100,s101,s102,s103,s104,s105,r106⟩:=hI;refine .gn 0 ?_;obtain⟨m107,rfl⟩:∃m,n47=m+1:=by cases n47 with |zero=>exact absurd (show(none:Option _)=some _ from r106) (by simp) |succ m=>exact⟨m,rfl⟩
 have r108:X2t x1 (X8 x1 m107) v49 v50 v51 v52 v53 v54 v55 v56 v57 v58 v59 v60 v65 v68 v71 v74 v77 v78 v79 v82 v85 v88 v91=some r:=r106;clear r106;unfold X2t at r108;try dsimp only at r108
 refine .go 7 ?_;refine .cH r108 (fun c109 r110=>?_) (fun c109 r111=>?_);refine .go 2 ?_;refine .block (.go 9 ?_);refine .kB (fun y=>∃(Z0 Z1 Z2 Z3 Z4 Z5 Z6 Z7 Z8 Z9 Z10 Z11 Z12:_),y=⟨[(7, .int .i64 Z0)],G48::Fs,[(b2, .cells #[.int .i64 Z1, .int .i64 Z2, .int .i64 Z3, .int .i64 Z4, .slice none 0 0, .slice none 0 0, .slice none 0 0, .slice none 0 0, .slice none 0 0, .int .i64 Z5, .int .i64 Z6, .slice none 0 0, .slice none 0 0, .slice none 0 0, .slice none 0 0, .slice none 0 0] 46 (0,0)),(b1, .cells #[.int .i64 Z7, .int .i64 Z8, .int .i64 Z9, .int .i64 Z10, .slice a61 v60.length k62, .slice a66 v65.length k67, .slice a69 v68.length k70, .slice a72 v71.length k73, .slice a75 v74.length k76, .int .i64 Z11, .int .i64 Z12, .slice a80 v79.length k81, .slice a83 v82.length k84, .slice a86 v85.length k87, .slice a89 v88.length k90, .slice a92 v91.length k93] 46 (0,0))],[]⟩∧(Xi (X8 x1 m107) v49 v60 v65 v68 v71 v74 v79 v82 v85 v88 v91) Z0 Z1 Z2 Z3 Z4 Z5 Z6 Z7 Z8 Z9 Z10 Z11 Z12=some r) [(6,_),(1,_),(2,_),(4,_)] [] [] [] [] ?_ ?_;rintro _ ⟨v112,v113,v115,v117,v118,v119,v120,v121,v122,v123,v124,v125,v126,rfl,r127⟩;refine .gn 0 ?_;unfold Xi at r127;try dsimp only at r127
 refine .block (.go 6 ?_);refine .cH r127 (fun c128 r129=>?_) (fun c128 r130=>?_);refine .go 1 ?_;refine .q .ro (.load_own_a 1 [_,_,_,_,_,_,_,_,_,_,_,_,_,_,_,_] rfl rfl ty46 rfl) rfl (.go 1 ?_);refine .q .ro (.build [_,_,_,_,_,_,_] [(0,_),(1,_)] ty63 pl63 rfl rfl) rfl ?_;obtain⟨u131,hu131,r132⟩:=X0 r129;have hl133:=Xc0 (G:=G48) (Fs:=G48::Fs) mcs s96 s97 s98 s99 s100 s101 s102 s103 s104 s105 (SlR.nil (Rp':=ri)) (SlR.nil (Rp':=(Rep.pair ri (Rep.sl ri)))) hu131
 refine .callW (b1:=[]) (b2:=[_,_]) (s1:=[]) [_,_] [] .ro rfl rfl Tryz.call10 rfl rfl hl133 rfl B95 (fun v134 bo so G135 e136 B137 h138=>?_);obtain⟨a139,k140,a141,k142,a143,k144,a145,k146,a147,k148,a149,k150,a151,k152,a153,k154,a155,k156,a157,k158,rfl,rfl,rfl,s159,s160,s161,s162,s163,s164,s165,s166,s167,s168⟩:=h138;refine .gn 3 ?_;refine .store 1 [_,_,_,_,_,_,_,_,_,_,_,_,_,_,_,_] [_,_] .ro rfl rfl rfl ty46 rfl rfl rfl rfl (.go 8 ?_);exact(hb45 _ _ ⟨m107,G135,(w64 (v49+1)),v113,v115,v117,v118,v119,v120,u131.1.1.1,u131.1.1.2.1,u131.1.1.2.2.1,u131.1.1.2.2.2,u131.1.2.1,a139,k140,u131.1.2.2.1,a141,k142,u131.1.2.2.2.1,a143,k144,u131.1.2.2.2.2.1,a145,k146,u131.1.2.2.2.2.2.1,a147,k148,u131.1.2.2.2.2.2.2.1.1,u131.1.2.2.2.2.2.2.1.2.1,u131.1.2.2.2.2.2.2.1.2.2,a149,k150,u131.1.2.2.2.2.2.2.2.1.1,a151,k152,u131.1.2.2.2.2.2.2.2.1.2,a153,k154,u131.1.2.2.2.2.2.2.2.2.1,a155,k156,u131.1.2.2.2.2.2.2.2.2.2,a157,k158,rfl,rfl,(HpLe.trans e94 e136),B137,s159,s160,s161,s162,s163,s164,s165,s166,s167,s168,r132⟩ (Nat.lt_succ_self _)).ar;refine .go 9 ?_;refine .cH r130 (fun c169 r170=>?_) (fun c169 r171=>?_);refine .go 1 ?_;refine .q .ro (.load_own_a 1 [_,_,_,_,_,_,_,_,_,_,_,_,_,_,_,_] rfl rfl ty46 rfl) rfl (.q .ro (.build [_,_,_,_,_,_,_] [(0,_)] ty63 pl63 rfl rfl) rfl ?_);obtain⟨u172,hu172,r173⟩:=X0 r170;have hl174:=Xc0 (G:=G48) (Fs:=G48::Fs) mcs s96 s97 s98 s99 s100 s101 s102 s103 s104 s105 (SlR.nil (Rp':=ri)) (SlR.nil (Rp':=(Rep.pair ri (Rep.sl ri)))) hu172
 refine .callW (b1:=[]) (b2:=[_,_]) (s1:=[]) [_,_] [] .ro rfl rfl Tryz.call10 rfl rfl hl174 rfl B95 (fun v175 bo so G176 e177 B178 h179=>?_);obtain⟨a180,k181,a182,k183,a184,k185,a186,k187,a188,k189,a190,k191,a192,k193,a194,k195,a196,k197,a198,k199,rfl,rfl,rfl,s200,s201,s202,s203,s204,s205,s206,s207,s208,s209⟩:=h179;refine .gn 3 ?_;refine .store 1 [_,_,_,_,_,_,_,_,_,_,_,_,_,_,_,_] [_,_] .ro rfl rfl rfl ty46 rfl rfl rfl rfl (.go 8 ?_);exact(hb45 _ _ ⟨m107,G176,(w64 (v49+1)),v113,v115,v117,v118,v119,v120,u172.1.1.1,u172.1.1.2.1,u172.1.1.2.2.1,u172.1.1.2.2.2,u172.1.2.1,a180,k181,u172.1.2.2.1,a182,k183,u172.1.2.2.2.1,a184,k185,u172.1.2.2.2.2.1,a186,k187,u172.1.2.2.2.2.2.1,a188,k189,u172.1.2.2.2.2.2.2.1.1,u172.1.2.2.2.2.2.2.1.2.1,u172.1.2.2.2.2.2.2.1.2.2,a190,k191,u172.1.2.2.2.2.2.2.2.1.1,a192,k193,u172.1.2.2.2.2.2.2.2.1.2,a194,k195,u172.1.2.2.2.2.2.2.2.2.1,a196,k197,u172.1.2.2.2.2.2.2.2.2.2,a198,k199,rfl,rfl,(HpLe.trans e94 e177),B178,s200,s201,s202,s203,s204,s205,s206,s207,s208,s209,r173⟩ (Nat.lt_succ_self _)).ar;refine .go 2 ?_;refine .q .ro (.load_own_a 1 [_,_,_,_,_,_,_,_,_,_,_,_,_,_,_,_] rfl rfl ty46 rfl) rfl (.go 1 ?_);refine .store 0 [_,_,_,_,_,_,_,_,_,_,_,_,_,_,_,_] [_,_] .ro rfl rfl rfl ty46 rfl rfl rfl rfl (.go 2 ?_);cases r171;refine .rW 2 [.cell 4 46, .tmp 5] [_,_] Tryz.func12 Tryz.results12 ⟨RV.cell_a 0 [_,_,_,_,_,_,_,_,_,_,_,_,_,_,_,_] rfl rfl ty46 rfl,RV.tmp rfl,trivial⟩ B95 hS0 (fun G' hg=>⟨a61,k62,a66,k67,a69,k70,a72,k73,a75,k76,a80,k81,a83,k84,a86,k87,a89,k90,a92,k93,rfl,rfl,rfl,(SlR.mono hg s96),(SlR.mono hg s97),(SlR.mono hg s98),(SlR.mono hg s99),(SlR.mono hg s100),(SlR.mono hg s101),(SlR.mono hg s102),(SlR.mono hg s103),(SlR.mono hg s104),(SlR.mono hg s105)⟩);intro hb210;refine .block ?_;refine .lp (fun y m=>∃(Z0:Nat)(Z1 Z2:_),y=⟨[(7, .int .i64 Z1),(8, .int .i64 Z2)],[],[],[]⟩∧Z0=m∧Xf (Xi (X8 x1 m107) v49 v60 v65 v68 v71 v74 v79 v82 v85 v88 v91) v50 v51 v52 v53 v54 v55 v56 v57 v58 v59 v68 v77 v78 Z0 Z1 Z2=some r) [(6,_),(1,_),(2,_),(4,_)] [_,_] [] ⟨big,0,0,rfl,rfl,r110⟩ (fun y m hI hb211=>?_);obtain⟨n212,v213,v214,rfl,rfl,r215⟩:=hI;refine .gn 0 ?_;obtain⟨m216,rfl⟩:∃m,n212=m+1:=by cases n212 with |zero=>exact absurd (show(none:Option _)=some _ from r215) (by simp) |succ m=>exact⟨m,rfl⟩
 have r217:Xr (Xi (X8 x1 m107) v49 v60 v65 v68 v71 v74 v79 v82 v85 v88 v91) v50 v51 v52 v53 v54 v55 v56 v57 v58 v59 v68 v77 v78 (Xf (Xi (X8 x1 m107) v49 v60 v65 v68 v71 v74 v79 v82 v85 v88 v91) v50 v51 v52 v53 v54 v55 v56 v57 v58 v59 v68 v77 v78 m216) v213 v214=some r:=r215;clear r215;unfold Xr at r217;try dsimp only at r217
 refine .go 9 ?_;refine .cH r217 (fun c218 r219=>?_) (fun c218 r220=>?_);refine .go 2 ?_;refine .block (.go 5 ?_);obtain⟨u221,h222,r223⟩:=X0 r219;refine .kR (fun y=>y=⟨[(30, .bool u221)],G48::Fs,[],[]⟩) [(7,_),(8,_),(6,_),(1,_),(2,_),(4,_)] [_,_] [0,1] [] [] 7 ?_ ?_;rintro _ rfl;refine .gn 1 ?_;obtain⟨u224,h225,r226⟩:=X0 r223;refine .kR (fun y=>y=⟨[(40, .bool u224)],G48::Fs,[],[]⟩) [(7,_),(8,_),(6,_),(1,_),(2,_),(4,_)] [_,_] [0,1] [] [] 9 ?_ ?_;rintro _ rfl;refine .gn 1 ?_;refine .cB r226 (fun c227 r228=>?_) (fun c227 r229=>?_);refine .go 11 ?_;exact(hb211 _ _ ⟨m216,(w64 (v214+1)),(w64 (v214+1)),rfl,rfl,r228⟩ (Nat.lt_succ_self _)).ar;refine .go 7 ?_;exact(hb211 _ _ ⟨m216,v213,(w64 (v214+1)),rfl,rfl,r229⟩ (Nat.lt_succ_self _)).ar;intro hb230;refine .split_b 31 rfl (fun c231=>?_) (fun c231=>?_);have r232:=ifT h225 c231
 refine .go 7 ?_;obtain⟨u233,hu233,r234⟩:=X0 r232;obtain⟨c235,p236,h237⟩:=SlR.get s98 hu233;obtain⟨_,_,rfl,rfl,_,_,rfl,⟨_,_,rfl,rfl,_,_,rfl,rfl,_,_,rfl,rfl,rfl⟩,_,_,rfl,rfl,_,_,rfl,⟨a238,k239,rfl,s240⟩,a241,k242,rfl,s243⟩:=h237;refine .q .ro (.idxR s98 rfl rfl hu233 sl32 ty116.sz) rfl (.go 1 ?_);refine .q .ro (.fieldAddr_rp p236 rfl Xhf ty114.sz) rfl (.go 1 ?_);refine .q .ro (.load_rp (p236.add _) mcs rfl ty114 rfl) rfl (.go 5 ?_);exact(hb230 _ rfl).ax ⟨sval r234,rfl,rfl,rfl,rfl,rfl,rfl,trivial⟩;have r244:=ifBF h225 c231
 refine .go 9 ?_;exact(hb230 _ rfl).ax ⟨sval r244,rfl,rfl,rfl,rfl,rfl,rfl,trivial⟩;intro hb245;refine .split 23 rfl (fun c246=>?_) (fun c246=>?_);have r247:=ifT h222 c246
 refine .go 7 ?_;obtain⟨u248,hu248,r249⟩:=X0 r247;obtain⟨c250,p251,h252⟩:=SlR.get s98 hu248;obtain⟨_,_,rfl,rfl,_,_,rfl,⟨_,_,rfl,rfl,_,_,rfl,rfl,_,_,rfl,rfl,rfl⟩,_,_,rfl,rfl,_,_,rfl,⟨a253,k254,rfl,s255⟩,a256,k257,rfl,s258⟩:=h252;refine .q .ro (.idxR s98 rfl rfl hu248 sl32 ty116.sz) rfl (.go 1 ?_);refine .q .ro (.fieldAddr_rp p251 rfl Xhe ty4.sz) rfl (.go 1 ?_);refine .q .ro (.load_rp (p251.add _) mcs rfl ty4 rfl) rfl (.go 1 ?_);exact(hb245 _ rfl).ax ⟨sval r249,rfl,rfl,rfl,rfl,rfl,rfl,trivial⟩;have r259:=ifF h222 c246
 refine .go 7 ?_;exact(hb245 _ rfl).ax ⟨sval r259,rfl,rfl,rfl,rfl,rfl,rfl,trivial⟩;refine .exit rfl ?_;exact(hb210 _ ⟨v213,v50,v51,v52,v53,v54,v55,v56,v57,v58,v59,v77,v78,rfl,r220⟩).ar;cases r111
end Go.Proofs.YtnfalgmfmiolbaaGreat
end

section
set_option maxHeartbeats 4000000
set_option maxRecDepth 100000
namespace Go.Proofs.YtnfalgmfmiolbaaGreat
open Go.RowKit
set_option linter.unusedSimpArgs false
set_option linter.unusedVariables false
set_option synthInstance.maxSize 2000
set_option synthInstance.maxHeartbeats 400000
variable{Fs:Da}{G:Hp}{a0:Ax}{k0:Nat}
theorem Xaq{x0:Ab}{r:Bool}(hG:G∈Fs)(s0:SlR (Rep.int .u8) G a0 k0 x0)(h:X3b x0=some r):RetS Tryz.prog 3 #[.slice a0 x0.length k0] Fs [] [] (rv (.bool r)):=by
 unfold X3b at h;try dsimp only at h
 refine RetS.st [(0,_)] Tryz.func3 Tryz.ntmps3 hG fun w0 S0 hS0 B0=>?_;refine .go 7 ?_;obtain⟨u1,hu1,r2⟩:=X0 h;refine .cV [] Tryz.call5 (Xf8 mcs hu1) ?_;refine .go 2 ?_;refine .cB r2 (fun c5 r6=>?_) (fun c5 r7=>?_);cases r6;refine .go 4 ?_;obtain⟨u8,hu8,r9⟩:=X0 r7;refine .cS [_] Tryz.call6 (Xgv mcs s0 hu8) (fun v11 bo so h10=>?_);obtain⟨a13,k14,b12,rfl,rfl,rfl,s15⟩:=h10;refine .gn 5 ?_;obtain⟨u16,hu16,r17⟩:=X0 r9;refine .callW (b1:=[_]) (b2:=[]) (s1:=[]) [_,_] [] .ro rfl rfl Tryz.call7 rfl rfl (Xbz mcs s15 hu16) rfl B0 (fun v19 bo so G20 e21 B22 h18=>?_);obtain⟨a24,k25,a27,k28,a30,k31,a33,k34,a36,k37,a39,k40,a42,k43,a45,k46,a48,k49,a51,k52,a54,k55,rfl,rfl,rfl,s26,s29,s32,s35,s38,s41,s44,s47,s50,s53,s56⟩:=h18;refine .gn 0 ?_;refine .alloc .ro ty46 rfl (fun b57 hb57=>?_);refine .store 0 [_,_,_,_,_,_,_,_,_,_,_,_,_,_,_,_] [_,_] .ro rfl rfl rfl ty46 rfl rfl rfl rfl (.go 4 ?_);refine .q .ro (.load_own_a 0 [_] rfl rfl ty31 rfl) rfl ?_;obtain⟨u58,hu58,r59⟩:=X0 r17;refine .cS [_] Tryz.call8 (Xb6 mcs s29 hu58) (fun v61 bo so h60=>?_);obtain⟨a62,k63,rfl,rfl,rfl,s64⟩:=h60;refine .gn 3 ?_;refine .alloc .ro ty52 rfl (fun b65 hb65=>?_);refine .store 0 [_,_,_,_] [_,_,_] .ro rfl rfl rfl ty52 rfl rfl rfl rfl (.go 8 ?_);obtain⟨u66,hu66,r67⟩:=X0 r59;refine .pull 2 rfl [_,_,_] rfl ?_;refine .callS (b1:=[_]) (b2:=[_,_]) (s1:=[]) [_,_] [] .ro rfl rfl Tryz.call9 rfl rfl (Xcd mcs s56 hu66) rfl (fun v69 bo so h68=>?_);obtain⟨a75,k76,a71,k72,cs73,rfl,rfl,rfl,s77,o74⟩:=h68;refine .gn 4 ?_;refine .q .ro (.load_own_a 2 [_,_,_,_,_,_,_,_,_,_,_,_,_,_,_,_] rfl rfl ty46 rfl) rfl (.go 1 ?_);refine .q .ro (.build [_,_,_,_,_,_,_] [(0,_),(2,_)] ty63 pl63 rfl rfl) rfl ?_;refine .freezeR 0 rfl rfl o74 [] rfl B22 (fun G78 e79 B80 s81=>?_);obtain⟨u83,hu83,r84⟩:=X0 r67;have hl85:=Xc0 (G:=G78) (Fs:=G78::Fs) mcs (SlR.mono e79 s26) (SlR.mono e79 s29) (SlR.mono e79 s32) (SlR.mono e79 s35) (SlR.mono e79 s38) (SlR.mono e79 s41) (SlR.mono e79 s44) (SlR.mono e79 s47) (SlR.mono e79 s50) (SlR.mono e79 s53) s81 (SlR.nil (Rp':=(Rep.pair ri (Rep.sl ri)))) hu83
 refine .callW (b1:=[]) (b2:=[_,_,_]) (s1:=[]) [_,_] [] .ro rfl rfl Tryz.call10 rfl rfl hl85 rfl B80 (fun v87 bo so G88 e89 B90 h86=>?_);obtain⟨a92,k93,a95,k96,a98,k99,a23,k70,a82,k91,a100,k101,a102,k103,a104,k105,a106,k107,a108,k109,rfl,rfl,rfl,s94,s97,s110,s111,s112,s113,s114,s115,s116,s117⟩:=h86;refine .gn 3 ?_;refine .store 2 [_,_,_,_,_,_,_,_,_,_,_,_,_,_,_,_] [_,_,_] .ro rfl rfl rfl ty46 rfl rfl rfl rfl (.go 5 ?_);refine .q .ro (.load_own_a 2 [_,_,_,_] rfl rfl ty27 rfl) rfl (.go 1 ?_);refine .q .ro (.load_own_a 1 [_] rfl rfl ty49 rfl) rfl (.go 5 ?_);obtain⟨u118,hu118,r119⟩:=X0 r84;refine .cV [_,_,_,_] Tryz.call11 (Xb2 mcs hu118) ?_;refine .go 8 ?_;refine .q .ro (.load_own_a 2 [_,_,_,_,_,_,_,_,_,_,_,_,_,_,_,_] rfl rfl ty46 rfl) rfl ?_;obtain⟨u120,hu120,r121⟩:=X0 r119;refine .cW [_,_] Tryz.call12 (Xdj mcs s94 s97 s110 s111 s112 s113 s114 s115 s116 s117 hu120) B90 (fun v122 bo so G123 e124 B125 h126=>?_);obtain⟨a127,k128,a129,k130,a131,k132,a133,k134,a135,k136,a137,k138,a139,k140,a141,k142,a143,k144,a145,k146,rfl,rfl,rfl,s147,s148,s149,s150,s151,s152,s153,s154,s155,s156⟩:=h126;refine .gn 3 ?_;refine .alloc .ro ty46 rfl (fun b157 hb157=>?_);refine .store 0 [_,_,_,_,_,_,_,_,_,_,_,_,_,_,_,_] [_,_,_,_] .ro rfl rfl rfl ty46 rfl rfl rfl rfl (.go 4 ?_);refine .drawL (.q 0 (.q 1 (.q 2 (.q 3 (.q 4 (.q 5 (.q 6 (.q 7 (.q 8 (.q 9 (.q 10 (.q 11 (.q 12 (.q 13 (.q 14 (.q 15 (.q 16 (.q 17 (.q 18 (.q 19 (.q 20 (.q 21 (.q 22 (.e 23 1 (.q 24 (.q 25 .nil)))))))))))))))))))))))))) [_,_,_,_] (by kernel_rfl) (by kernel_rfl) (X1 [0,1,2,3] rfl) (.go 3 ?_);refine .kD (fun y=>y=⟨[(60, .bool (decide ((u83.2≠0)∨(u118.2≠0))))],G123::Fs,[],[]⟩) [(4,_),(5,_),(7,_),(9,_),(11,_),(12,_)] [_,_,_,_] [0,1,2,3] [] [] 3 ?_ ?_;rintro _ rfl;refine .gn 1 ?_;refine .kD (fun y=>y=⟨[(67, .bool (decide (((u83.2≠0)∨(u118.2≠0))∨(u83.1.2.2.2.2.2.2.1.2.1≠u118.1))))],G123::Fs,[],[]⟩) [(4,_),(5,_),(7,_),(11,_),(12,_)] [_,_,_,_] [0,1,2,3] [] [] 6 ?_ ?_;rintro _ rfl;refine .gn 1 ?_;obtain⟨u158,h159,r160⟩:=X0 r121;refine .kD (fun y=>y=⟨[(80, .bool u158)],G123::Fs,[],[]⟩) [(4,_),(5,_),(7,_),(11,_),(12,_)] [_,_,_,_] [0,1,2,3] [] [] 12 ?_ ?_;rintro _ rfl;refine .gn 1 ?_;refine .cB r160 (fun c161 r162=>?_) (fun c161 r163=>?_);cases r162;refine .go 5 ?_;refine .q .ro (.load_own_a 3 [_,_,_,_] rfl rfl ty27 rfl) rfl (.go 4 ?_);obtain⟨u164,hu164,r165⟩:=X0 r163;refine .cV [_,_,_] Tryz.call14 (Xb5 mcs hu164) ?_;refine .go 2 ?_;refine .kR (fun y=>y=⟨[(96, .bool (decide ((u120.2=u164)∧((u120.1.2.2.2.2.1.length:Int)=0))))],G123::Fs,[],[]⟩) [] [_,_,_,_] [0,1,2,3] [] [] 6 ?_ ?_;rintro _ rfl;refine .gn 2 ?_;cases r165;refine .drop 4 0 [] _ rfl rfl ?_
 refine .rS [.tmp 2] [_] Tryz.func3 Tryz.results3 ⟨rfl,rfl,rfl⟩;intro hb166;refine .split 90 rfl (fun c167=>?_) (fun c167=>?_);refine .go 11 ?_;exact(hb166 _ rfl).ax ⟨X2l c167,trivial⟩;refine .go 6 ?_;exact(hb166 _ rfl).ax ⟨X2m c167,trivial⟩;intro hb168;refine .split 68 rfl (fun c169=>?_) (fun c169=>?_);have r170:=ifT h159 c169
 refine .dgq_off rfl rfl rfl (.dgq_off rfl rfl rfl (.dgq_off rfl rfl rfl (.dgq_off rfl rfl rfl (.dgq_off rfl rfl rfl (.dgq_off rfl rfl rfl (.dgq_off rfl rfl rfl (.dgq_off rfl rfl rfl (.dgq_off rfl rfl rfl (.dge_offL rfl rfl rfl (HpLe.refl _) (X1 [0,1,2,3] rfl) (.dgq_off rfl rfl rfl (.go 1 ?_)))))))))));exact(hb168 _ rfl).ax ⟨sval r170,rfl,rfl,rfl,rfl,rfl,trivial⟩;have r171:=ifF h159 c169
 refine .dgq_on rfl (.go 1 ?_);refine .dgq_on rfl (.go 1 ?_);refine .dgq_on rfl (.go 1 ?_);refine .dgq_on rfl (.go 1 ?_);refine .dgq_on rfl (.go 1 ?_);refine .dgq_on rfl (.go 1 ?_);refine .dgq_on rfl (.dq (.load_own_a 3 [_,_,_,_] rfl rfl ty27 rfl) rfl (.dgq_on rfl (.go 1 ?_)));refine .dgq_on rfl (.go 1 ?_);refine .dge_on rfl ?_;obtain⟨u172,hu172,r173⟩:=X0 r171;refine .cVd [_,_] Tryz.call13 (X9f mcs hu172) ?_;refine .clsL (HpLe.refl _) (X1 [0,1,2,3] rfl) (.dgq_on rfl (.go 2 ?_));exact(hb168 _ rfl).ax ⟨sval r173,rfl,rfl,rfl,rfl,rfl,trivial⟩;intro hb174;refine .split 61 rfl (fun c175=>?_) (fun c175=>?_);refine .dgq_off rfl rfl rfl ?_;refine .dgq_off rfl rfl rfl (.dgq_off rfl rfl rfl (.dgq_off rfl rfl rfl (.dgq_off rfl rfl rfl (.go 1 ?_))));exact(hb174 _ rfl).ax ⟨X6 c175,rfl,rfl,rfl,rfl,rfl,trivial⟩;refine .dgq_on rfl ?_;refine .go 1 ?_;refine .dgq_on rfl (.go 1 ?_);refine .dgq_on rfl (.go 1 ?_);refine .dgq_on rfl (.go 1 ?_);refine .dgq_on rfl (.go 2 ?_);exact(hb174 _ rfl).ax ⟨X7 c175,rfl,rfl,rfl,rfl,rfl,trivial⟩;intro hb176;refine .split 57 rfl (fun c177=>?_) (fun c177=>?_);refine .dgq_off rfl rfl rfl ?_;refine .dgq_off rfl rfl rfl (.go 1 ?_);exact(hb176 _ rfl).ax ⟨X6 c177,rfl,rfl,rfl,rfl,rfl,rfl,trivial⟩;refine .dgq_on rfl ?_;refine .go 1 ?_;refine .dgq_on rfl (.go 2 ?_);exact(hb176 _ rfl).ax ⟨X7 c177,rfl,rfl,rfl,rfl,rfl,rfl,trivial⟩
end Go.Proofs.YtnfalgmfmiolbaaGreat
end

section
namespace Go.Proofs.YtnfalgmfmiolbaaGreat.Alg
set_option linter.unusedVariables false
def Cg(p a b:Int):Prop:=∃k,a-b=p*k
section
variable{p a b c d x y:Int}
theorem Cg.refl(p a:Int):Cg p a a:=⟨0,by simp⟩
theorem Cg.of(h:a=b):Cg p a b:=h▸Cg.refl p a
theorem Cg.symm(h:Cg p a b):Cg p b a:=by obtain⟨k,h⟩:=h;exact⟨-k,by rw[Int.mul_neg];omega⟩
theorem Cg.trans(h:Cg p a b)(k:Cg p b c):Cg p a c:=by obtain⟨i,h⟩:=h;obtain⟨j,k⟩:=k;exact⟨i+j,by rw[Int.mul_add];omega⟩
theorem Cg.add(h:Cg p a b)(k:Cg p c d):Cg p (a+c) (b+d):=by obtain⟨i,h⟩:=h;obtain⟨j,k⟩:=k;exact⟨i+j,by rw[Int.mul_add];omega⟩
theorem Cg.sub(h:Cg p a b)(k:Cg p c d):Cg p (a-c) (b-d):=by obtain⟨i,h⟩:=h;obtain⟨j,k⟩:=k;exact⟨i-j,by rw[Int.mul_sub];omega⟩
theorem Cg.mul(h:Cg p a b)(k:Cg p c d):Cg p (a*c) (b*d):=by
 obtain⟨i,h⟩:=h;obtain⟨j,k⟩:=k
 refine⟨i*c+b*j,?_⟩
 have e1:a*c-b*d=(a-b)*c+b*(c-d):=by rw[Int.sub_mul,Int.mul_sub];omega
 rw[e1,h,k,Int.mul_add,Int.mul_assoc,Int.mul_left_comm b p j]
theorem Cg.emod(p a:Int):Cg p (a%p) a:=⟨-(a/p),by have:=Int.emod_add_mul_ediv a p;rw[Int.mul_neg];omega⟩
theorem Cg.tmod(p a:Int):Cg p (Int.tmod a p) a:=⟨-(Int.tdiv a p),by have:=Int.tmod_add_mul_tdiv a p;rw[Int.mul_neg];omega⟩
theorem Cg.p0(p a:Int):Cg p (p*a) 0:=⟨a,by omega⟩
theorem Cg.small(h:Cg p a 0)(h0:0≤a)(h1:a<p):a=0:=by
 obtain⟨k,h⟩:=h
 have hp:0<p:=by omega
 have:k=0:=by
  rcases Int.lt_trichotomy k 0 with hk |hk |hk
  ·have:=Int.mul_le_mul_of_nonneg_left (show k≤ -1 by omega) (Int.le_of_lt hp)
   omega
  ·exact hk
  ·have:=Int.mul_le_mul_of_nonneg_left (show 1≤k by omega) (Int.le_of_lt hp)
   omega
 subst this;omega
theorem Cg.eq(h:Cg p a b)(ha:0≤a)(ha':a<p)(hb:0≤b)(hb':b<p):a=b:=by
 rcases Int.le_total b a with hh |hh
 ·have h2:Cg p (a-b) 0:=by obtain⟨k,h⟩:=h;exact⟨k,by omega⟩
  have:=h2.small (by omega) (by omega);omega
 ·have h2:Cg p (b-a) 0:=by obtain⟨k,h⟩:=h.symm;exact⟨k,by omega⟩
  have:=h2.small (by omega) (by omega);omega
theorem Cg.dvd_iff:Cg p a 0↔p ∣ a:=⟨fun⟨k,h⟩=>⟨k,by omega⟩,fun⟨k,h⟩=>⟨k,by omega⟩⟩
end
structure Pr(p:Int):Prop where
 two:2≤p
 dom:∀{a b:Int},Cg p (a*b) 0→Cg p a 0∨Cg p b 0
theorem Pr.one{p:Int}(h:Pr p):¬Cg p 1 0:=fun hc=>by have:=hc.small (by omega) (by have:=h.two;omega);omega
def noDiv(n:Nat):Prop:=∀d,2≤d→d*d≤n→n%d≠0
theorem Xep{n:Nat}(h2:2≤n)(h:noDiv n){a:Nat}(ha:¬n ∣ a):Nat.Coprime n a:=by
 have hg:=Nat.gcd_dvd_left n a
 have hg2:=Nat.gcd_dvd_right n a
 show Nat.gcd n a=1
 generalize Nat.gcd n a=g at hg hg2
 obtain⟨k,hk⟩:=hg
 have hg0:g≠0:=by rintro rfl;simp at hk;omega
 have hk0:k≠0:=by rintro rfl;simp at hk;omega
 have hgn:g≠n:=by rintro rfl;exact ha hg2
 have hk1:k≠1:=by rintro rfl;rw[Nat.mul_one] at hk;exact hgn hk.symm
 apply Classical.byContradiction
 intro hg1
 rcases Nat.le_total g k with hle |hle
 ·have h3:g*g≤n:=by rw[hk];exact Nat.mul_le_mul_left g hle
  exact h g (by omega) h3 (by rw[hk];exact Nat.mul_mod_right g k)
 ·have h3:k*k≤n:=by rw[hk];exact Nat.mul_le_mul_right k hle
  exact h k (by omega) h3 (by rw[hk];exact Nat.mul_mod_left g k)
theorem Pr.of{n:Nat}(h2:2≤n)(h:noDiv n):Pr (n:Int):=⟨by omega,fun {a b} hc=>by
 rw[Cg.dvd_iff] at hc
 rw[Cg.dvd_iff,Cg.dvd_iff]
 by_cases ha:(n:Int) ∣ a
 ·exact .inl ha
 ·refine .inr ?_
  have ha':¬n ∣ a.natAbs:=fun hd=>ha (by exact Int.ofNat_dvd_left.2 hd)
  have hcop:=Xep h2 h ha'
  rw[Int.ofNat_dvd_left,Int.natAbs_mul] at hc
  rw[Int.ofNat_dvd_left]
  exact hcop.dvd_of_dvd_mul_left hc⟩
def pv:List Int→Int→Int
 | [],_=>0
 |c::l,x=>pv l x*x+c
def gd(l:List Int)(i:Nat):Int:=l.getD i 0
theorem Xeq{l:List Int}{i:Nat}(h:l.length≤i):gd l i=0:=by simp [gd,List.getD_eq_getElem?_getD,List.getElem?_eq_none h]
theorem Xjd{l:List Int}{i:Nat}(h:i<l.length):gd l i∈l:=by
 simp only [gd,List.getD_eq_getElem?_getD,List.getElem?_eq_getElem h,Option.getD_some];exact List.getElem_mem h
def Z0(p:Int)(l:List Int):Prop:=∀i,Cg p (gd l i) 0
theorem Z0.cons{p c:Int}{l:List Int}:Z0 p (c::l)↔Cg p c 0∧Z0 p l:=
 ⟨fun h=>⟨h 0,fun i=>h (i+1)⟩,fun h i=>by cases i with |zero=>exact h.1 |succ i=>exact h.2 i⟩
theorem Z0.nil{p:Int}:Z0 p []:=fun i=>Cg.refl p 0
theorem Z0.pv{p:Int}:∀{l:List Int},Z0 p l→∀x,Cg p (pv l x) 0
 | [],_,_=>Cg.refl _ _
 |c::l,h,x=>by
  have:=((Z0.pv (Z0.cons.1 h).2 x).mul (Cg.refl p x)).add (Z0.cons.1 h).1
  simpa [Proofs.YtnfalgmfmiolbaaGreat.Alg.pv] using this
end Go.Proofs.YtnfalgmfmiolbaaGreat.Alg
end

section
namespace Go.Proofs.YtnfalgmfmiolbaaGreat.Alg
set_option linter.unusedVariables false
def sm:Nat→(Nat→Int)→Int
 |0,_=>0
 |n+1,f=>sm n f+f n
theorem Xgh{p:Int}:∀{n:Nat}{f g:Nat→Int},(∀i,i<n→Cg p (f i) (g i))→Cg p (sm n f) (sm n g)
 |0,_,_,_=>Cg.refl _ _
 |n+1,f,g,h=>(Xgh fun i hi=>h i (by omega)).add (h n (by omega))
theorem Xn2:∀{n:Nat}{f g:Nat→Int},(∀i,i<n→f i=g i)→sm n f=sm n g
 |0,_,_,_=>rfl
 |n+1,f,g,h=>by simp only [sm];rw[Xn2 fun i hi=>h i (by omega),h n (by omega)]
theorem Xhk:∀n,sm n (fun _=>0)=0
 |0=>rfl
 |n+1=>by simp only [sm];rw[Xhk n];rfl
theorem Xgi(f:Nat→Int)(a:Nat):∀b,sm (a+b) f=sm a f+sm b (fun j=>f (a+j))
 |0=>by simp [sm]
 |b+1=>by rw[← Nat.add_assoc];simp only [sm];rw[Xgi f a b];omega
theorem Xlj{p:Int}{f:Nat→Int}{n:Nat}(h:∀i,i<n→Cg p (f i) 0):Cg p (sm n f) 0:=by
 have:=Xgh (g:=fun _=>0) h
 rwa [Xhk] at this
def SolM(p:Int)(n m:Nat)(M:Nat→Nat→Int)(z:Nat→Int):Prop:=∀i,i<n→Cg p (sm m (fun j=>M i j*z j)) 0
structure GI(p:Int)(n m:Nat)(M0 M:Nat→Nat→Int)(k r:Nat)(L:Nat→Nat):Prop where
 rn:r≤n
 sol:∀z,SolM p n m M z↔SolM p n m M0 z
 low:∀i,r≤i→i<n→∀j,j<k→Cg p (M i j) 0
 led:∀j,j<k→L j≠0→L j≤r∧∀i,i<n→Cg p (M i j) (if i+1=L j then 1 else 0)
 inj:∀j j',j<k→j'<k→L j≠0→L j=L j'→j=j'
 sur:∀i,i<r→∃j,j<k∧L j=i+1
section
variable{p:Int}{n m k r:Nat}{M0 M M':Nat→Nat→Int}{L L':Nat→Nat}
theorem GI.skip(h:GI p n m M0 M k r L)(h0:∀i,r≤i→i<n→Cg p (M i k) 0)(hL:∀j,j<k→L' j=L j)(hk:L' k=0):GI p n m M0 M (k+1) r L':=by
 have cs:∀j,j<k+1→j=k∨j<k:=fun j hj=>by omega
 refine⟨h.rn,h.sol,fun i hi hn j hj=>?_,fun j hj hne=>?_,fun j j' hj hj' hne he=>?_,fun i hi=>?_⟩
 ·rcases cs j hj with rfl |hj
  ·exact h0 i hi hn
  ·exact h.low i hi hn j hj
 ·rcases cs j hj with rfl |hj
  ·exact absurd hk hne
  ·rw[hL j hj] at hne ⊢;exact h.led j hj hne
 ·rcases cs j hj with rfl |hj
  ·exact absurd hk hne
  ·rcases cs j' hj' with rfl |hj'
   ·rw[hk] at he;exact absurd he hne
   ·rw[hL j hj] at hne he;rw[hL j' hj'] at he;exact h.inj j j' hj hj' hne he
 ·obtain⟨j,hj,he⟩:=h.sur i hi
  exact⟨j,by omega,by rw[hL j hj];exact he⟩
theorem GI.right{c:Nat}(h:GI p n (c+1) M0 M c r L){x:Nat→Int}(hx:SolM p n (c+1) M0 x)(h1:x c= -1):∀i,r≤i→i<n→Cg p (M i c) 0:=fun i hi hn=>by
 have:=(h.sol x).2 hx i hn
 simp only [sm] at this
 have h0:Cg p (sm c (fun j=>M i j*x j)) 0:=Xlj fun j hj=>by
  have:=(h.low i hi hn j hj).mul (Cg.refl p (x j))
  rwa [Int.zero_mul] at this
 rw[h1] at this
 have h2:=(h0.sub this)
 exact(Cg.of (by omega)).trans h2
end
end Go.Proofs.YtnfalgmfmiolbaaGreat.Alg
end

section
namespace Go.Proofs.YtnfalgmfmiolbaaGreat.Alg
set_option linter.unusedVariables false
theorem Xer(x:Int):∀m,pv (List.replicate m 0) x=0
 |0=>rfl
 |m+1=>by simp only [List.replicate_succ,pv,Xer x m];simp
def keyRow(k v:Nat)(q:Int×Int)(j:Nat):Int:=if j<k+v then q.1 ^ j else if j<k+v+v then -(q.2*q.1 ^ (j-(k+v))) else q.2*q.1 ^ v
end Go.Proofs.YtnfalgmfmiolbaaGreat.Alg
end

section
namespace Go.Proofs.YtnfalgmfmiolbaaGreat
theorem Xhl{y:Int}(h:y≠0):nz y=some ():=by unfold nz;rw[if_neg h]
theorem Xg2{α:Type}{l:List α}{i:Int}(d:α)(h0:0≤i)(h1:i<l.length):lidx l i=some (l.getD i.toNat d):=by
 refine Xh9 h0 ?_
 rw[List.getD_eq_getElem?_getD]
 have:i.toNat<l.length:=by omega
 simp [this]
theorem Xaw{α:Type}{l:List α}{i:Nat}(d:α)(h1:i<l.length):lidx l (i:Int)=some (l.getD i d):=by
 rw[Xg2 d (by omega) (by omega),Int.toNat_natCast]
theorem X2{α:Type}{l m:List α}(h:l.length+m.length≤16777216):lapp l m=some (l++m):=by unfold lapp;rw[if_pos h]
theorem X3t{α:Type}{l:List α}{i j:Int}(h0:0≤i)(h1:i≤j)(h2:j≤l.length):lsub l i j=some ((l.drop i.toNat).take (j-i).toNat):=by unfold lsub;rw[if_pos ⟨h0,h1,h2⟩]
theorem Xhm{α:Type}{l:List α}{i:Int}{y:α}(h0:0≤i)(h1:i<l.length):lupd l i y=some (l.set i.toNat y):=by unfold lupd;rw[if_pos ⟨h0,h1⟩]
end Go.Proofs.YtnfalgmfmiolbaaGreat
end

section
namespace Go.Proofs.YtnfalgmfmiolbaaGreat.Hh
set_option linter.unusedVariables false
open Alg (Cg Pr)
open Alg (Cg Pr)
def Fd(p:Int):Prop:=p=2∨p=3∨p=5∨p=7∨p=11∨p=13∨p=17∨p=257∨p=65521
theorem Fd.rng{p:Int}(h:Fd p):2≤p∧p≤65521:=by unfold Fd at h;omega
def E1(p a:Int):Prop:=0≤a∧a<p
instance (p a:Int):Decidable (E1 p a):=inferInstanceAs (Decidable (0≤a∧a<p))
def El(p:Int)(l:List Int):Prop:=∀x∈l,E1 p x
instance (p:Int) (l:List Int):Decidable (El p l):=inferInstanceAs (Decidable (∀x∈l,E1 p x))
theorem El.nil{p:Int}:El p []:=fun x h=>by cases h
theorem El.cons{p a:Int}{l:List Int}:El p (a::l)↔E1 p a∧El p l:=by unfold El;simp
theorem El.app{p:Int}{l m:List Int}(h:El p l)(h2:El p m):El p (l++m):=fun x hx=>(List.mem_append.1 hx).elim (h x) (h2 x)
theorem E1.emod{p:Int}(hp:2≤p)(a:Int):E1 p (a%p):=⟨Int.emod_nonneg _ (by omega),Int.emod_lt_of_pos _ (by omega)⟩
theorem El.gd{p:Int}(hp:2≤p){l:List Int}(h:El p l)(i:Nat):E1 p (Alg.gd l i):=by
 rcases Nat.lt_or_ge i l.length with hi |hi
 ·exact h _ (Alg.Xjd hi)
 ·rw[Alg.Xeq hi];exact⟨by omega,by omega⟩
section
variable{p:Int}(hp:2≤p∧p≤65521)
include hp
theorem nzp:nz p=some ():=by unfold nz;rw[if_neg (by omega)]
theorem Xhn{a b:Int}(ha:E1 p a)(hb:E1 p b):0≤a*b∧a*b≤4293001441:=by
 refine⟨Int.mul_nonneg ha.1 hb.1,?_⟩
 have h1:a*b≤65521*b:=Int.mul_le_mul_of_nonneg_right (by have:=ha.2;omega) hb.1
 have:=hb.2
 omega
end
def at_(p x:Int)(t l:List Int):List Int:=List.zipWith (fun a b=>(a+x*b%p)%p) t l
theorem Xc9{p x:Int}{t l:List Int}(h:t.length=l.length):(at_ p x t l).length=t.length:=by simp [at_,h]
theorem Xlk{p x:Int}(hp:2≤p)(t l:List Int):El p (at_ p x t l):=fun y hy=>by
 unfold at_ at hy
 obtain⟨i,hi,rfl⟩:=List.getElem_of_mem hy
 rw[List.getElem_zipWith]
 exact E1.emod hp _
theorem Xn3{p x:Int}{t l:List Int}(h:t.length=l.length)(i:Nat):Cg p (Alg.gd (at_ p x t l) i) (Alg.gd t i+x*Alg.gd l i):=by
 rcases Nat.lt_or_ge i t.length with hi |hi
 ·have hi2:i<l.length:=by omega
  have e:Alg.gd (at_ p x t l) i=(t[i]+x*l[i]%p)%p:=by
   simp [Alg.gd,at_,List.getD_eq_getElem?_getD,List.getElem?_zipWith,hi,hi2]
  rw[e,show Alg.gd t i=t[i] by simp [Alg.gd,List.getD_eq_getElem?_getD,hi],show Alg.gd l i=l[i] by simp [Alg.gd,List.getD_eq_getElem?_getD,hi2]]
  exact(Cg.emod p _).trans ((Cg.refl p _).add (Cg.emod p _))
 ·rw[Alg.Xeq (l:=at_ p x t l) (by rw[Xc9 h];exact hi),Alg.Xeq hi,Alg.Xeq (by omega:l.length≤i)]
  exact Cg.of (by simp)
def Rw(p:Int)(w:Nat)(R:List (List Int)):Prop:=∀r∈R,r.length=w∧El p r
theorem Rw.cons{p:Int}{w:Nat}{r:List Int}{R:List (List Int)}:Rw p w (r::R)↔(r.length=w∧El p r)∧Rw p w R:=by unfold Rw;simp
def gr(R:List (List Int))(i:Nat):List Int:=R.getD i []
def comb(p:Int):List Int→List (List Int)→List Int→List Int
 |_,[],t=>t
 |c,r::R,t=>comb p c.tail R (at_ p (Alg.gd c 0) t r)
theorem Xho{p:Int}(hp:2≤p){w:Nat}:∀(R:List (List Int))(c t:List Int),Rw p w R→t.length=w→El p t→
  (comb p c R t).length=w∧El p (comb p c R t)∧∀j,Cg p (Alg.gd (comb p c R t) j) (Alg.gd t j+Alg.sm R.length (fun i=>Alg.gd c i*Alg.gd (gr R i) j))
 | [],c,t,_,h2,h3=>⟨h2,h3,fun j=>Cg.of (by simp [comb,Alg.sm])⟩
 |r::R,c,t,h1,h2,h3=>by
  obtain⟨⟨a,b⟩,h1⟩:=Rw.cons.1 h1
  obtain⟨i1,i2,i3⟩:=Xho hp (w:=w) R c.tail (at_ p (Alg.gd c 0) t r) h1 (by rw[Xc9 (by omega)];exact h2) (Xlk hp _ _)
  refine⟨i1,i2,fun j=>(i3 j).trans ?_⟩
  have e:=Alg.Xgi (fun i=>Alg.gd c i*Alg.gd (gr (r::R) i) j) 1 R.length
  rw[show(r::R).length=1+R.length by simp;omega,e]
  have e2:Alg.sm 1 (fun i=>Alg.gd c i*Alg.gd (gr (r::R) i) j)=Alg.gd c 0*Alg.gd r j:=by simp [Alg.sm,gr]
  have e3:(fun i=>Alg.gd c (1+i)*Alg.gd (gr (r::R) (1+i)) j)=fun i=>Alg.gd c.tail i*Alg.gd (gr R i) j:=by
   funext i
   have e4:Alg.gd c (1+i)=Alg.gd c.tail i:=by cases c<;>simp [Alg.gd,Nat.add_comm]
   rw[e4,Nat.add_comm];rfl
  rw[e2,e3, ← Int.add_assoc]
  exact(Xn3 (by omega) j).add (Cg.refl p _)
theorem Xax{p:Int}(hp:2≤p)(n:Nat):El p (List.replicate n 0):=fun x hx=>by rw[(List.mem_replicate.1 hx).2];exact⟨by omega,by omega⟩
theorem Xes(n i:Nat):Alg.gd (List.replicate n 0) i=0:=by
 rcases Nat.lt_or_ge i n with h |h
 ·simp [Alg.gd,List.getD_eq_getElem?_getD,h]
 ·exact Alg.Xeq (by simpa using h)
theorem Xca{α:Type}{n:Nat}(x:α)(h:n≤16777216):lmk (n:Int) x=some (List.replicate n x):=by unfold lmk;rw[if_pos ⟨by omega,by omega⟩];simp
open Alg (Cg Pr)
theorem Xll{n i j:Nat}(hi:i<n):Alg.gd ((List.replicate n (0:Int)).set i 1) j=if j=i then 1 else 0:=by
 unfold Alg.gd
 rw[List.getD_eq_getElem?_getD,List.getElem?_set]
 by_cases h:i=j
 ·subst h;simp [hi]
 ·rw[if_neg h,if_neg (Ne.symm h)]
  have:=Xes n j
  unfold Alg.gd at this
  rwa [List.getD_eq_getElem?_getD] at this
structure Qs(p:Int)(n s idx:Nat)(qs:List (List Int)):Prop where
 len:qs.length=s
 rw:Rw p n qs
 sum:∀i,Cg p (Alg.sm s (fun k=>Alg.gd (gr qs k) i)) (if i=idx then 1 else 0)
open Alg (Cg Pr)
theorem Xiu(n:Nat)(h:n≤1000):andI .i64 (n:Int) 1=((n%2:Nat):Int):=by
 have hb:(BitVec.ofInt 64 (n:Int) &&& BitVec.ofInt 64 1).toNat=n%2:=by
  rw[BitVec.toNat_and]
  have e1:(BitVec.ofInt 64 (n:Int)).toNat=n:=by simp;omega
  have e2:(BitVec.ofInt 64 (1:Int)).toNat=1:=by decide
  rw[e1,e2,Nat.and_one_is_mod]
 unfold andI
 show IntKind.i64.wrap (((BitVec.ofInt 64 (n:Int) &&& BitVec.ofInt 64 1).toNat:Nat):Int)=_
 rw[hb]
 exact w64_id (by omega) (by omega)
theorem Cg.pow{p a b:Int}(h:Cg p a b):∀n:Nat,Cg p (a ^ n) (b ^ n)
 |0=>by rw[Int.pow_zero,Int.pow_zero];exact Cg.refl p _
 |n+1=>by rw[Int.pow_succ,Int.pow_succ];exact(Cg.pow h n).mul h
open Alg (Cg Pr)
open Alg (Cg Pr)
def KR(p:Int)(k v:Nat):List (Int×Int)→List (List Int)→List Int→Prop
 | [],[],[]=>True
 |q::K,c::C,r::Rt=>(c.length=k+v+v∧El p c∧E1 p r∧(∀j,j<k+v+v→Cg p (Alg.gd c j) (Alg.keyRow k v q j))∧Cg p r (Alg.keyRow k v q (k+v+v)))∧KR p k v K C Rt
 |_,_,_=>False
theorem KR.len{p:Int}{k v:Nat}:∀{K:List (Int×Int)}{C:List (List Int)}{Rt:List Int},KR p k v K C Rt→C.length=K.length∧Rt.length=K.length
 | [],[],[],_=>⟨rfl,rfl⟩
 |q::K,c::C,r::Rt,h=>by
  obtain⟨h1,h2⟩:=KR.len h.2
  simp [h1,h2]
 | [],[],_::_,h=>h.elim
 | [],_::_,_,h=>h.elim
 |_::_,[],_,h=>h.elim
 |_::_,_::_,[],h=>h.elim
theorem KR.rw{p:Int}{k v:Nat}:∀{K:List (Int×Int)}{C:List (List Int)}{Rt:List Int},KR p k v K C Rt→Rw p (k+v+v) C∧El p Rt
 | [],[],[],_=>⟨fun r h=>(by cases h),El.nil⟩
 |q::K,c::C,r::Rt,h=>by
  obtain⟨h1,h2⟩:=KR.rw h.2
  exact⟨Rw.cons.2 ⟨⟨h.1.1,h.1.2.1⟩,h1⟩,El.cons.2 ⟨h.1.2.2.1,h2⟩⟩
 | [],[],_::_,h=>h.elim
 | [],_::_,_,h=>h.elim
 |_::_,[],_,h=>h.elim
 |_::_,_::_,[],h=>h.elim
theorem KR.get{p:Int}{k v:Nat}:∀{K:List (Int×Int)}{C:List (List Int)}{Rt:List Int},KR p k v K C Rt→∀(i:Nat)(hi:i<K.length),(∀j,j<k+v+v→Cg p (Alg.gd (gr C i) j) (Alg.keyRow k v K[i] j))∧Cg p (Alg.gd Rt i) (Alg.keyRow k v K[i] (k+v+v))
 | [],[],[],_,i,hi=>absurd hi (by simp)
 |q::K,c::C,r::Rt,h,i,hi=>by
  cases i with
  |zero=>exact⟨h.1.2.2.2.1,h.1.2.2.2.2⟩
  |succ i=>exact KR.get h.2 i (by simpa using hi)
 | [],[],_::_,h,_,_=>h.elim
 | [],_::_,_,h,_,_=>h.elim
 |_::_,[],_,h,_,_=>h.elim
 |_::_,_::_,[],h,_,_=>h.elim
theorem Xn4{l m:List Int}(i:Nat)(h:i<l.length):Alg.gd (l++m) i=Alg.gd l i:=by
 unfold Alg.gd
 rw[List.getD_eq_getElem?_getD,List.getD_eq_getElem?_getD,List.getElem?_append_left h]
theorem Xlm(l:List Int)(a:Int):Alg.gd (l++[a]) l.length=a:=by simp [Alg.gd,List.getD_eq_getElem?_getD]
theorem Xln{l m:List Int}(i:Nat):Alg.gd (l++m) (l.length+i)=Alg.gd m i:=by
 unfold Alg.gd
 rw[List.getD_eq_getElem?_getD,List.getD_eq_getElem?_getD,List.getElem?_append_right (by omega),Nat.add_sub_cancel_left]
theorem Xhp{l:List Int}{n:Nat}(i:Nat):Alg.gd (l.drop n) i=Alg.gd l (n+i):=by
 unfold Alg.gd
 rw[List.getD_eq_getElem?_getD,List.getD_eq_getElem?_getD,List.getElem?_drop]
open Alg (Cg Pr)
theorem Xiv{R:List (List Int)}{i:Nat}(h:i<R.length):gr R i=R[i]:=by simp [gr,List.getD_eq_getElem?_getD,h]
theorem Xje{R:List (List Int)}{i j:Nat}{x:List Int}(h:i<R.length):gr (R.set i x) j=if j=i then x else gr R j:=by
 unfold gr
 rw[List.getD_eq_getElem?_getD,List.getD_eq_getElem?_getD,List.getElem?_set]
 by_cases e:i=j
 ·subst e;simp [h]
 ·rw[if_neg e,if_neg (Ne.symm e)]
theorem Rw.gr{p:Int}{m:Nat}{R:List (List Int)}(h:Rw p m R){i:Nat}(hi:i<R.length):(gr R i).length=m∧El p (gr R i):=by
 rw[Xiv hi];exact h _ (List.getElem_mem hi)
theorem Rw.set{p:Int}{m:Nat}{R:List (List Int)}(h:Rw p m R){i:Nat}{x:List Int}(hx:x.length=m)(he:El p x):Rw p m (R.set i x):=fun r hr=>by
 rcases List.mem_or_eq_of_mem_set hr with hr |rfl
 ·exact h r hr
 ·exact⟨hx,he⟩
theorem Xet{R:List (List Int)}{i:Nat}(h:i<R.length):lidx R (i:Int)=some (gr R i):=Xaw [] h
theorem Xbe{l:List Int}{i:Nat}(h:i<l.length):lidx l (i:Int)=some (Alg.gd l i):=Xaw 0 h
theorem Xay{α:Type}{l:List α}{i:Nat}{y:α}(h:i<l.length):lupd l (i:Int) y=some (l.set i y):=by rw[Xhm (by omega) (by omega),Int.toNat_natCast]
def elim(p:Int)(k r:Nat)(R:List (List Int))(i:Nat):List Int:=if i≠r∧Alg.gd (gr R i) k≠0 then at_ p ((0-Alg.gd (gr R i) k)%p) (gr R i) (gr R r) else gr R i
open Alg (Cg Pr)
open Alg (Cg Pr)
theorem Xhq(x:Int)(m:List Int):∀l:List Int,Alg.pv (l++m) x=Alg.pv l x+x ^ l.length*Alg.pv m x
 | []=>by simp [Alg.pv]
 |a::l=>by
  rw[List.cons_append,Alg.pv,Alg.pv,Xhq x m l,List.length_cons,Int.pow_succ,Int.add_mul]
  have:x ^ l.length*Alg.pv m x*x=x ^ l.length*x*Alg.pv m x:=by rw[Int.mul_assoc,Int.mul_comm (Alg.pv m x), ← Int.mul_assoc]
  omega
open Alg (Cg Pr)
open Alg (Cg Pr)
def AnsOK(p:Int)(w:Nat)(L:List (Bool×List Int)):Prop:=∀a∈L,a.1=true→a.2.length=w∧El p a.2
theorem AnsOK.cons{p:Int}{w:Nat}{a:Bool×List Int}{L:List (Bool×List Int)}:AnsOK p w (a::L)↔(a.1=true→a.2.length=w∧El p a.2)∧AnsOK p w L:=by unfold AnsOK;simp
open Alg (Cg Pr)
def PlanOK(p:Int)(s d:Nat):Prop:=2≤s∧s≤10∧1≤d∧d<s∧(s:Int)<p
def hid(d idx:Nat)(T:List Int)(i:Nat):List Int:=(if i=idx then 1 else 0)::(T.drop (i*d)).take d
structure Qc(p:Int)(s d idx:Nat)(T:List Int)(m:Nat)(qs:List (List Int)):Prop where
 len:qs.length=s
 rw:Rw p m qs
 val:∀k,k<s→∀i,i<m→Cg p (Alg.gd (gr qs k) i) (Alg.pv (hid d idx T i) ((k:Int)+1))
open Alg (Cg Pr)
open Alg (Cg Pr)
def StOK(p:Int)(s D G:Nat):Prop:=2≤s∧s≤10∧(s:Int)<p∧1≤D∧1≤G∧2*G+D≤s+1
def ngr(n G:Nat):Nat:=(n+G-1)/G
theorem Xhr{n G g:Nat}(hG:1≤G):g<ngr n G↔g*G<n:=by
 unfold ngr
 rw[Nat.lt_div_iff_mul_lt (by omega)]
 omega
theorem Xg3{n G:Nat}(hG:1≤G)(hn:1≤n):1≤ngr n G:=(Xhr hG).2 (by omega)
theorem Xds{n G:Nat}(hG:1≤G):ngr n G≤n:=by
 rcases Nat.lt_or_ge n (ngr n G) with h |h
 ·have:=(Xhr hG).1 h
  have h2:n*1≤n*G:=Nat.mul_le_mul_left _ hG
  omega
 ·exact h
def drw(D:Nat)(T:List Int)(g:Nat):List Int:=(T.drop (g*D)).take D
structure Qd(p:Int)(s D G m grp:Nat)(T:List Int)(qs:List (List Int)):Prop where
 len:qs.length=s
 rw:Rw p m qs
 val:∀k,k<s→∀i,i<m→Cg p (Alg.gd (gr qs k) i) (((k:Int)+1) ^ G*Alg.pv (drw D T i) ((k:Int)+1)+if i=grp then 1 else 0)
open Alg (Cg Pr)
def grp(R:List (List Int))(G g:Nat):List (List Int):=(R.drop (g*G)).take G
def hc(R:List (List Int))(G g j:Nat):List Int:=(grp R G g).map fun r=>Alg.gd r j
structure Hld(p:Int)(w m G:Nat)(R:List (List Int))(x:Int)(H:List (List Int)):Prop where
 len:H.length=m
 rw:Rw p w H
 val:∀g,g<m→∀j,Cg p (Alg.gd (gr H g) j) (Alg.pv (hc R G g j) x)
open Alg (Cg Pr)
end Go.Proofs.YtnfalgmfmiolbaaGreat.Hh
end

section
namespace Go.Proofs.YtnfalgmfmiolbaaGreat.Hh
set_option linter.unusedVariables false
open Alg (Cg Pr)
structure Fp(p:Int):Prop where
 fd:Fd p
 hi:p≤1000
 ck:X1m p=some 0
theorem Fp.rng{p:Int}(h:Fp p):2≤p∧p≤65521:=h.fd.rng
theorem fp7:Fp 7:=⟨by unfold Fd;omega,by omega,by kernel_rfl⟩
theorem fp11:Fp 11:=⟨by unfold Fd;omega,by omega,by kernel_rfl⟩
theorem fp13:Fp 13:=⟨by unfold Fd;omega,by omega,by kernel_rfl⟩
theorem fp257:Fp 257:=⟨by unfold Fd;omega,by omega,by kernel_rfl⟩
section
variable{p:Int}(hp:2≤p∧p≤65521)
include hp
theorem md{x:Int}(h:0≤x):Int.tmod x p=x%p:=Int.tmod_eq_emod_of_nonneg h
theorem mulm{b c:Int}(hb:E1 p b)(hc:E1 p c):Int.tmod (w64 (b*c)) p=b*c%p:=by
 have h:=Xhn hp hb hc
 rw[w64_id (by omega) (by omega),md hp (by omega)]
theorem accm{a b c:Int}(ha:E1 p a)(hb:E1 p b)(hc:E1 p c):Int.tmod (w64 (a+w64 (b*c))) p=(a+b*c)%p:=by
 have h:=Xhn hp hb hc
 have h2:=ha.1
 have h3:=ha.2
 rw[w64_id (x:=b*c) (by omega) (by omega),w64_id (by omega) (by omega),md hp (by omega)]
end
theorem in_L{p:Int}:∀l:List Int,X43 p l=some (decide (El p l))
 | []=>by rw[X43,decide_eq_true El.nil]
 |x::l=>by
  show X8k p (X43 p l) x=_
  unfold X8k
  rw[in_L l]
  by_cases h:x<0∨p≤x
  ·rw[if_pos h,decide_eq_false (fun h2=>by have:=(El.cons.1 h2).1;unfold E1 at this;omega)]
  ·rw[if_neg h]
   exact congrArg some (decide_eq_decide.2 ⟨fun h2=>El.cons.2 ⟨by unfold E1;omega,h2⟩,fun h2=>(El.cons.1 h2).2⟩)
theorem Xnz{p:Int}(h:Fp p)(l:List Int):X4l p l=some (decide (El p l)):=by
 unfold X4l
 rw[h.ck,Option.bind_some,if_neg (by decide),in_L]
theorem Xgx{p:Int}(h:Fp p){l:List Int}(hl:El p l):X4l p l=some true:=by rw[Xnz h,decide_eq_true hl]
theorem Xjf{p:Int}(h:Fp p){x:Int}(hx:E1 p x):X4l p [x]=some true:=Xgx h (El.cons.2 ⟨hx,El.nil⟩)
theorem Xn5{p:Int}(hp:2≤p∧p≤65521):∀(f:Nat)(a:Int)(n:Nat)(x:Int),n<f→n≤1000→E1 p a→E1 p x→
  ∃r,X2u p f a (n:Int) x=some r∧E1 p r∧Cg p r (x*a ^ n)
 |0,a,n,x,h,_,_,_=>by omega
 |f+1,a,n,x,h,h2,ha,hx=>by
  rw[X2u]
  unfold X91
  by_cases hn:0<n
  ·rw[if_pos (by omega),Xiu n h2]
   have ed:(n:Int)/2=((n/2:Nat):Int):=by omega
   have hsq:Cg p (a*a%p) (a*a):=Cg.emod p _
   have key:∀y,E1 p y→Cg p (y*(a*a) ^ (n/2)) (x*a ^ n)→∃r,(X5l (X2u p f) a (n:Int) p) y=some r∧E1 p r∧Cg p r (x*a ^ n):=fun y hy hc=>by
    unfold X5l
    rw[nzp hp,Option.bind_some,mulm hp ha ha,ed]
    obtain⟨r,h3,h4,h5⟩:=Xn5 hp f (a*a%p) (n/2) y (by omega) (by omega) (E1.emod hp.1 _) hy
    exact⟨r,h3,h4,h5.trans (((Cg.refl p y).mul (Cg.pow hsq _)).trans hc)⟩
   have hpw:(a*a) ^ (n/2)=a ^ (2*(n/2)):=by rw[Int.pow_mul,Int.pow_succ,Int.pow_succ,Int.pow_zero,Int.one_mul]
   by_cases h1:n%2=1
   ·rw[if_pos (by omega),nzp hp,Option.bind_some,mulm hp hx ha]
    refine key _ (E1.emod hp.1 _) (((Cg.emod p _).mul (Cg.refl p _)).trans (Cg.of ?_))
    rw[hpw,Int.mul_assoc,Int.mul_comm a, ← Int.pow_succ]
    congr 2;omega
   ·rw[if_neg (by omega)]
    refine key _ hx (Cg.of ?_)
    rw[hpw];congr 2;omega
  ·rw[if_neg (by omega)]
   have:n=0:=by omega
   subst this
   exact⟨x,rfl,hx,Cg.of (by simp)⟩
theorem Xgj{p:Int}(hp:2≤p):E1 p 1:=⟨by omega,by omega⟩
theorem Xhs{p:Int}(hp:2≤p):E1 p 0:=⟨by omega,by omega⟩
theorem Xn6{p:Int}(hp:2≤p∧p≤65521){a:Int}(ha:E1 p a){n:Nat}(hn:n≤1000):∃r,Xai p a (n:Int)=some r∧E1 p r∧Cg p r (a ^ n):=by
 unfold Xai
 rw[nzp hp,Option.bind_some,md hp (by omega),Int.emod_eq_of_lt (by omega) (by omega)]
 obtain⟨r,h1,h2,h3⟩:=Xn5 hp big a n 1 (by simp only [big];omega) hn ha (Xgj hp.1)
 exact⟨r,h1,h2,by rwa [Int.one_mul] at h3⟩
theorem Xgk:∀L:List (List Int),(∀l∈L,l.length≤512)→X2c L=some 0
 | [],_=>rfl
 |l::L,h=>by
  show X52 (X2c L) l=_
  unfold X52
  have:=h l List.mem_cons_self
  rw[if_neg (by omega)]
  exact Xgk L fun x hx=>h x (List.mem_cons_of_mem _ hx)
theorem Xgl{p:Int}(hf:Fp p)(kx:Int→Option Int):∀L:List (List Int),(∀l∈L,El p l)→X2e kx p L=kx p
 | [],_=>rfl
 |l::L,h=>by
  show X53 kx p (X2e kx p L) l=_
  unfold X53
  rw[Xgx hf (h l List.mem_cons_self),Option.bind_some,if_neg (by decide)]
  exact Xgl hf kx L fun x hx=>h x (List.mem_cons_of_mem _ hx)
theorem Xiw{p:Int}(hf:Fp p){L:List (List Int)}(h:∀l∈L,El p l∧l.length≤512):X8r p L=some 0:=by
 unfold X8r
 rw[hf.ck,Option.bind_some,if_neg (by decide),Xgl hf _ L (fun l hl=>(h l hl).1)]
 unfold X2d
 exact Xgk L fun l hl=>(h l hl).2
theorem Xn7{p:Int}(hp:2≤p∧p≤65521){l:List Int}(hl:El p l)(hn:l.length≤1000){x:Int}(hx:E1 p x):∀(m f:Nat)(v:Int),m≤l.length→m<f→E1 p v→Cg p v (Alg.pv (l.drop m) x)→
  ∃r,X2f l x p f v ((m:Int)-1)=some r∧E1 p r∧Cg p r (Alg.pv l x)
 |m,0,v,_,h,_,_=>by omega
 |0,f+1,v,_,_,hv,hc=>by
  rw[X2f]
  unfold X54
  rw[if_neg (by omega)]
  exact⟨v,rfl,hv,by rwa [List.drop_zero] at hc⟩
 |m+1,f+1,v,hm,hf,hv,hc=>by
  rw[X2f]
  unfold X54
  have he:=El.gd hp.1 hl m
  rw[show((m+1:Nat):Int)-1=(m:Int) by omega,if_pos (by omega),Xbe (by omega),Option.bind_some,nzp hp,Option.bind_some,w64_id (x:=(m:Int)-1) (by omega) (by omega)]
  have e:Int.tmod (w64 ((w64 (v*x))+Alg.gd l m)) p=(Alg.gd l m+v*x)%p:=by
   rw[Int.add_comm];exact accm hp he hv hx
  rw[e]
  refine Xn7 hp hl hn hx m f _ (by omega) (by omega) (E1.emod hp.1 _) ?_
  rw[List.drop_eq_getElem_cons (show m<l.length by omega),Alg.pv,show l[m]'(by omega)=Alg.gd l m by simp [Alg.gd,List.getD_eq_getElem?_getD,show m<l.length by omega]]
  exact(Cg.emod p _).trans (((Cg.refl p (Alg.gd l m)).add (hc.mul (Cg.refl p x))).trans (Cg.of (by omega)))
theorem Xn8{p:Int}(hp:2≤p∧p≤65521){l:List Int}(hl:El p l)(hn:l.length≤1000){x:Int}(hx:E1 p x):∃r,X8s p l x=some r∧E1 p r∧Cg p r (Alg.pv l x):=by
 unfold X8s
 rw[w64_id (by omega) (by omega)]
 exact Xn7 hp hl hn hx l.length big 0 (Nat.le_refl _) (by simp only [big];omega) (Xhs hp.1) (by rw[List.drop_length];exact Cg.refl p 0)
theorem Xjg{p:Int}(hf:Fp p){l:List Int}(hl:El p l)(hn:l.length≤512){x:Int}(hx:E1 p x):∃r,X6s p l x=some (r,0)∧E1 p r∧Cg p r (Alg.pv l x):=by
 have hp:=hf.rng
 obtain⟨r,h1,h2,h3⟩:=Xn8 hp hl (by omega) hx
 refine⟨r,?_,h2,h3⟩
 unfold X6s
 rw[Xjf hf hx,Option.bind_some,if_neg (by decide),Xiw hf (by
  intro l' hl'
  rw[List.mem_singleton.1 hl'];exact⟨hl,hn⟩),Option.bind_some,if_neg (by decide),h1]
 rfl
end Go.Proofs.YtnfalgmfmiolbaaGreat.Hh
end

section
namespace Go.Proofs.YtnfalgmfmiolbaaGreat.Hh
set_option linter.unusedVariables false
open Alg (Cg Pr)
abbrev IR:=(List Int)×Int
end Go.Proofs.YtnfalgmfmiolbaaGreat.Hh
end

section
namespace Go.Proofs.YtnfalgmfmiolbaaGreat.Hh
set_option linter.unusedVariables false
open Alg (Cg Pr)
def mixl(A B:List Int)(j:Nat):List Int:=A.take j++B.drop j
section
variable{A B:List Int}(h:A.length=B.length)
include h
theorem Xeu(j:Nat):(mixl A B j).length=B.length:=by unfold mixl;simp;omega
theorem Xg4{j:Nat}(hj:j<B.length):Alg.gd (mixl A B j) j=Alg.gd B j:=by
 have:=Xln (l:=A.take j) (m:=B.drop j) 0
 rw[List.length_take,Nat.min_eq_left (by omega),Nat.add_zero,Xhp,Nat.add_zero] at this
 exact this
theorem Xev{j:Nat}(hj:j<B.length):(mixl A B j).set j (Alg.gd A j)=mixl A B (j+1):=by
 unfold mixl
 rw[List.set_append_right _ _ (by rw[List.length_take];omega),List.length_take,Nat.min_eq_left (by omega),Nat.sub_self,List.drop_eq_getElem_cons hj,List.set_cons_zero,List.take_succ_eq_append_getElem (by omega),List.append_assoc,show Alg.gd A j=A[j]'(by omega) by simp [Alg.gd,List.getD_eq_getElem?_getD,show j<A.length by omega]]
 rfl
theorem Xew:mixl A B B.length=A:=by unfold mixl;rw[List.take_of_length_le (by omega),List.drop_length,List.append_nil]
end
theorem Xht(A B:List Int):mixl A B 0=B:=by simp [mixl]
end Go.Proofs.YtnfalgmfmiolbaaGreat.Hh
end

section
namespace Go.Proofs.YtnfalgmfmiolbaaGreat.Hh
set_option linter.unusedVariables false
open Alg (Cg Pr)
abbrev Ans:=Bool×List Int
theorem cvcheck{p:Int}(hf:Fp p){s d:Nat}(h:PlanOK p s d):X8n p ((s:Int),(d:Int))=some 0:=by
 obtain⟨p1,p2,p3,p4,p5⟩:=h
 unfold X8n
 rw[hf.ck,Option.bind_some,if_neg (by decide)]
 dsimp only
 rw[w64_id (by omega) (by omega),if_neg (by omega)]
theorem cdcheck{p:Int}(hf:Fp p){s D G:Nat}(h:StOK p s D G):X6q p ((s:Int),(D:Int),(G:Int))=some 0:=by
 obtain⟨p1,p2,p3,p4,p5,p6⟩:=h
 unfold X6q
 rw[hf.ck,Option.bind_some,if_neg (by decide)]
 dsimp only
 rw[w64_id (x:=2*(G:Int)) (by omega) (by omega),w64_id (x:=2*(G:Int)+D) (by omega) (by omega),w64_id (by omega) (by omega),if_neg (by omega)]
end Go.Proofs.YtnfalgmfmiolbaaGreat.Hh
end

section
namespace Go.Proofs.YtnfalgmfmiolbaaGreat.Hh
set_option linter.unusedVariables false
open Alg (Cg Pr)
theorem Xn9(z f:Int)(F:Nat→List Int→Int→Option IR)(hF:∀n v i,F (n+1) v i=if i<z then(lapp v [f]).bind fun u=>F n u (w64 (i+1)) else some (v,0))(hz:z≤100000):∀(m fuel:Nat)(v:List Int)(i:Int),0≤i→i+m=z→m<fuel→(v.length:Int)=i→F fuel v i=some (v++List.replicate m f,0)
 |m,0,_,_,_,_,h,_=>by omega
 |0,fuel+1,v,i,h0,h1,h2,h3=>by
  rw[hF,if_neg (by omega)]
  simp
 |m+1,fuel+1,v,i,h0,h1,h2,h3=>by
  rw[hF,if_pos (by omega),X2 (by simp;omega),Option.bind_some,w64_id (by omega) (by omega),Xn9 z f F hF hz m fuel (v++[f]) (i+1) (by omega) (by omega) (by omega) (by simp;omega),List.replicate_succ]
  simp
theorem fils{m:Nat}(hm:m≤100000)(f:Int)(F:Nat→List Int→Int→Option IR)(hF:∀n v i,F (n+1) v i=if i<(m:Int) then(lapp v [f]).bind fun u=>F n u (w64 (i+1)) else some (v,0)):F big [] 0=some (List.replicate m f,0):=by
 have:=Xn9 (m:Int) f F hF (by omega) m big [] 0 (by omega) (by omega) (by simp only [big];omega) rfl
 rwa [List.nil_append] at this
theorem prlimits{p:Int}(hf:Fp p){n s:Nat}(hn:1≤n∧n≤1024)(hs:2≤s∧s≤10):X5o p (n:Int) (s:Int)=some (List.replicate (n*(s-1)) p,0):=by
 have h1:n*(s-1)≤1024*9:=Nat.mul_le_mul hn.2 (by omega)
 unfold X5o
 rw[hf.ck,Option.bind_some,if_neg (by decide),if_neg (by omega),w64_id (x:=(s:Int)-1) (by omega) (by omega),show(n:Int)*((s:Int)-1)=((n*(s-1):Nat):Int) by rw[show(s:Int)-1=((s-1:Nat):Int) by omega];simp,w64_id (by omega) (by omega)]
 exact fils (by omega) p (X4a _ p) (fun _ _ _=>rfl)
theorem cvlimits{p:Int}(hf:Fp p){s d:Nat}(h:PlanOK p s d){n:Nat}(hn:1≤n∧n≤1024):X5p p ((s:Int),(d:Int)) (n:Int)=some (List.replicate (n*d) p,0):=by
 have h1:n*d≤1024*9:=Nat.mul_le_mul hn.2 (by have:=h.2.2.2.1;have:=h.2.1;omega)
 unfold X5p
 rw[cvcheck hf h,Option.bind_some,if_neg (by decide),if_neg (by omega)]
 dsimp only
 rw[show(n:Int)*(d:Int)=((n*d:Nat):Int) by simp,w64_id (by omega) (by omega)]
 exact fils (by omega) p (X4b _ p) (fun _ _ _=>rfl)
theorem cdlimits{p:Int}(hf:Fp p){s D G:Nat}(h:StOK p s D G){m:Nat}(hm:1≤m∧m≤1024):X5q p ((s:Int),(D:Int),(G:Int)) (m:Int)=some (List.replicate (m*D) p,0):=by
 have h1:m*D≤1024*10:=Nat.mul_le_mul hm.2 (by have:=h.2.2.2.2.2;have:=h.2.1;have:=h.2.2.2.2.1;omega)
 unfold X5q
 rw[cdcheck hf h,Option.bind_some,if_neg (by decide),if_neg (by omega)]
 dsimp only
 rw[show(m:Int)*(D:Int)=((m*D:Nat):Int) by simp,w64_id (by omega) (by omega)]
 exact fils (by omega) p (X4c _ p) (fun _ _ _=>rfl)
abbrev Tp:=(List Int)×Int
theorem Xhu{p:Int}{T:List Int}(hT:El p T)(hl:T.length≤16384){a c:Nat}(hac:a+c≤T.length)(kx:(List Int)→Int→Int→Option (Tp×(List Int)×Int)):∀(m f i:Nat),i+m=c→m<f→X2b kx p (c:Int) T f ((T.drop a).take i) (i:Int) ((a+i:Nat):Int)=kx ((T.drop a).take c) 0 ((a+c:Nat):Int)
 |m,0,i,_,h=>by omega
 |0,f+1,i,h,_=>by
  rw[X2b]
  unfold X51
  rw[if_neg (by omega),show i=c by omega]
 |m+1,f+1,i,h,hf=>by
  rw[X2b]
  unfold X51
  have hx:=hT _ (Alg.Xjd (l:=T) (i:=a+i) (by omega))
  rw[if_pos (by omega),if_neg (by omega),Xbe (by omega),Option.bind_some,if_neg (by have:=hx.1;have:=hx.2;omega),X2 (by simp;omega),Option.bind_some,w64_id (by omega) (by omega),w64_id (by omega) (by omega)]
  have e:(T.drop a).take i++[Alg.gd T (a+i)]=(T.drop a).take (i+1):=by
   rw[List.take_succ_eq_append_getElem (by simp;omega),List.getElem_drop,show Alg.gd T (a+i)=T[a+i]'(by omega) by simp [Alg.gd,List.getD_eq_getElem?_getD,show a+i<T.length by omega]]
  rw[e,show(i:Int)+1=((i+1:Nat):Int) by omega,show((a+i:Nat):Int)+1=((a+(i+1):Nat):Int) by omega]
  exact Xhu hT hl hac kx m f (i+1) (by omega) (by omega)
theorem Xex{p:Int}(hp:2≤p∧p≤65521){T:List Int}(hT:El p T)(hl:T.length≤16384){a c:Nat}(hac:a+c≤T.length):X5f (T,(a:Int)) p (c:Int)=some ((T,((a+c:Nat):Int)),(T.drop a).take c,0):=by
 unfold X5f Xa3 Xav
 dsimp only
 rw[Option.bind_some,decide_eq_true (by omega),if_neg (by decide),if_neg (by omega),X2 (by simp;omega),Option.bind_some,List.nil_append,Option.bind_some]
 have:=Xhu hT hl hac (X2a T) c big 0 (by omega) (by simp only [big];omega)
 exact this
theorem El.sub{p:Int}{T:List Int}(hT:El p T)(a c:Nat):El p ((T.drop a).take c):=fun x hx=>hT x (List.mem_of_mem_drop (List.mem_of_mem_take hx))
def sb_(p:Int)(t l:List Int):List Int:=List.zipWith (fun a b=>(a+p-b)%p) t l
theorem Xgm{p:Int}{t l:List Int}(h:t.length=l.length):(sb_ p t l).length=t.length:=by simp [sb_,h]
theorem Xo0{p:Int}(hp:2≤p)(t l:List Int):El p (sb_ p t l):=fun z hz=>by
 unfold sb_ at hz
 obtain⟨i,hi,rfl⟩:=List.getElem_of_mem hz
 rw[List.getElem_zipWith]
 exact E1.emod hp _
theorem Xna{p:Int}{t l:List Int}(h:t.length=l.length){i:Nat}(hi:i<t.length):Alg.gd (sb_ p t l) i=(Alg.gd t i+p-Alg.gd l i)%p:=by
 have hi2:i<l.length:=by omega
 simp [Alg.gd,sb_,List.getD_eq_getElem?_getD,List.getElem?_zipWith,hi,hi2]
theorem Xo1{p:Int}{t l:List Int}(h:t.length=l.length)(i:Nat):Cg p (Alg.gd (sb_ p t l) i) (Alg.gd t i-Alg.gd l i):=by
 rcases Nat.lt_or_ge i t.length with hi |hi
 ·rw[Xna h hi]
  exact(Cg.emod p _).trans ⟨1,by omega⟩
 ·rw[Alg.Xeq (l:=sb_ p t l) (by rw[Xgm h];exact hi),Alg.Xeq hi,Alg.Xeq (by omega:l.length≤i)]
  exact Cg.of (by simp)
abbrev QR:=(List (List Int))×Tp×Int
theorem Xnb{p:Int}(hp:2≤p∧p≤65521)(kx:(List Int)→Int→Int→Int→Option QR)(z1 z2:Int){t r:List Int}(ht:El p t)(hr:El p r)(hl:r.length=t.length)(hn:t.length≤10000):∀(xs:List Int)(i:Nat),r.drop i=xs→i≤t.length→Xt kx z1 z2 p xs i (mixl (sb_ p t r) t i)=kx (sb_ p t r) z1 z2 p
 | [],i,hd,hi=>by
  have h1:=List.drop_eq_nil_iff.1 hd
  rw[Xt,show i=t.length by omega,Xew (Xgm hl.symm)]
 |x::xs,i,hd,hi=>by
  have hlt:i<r.length:=by
   rcases Nat.lt_or_ge i r.length with h |h
   ·exact h
   ·rw[List.drop_eq_nil_of_le h] at hd;cases hd
  have hx:x=Alg.gd r i:=by
   rw[List.drop_eq_getElem_cons hlt] at hd
   rw[← (List.cons.inj hd).1];simp [Alg.gd,List.getD_eq_getElem?_getD,hlt]
  show X3f kx z1 z2 p (Xt kx z1 z2 p xs (i+1)) x i _=_
  unfold X3f
  have hal:=Xgm (p:=p) hl.symm
  have hml:=Xeu hal i
  have h1:=El.gd hp.1 ht i
  have h2:=El.gd hp.1 hr i
  have e:Int.tmod (w64 ((w64 (Alg.gd t i+p))-x)) p=Alg.gd (sb_ p t r) i:=by
   rw[hx]
   have:=h1.1;have:=h1.2;have:=h2.1;have:=h2.2
   rw[w64_id (x:=Alg.gd t i+p) (by omega) (by omega),w64_id (by omega) (by omega),md hp (by omega),Xna hl.symm (by omega)]
  rw[Xbe (by omega),Option.bind_some,nzp hp,Option.bind_some,Option.bind_some,Xg4 hal (by omega),e,Xay (by omega),Option.bind_some,Xev hal (by omega)]
  exact Xnb hp kx z1 z2 ht hr hl hn xs (i+1) (by rw[← List.drop_drop,hd];rfl) (by omega)
theorem Xhv{R:List (List Int)}{r:List Int}{k:Nat}:gr (R++[r]) k=if k<R.length then gr R k else if k=R.length then r else []:=by
 unfold gr
 rw[List.getD_eq_getElem?_getD,List.getD_eq_getElem?_getD]
 by_cases h:k<R.length
 ·rw[if_pos h,List.getElem?_append_left h]
 ·rw[if_neg h,List.getElem?_append_right (by omega)]
  by_cases h2:k=R.length
  ·rw[if_pos h2,h2,Nat.sub_self];rfl
  ·rw[if_neg h2,List.getElem?_eq_none (by simp;omega)];rfl
theorem Xjh{R:List (List Int)}{r:List Int}(i:Nat):Alg.sm (R.length+1) (fun k=>Alg.gd (gr (R++[r]) k) i)=Alg.sm R.length (fun k=>Alg.gd (gr R k) i)+Alg.gd r i:=by
 rw[Alg.sm]
 have e1:Alg.sm R.length (fun k=>Alg.gd (gr (R++[r]) k) i)=Alg.sm R.length (fun k=>Alg.gd (gr R k) i):=Alg.Xn2 fun k hk=>by rw[Xhv,if_pos hk]
 rw[e1,Xhv,if_neg (by omega),if_pos rfl]
theorem Xnc{p:Int}(hp:2≤p∧p≤65521)(kx:(List Int)→(List (List Int))→Int→Int→Int→Option QR){n s idx:Nat}(hn:n≤1024)(hs:2≤s∧s≤10){D:List Int}(hD:El p D)(hDl:D.length=n*(s-1))(z1 z2:Int):∀(m f j:Nat)(out:List (List Int))(last:List Int),j+m=s-1→m<f→out.length=j→Rw p n out→last.length=n→El p last→(∀i,Cg p (Alg.gd last i) ((if i=idx then 1 else 0)-Alg.sm j (fun k=>Alg.gd (gr out k) i)))→
  ∃out' last',Xe kx (n:Int) (s:Int) D f out (j:Int) last z1 z2 p=kx last' out' z1 z2 p∧out'.length=s-1∧Rw p n out'∧last'.length=n∧El p last'∧∀i,Cg p (Alg.gd last' i) ((if i=idx then 1 else 0)-Alg.sm (s-1) (fun k=>Alg.gd (gr out' k) i))
 |m,0,j,_,_,_,h,_,_,_,_,_=>by omega
 |0,f+1,j,out,last,h,_,ho,hR,hl,he,hc=>by
  rw[Xe]
  unfold X3g
  rw[w64_id (x:=(s:Int)-1) (by omega) (by omega),if_neg (by omega)]
  exact⟨out,last,rfl,by omega,hR,hl,he,by rw[show s-1=j by omega];exact hc⟩
 |m+1,f+1,j,out,last,h,hf,ho,hR,hl,he,hc=>by
  rw[Xe]
  unfold X3g
  have h1:j*n≤9*1024:=Nat.mul_le_mul (by omega) hn
  have h2:(j+1)*n=j*n+n:=by rw[Nat.add_mul,Nat.one_mul]
  have h3:(j+1)*n≤D.length:=by rw[hDl,Nat.mul_comm n];exact Nat.mul_le_mul_right _ (by omega)
  rw[w64_id (x:=(s:Int)-1) (by omega) (by omega),if_pos (by omega),w64_id (x:=(j:Int)+1) (by omega) (by omega),show(j:Int)*(n:Int)=((j*n:Nat):Int) by simp,show((j:Int)+1)*(n:Int)=(((j+1)*n:Nat):Int) by simp,w64_id (x:=((j*n:Nat):Int)) (by omega) (by omega),w64_id (x:=(((j+1)*n:Nat):Int)) (by omega) (by omega),X3t (by omega) (by omega) (by omega),Option.bind_some]
  have eq:((D.drop ((j*n:Nat):Int).toNat).take ((((j+1)*n:Nat):Int)-((j*n:Nat):Int)).toNat)=(D.drop (j*n)).take n:=by
   rw[Int.toNat_natCast,show((((j+1)*n:Nat):Int)-((j*n:Nat):Int)).toNat=n by omega]
  rw[eq]
  generalize hq:(D.drop (j*n)).take n=q
  have ql:q.length=n:=by rw[← hq,List.length_take,List.length_drop];omega
  have qe:El p q:=by rw[← hq];exact hD.sub _ _
  rw[X2 (by simp;omega),Option.bind_some,List.nil_append]
  have l3:=Xnb hp (Xs (Xe kx (n:Int) (s:Int) D f) (j:Int) q out) z1 z2 he qe (by omega) (by omega) q 0 rfl (by omega)
  rw[Xht] at l3
  rw[l3]
  unfold Xs
  rw[X2 (by simp;omega),Option.bind_some,w64_id (by omega) (by omega),show(j:Int)+1=((j+1:Nat):Int) by omega]
  refine Xnc hp kx hn hs hD hDl z1 z2 m f (j+1) (out++[q]) (sb_ p last q) (by omega) (by omega) (by simp [ho]) (fun r hr=>?_) (by rw[Xgm (by omega)];exact hl) (Xo0 hp.1 _ _) (fun i=>?_)
  ·rcases List.mem_append.1 hr with h |h
   ·exact hR r h
   ·rw[List.mem_singleton.1 h];exact⟨ql,qe⟩
  ·have:=Xjh (R:=out) (r:=q) i
   rw[ho] at this
   rw[this]
   exact(Xo1 (by omega) i).trans (((hc i).sub (Cg.refl p _)).trans (Cg.of (by omega)))
theorem prqueries{p:Int}(hf:Fp p){n s idx:Nat}(hn:1≤n∧n≤1024)(hs:2≤s∧s≤10)(hi:idx<n){T:List Int}(hT:El p T)(hl:T.length≤16384){a:Nat}(hac:a+n*(s-1)≤T.length):
  ∃qs,X6d p (n:Int) (s:Int) (idx:Int) (T,(a:Int))=some (qs,(T,((a+n*(s-1):Nat):Int)),0)∧Qs p n s idx qs:=by
 have hp:=hf.rng
 have h1:n*(s-1)≤1024*9:=Nat.mul_le_mul hn.2 (by omega)
 unfold X6d
 rw[prlimits hf hn hs,Option.bind_some,if_neg (by simp),if_neg (by omega),w64_id (x:=(s:Int)-1) (by omega) (by omega),show(n:Int)*((s:Int)-1)=((n*(s-1):Nat):Int) by rw[show(s:Int)-1=((s-1:Nat):Int) by omega];simp,w64_id (by omega) (by omega),Xex hp hT hl hac,Option.bind_some,if_neg (by simp),Xca _ (by omega),Option.bind_some,Xbe (by simpa using hi),Option.bind_some,Xay (by simpa using hi),Option.bind_some]
 dsimp only
 have hul:((List.replicate n (0:Int)).set idx 1).length=n:=by simp
 have hue:El p ((List.replicate n (0:Int)).set idx 1):=fun x hx=>by
  rcases List.mem_or_eq_of_mem_set hx with h |rfl
  ·exact Xax hp.1 n x h
  ·exact Xgj hp.1
 obtain⟨out,last,e1,e2,e3,e4,e5,e6⟩:=Xnc hp (Xd T) (n:=n) (s:=s) (idx:=idx) (by omega) hs (hT.sub a (n*(s-1))) (by rw[List.length_take,List.length_drop];omega) 0 ((a+n*(s-1):Nat):Int) (s-1) big 0 [] ((List.replicate n 0).set idx 1) (by omega) (by simp only [big];omega) rfl (fun r hr=>by cases hr) hul hue (fun i=>by rw[Xll hi];exact Cg.of (by simp [Alg.sm]))
 rw[show((0:Nat):Int)=0 from rfl] at e1
 rw[e1]
 unfold Xd
 rw[X2 (by simp;omega),Option.bind_some]
 refine⟨_,rfl,by simp;omega,fun r hr=>?_,fun i=>?_⟩
 ·rcases List.mem_append.1 hr with h |h
  ·exact e3 r h
  ·rw[List.mem_singleton.1 h];exact⟨e4,e5⟩
 ·have:=Xjh (R:=out) (r:=last) i
  rw[e2,show s-1+1=s by omega] at this
  rw[this]
  exact((Cg.refl p _).add (e6 i)).trans (Cg.of (by omega))
def Shv(p:Int)(c:List Int)(s:Nat)(out:List (Int×Int)):Prop:=out.length=s∧∀i,i<s→∃x v,out[i]?=some (x,v)∧E1 p v∧Cg p v (Alg.pv c ((i:Int)+1))
theorem Xgn{p:Int}(hf:Fp p)(kx:(List (Int×Int))→Int→Int→Int→Option ((List (Int×Int))×Tp×Int)){c:List Int}(hc:El p c)(hcl:c.length≤500){s:Nat}(hs:(s:Int)<p)(z:Int):∀(m f i:Nat)(out:List (Int×Int)),i+m=s→m<f→Shv p c i out→∃out',X2h kx (s:Int) c z p f out ((i:Int)+1)=kx out' 0 z p∧Shv p c s out'
 |m,0,i,_,_,h,_=>by omega
 |0,f+1,i,out,h,_,hS=>by
  rw[X2h]
  unfold X55
  rw[if_neg (by omega)]
  exact⟨out,rfl,by rw[show s=i by omega];exact hS⟩
 |m+1,f+1,i,out,h,hfu,hS=>by
  rw[X2h]
  unfold X55
  have h2:=hf.hi
  obtain⟨v,v1,v2,v3⟩:=Xjg hf hc (by omega) (x:=(i:Int)+1) ⟨by omega,by omega⟩
  have hol:=hS.1
  rw[if_pos (by omega),v1,Option.bind_some,X2 (by simp;omega),Option.bind_some,w64_id (by omega) (by omega),show(i:Int)+1+1=((i+1:Nat):Int)+1 by omega]
  refine Xgn hf kx hc hcl hs z m f (i+1) _ (by omega) (by omega) ⟨by simp [hol],fun k hk=>?_⟩
  by_cases hki:k<i
  ·rw[List.getElem?_append_left (by omega)]
   exact hS.2 k hki
  ·have:k=i:=by omega
   subst this
   rw[List.getElem?_append_right (by omega),hol,Nat.sub_self]
   exact⟨_,v,rfl,v2,v3⟩
theorem Xix{p:Int}(hf:Fp p){sec:Int}(hsec:E1 p sec){d s:Nat}(hd:d≤9)(hs:1≤s∧s≤500)(hsp:(s:Int)<p){T:List Int}(hT:El p T)(hl:T.length≤16384){a:Nat}(hac:a+d≤T.length):
  ∃out,X8t p sec (d:Int) (s:Int) (T,(a:Int))=some (out,(T,((a+d:Nat):Int)),0)∧Shv p (sec::(T.drop a).take d) s out:=by
 have hp:=hf.rng
 unfold X8t
 rw[Xjf hf hsec,Option.bind_some,if_neg (by decide),w64_id (x:=p-1) (by omega) (by omega),if_neg (by omega),Xex hp hT hl hac,Option.bind_some,if_neg (by simp)]
 dsimp only
 rw[X2 (by simp;omega),Option.bind_some]
 obtain⟨out,e1,e2⟩:=Xgn hf (X2g T) (c:=sec::(T.drop a).take d) (El.cons.2 ⟨hsec,hT.sub a d⟩) (by simp;omega) (s:=s) hsp ((a+d:Nat):Int) s big 0 [] (by omega) (by simp only [big];omega) ⟨rfl,fun i hi=>by omega⟩
 rw[show((0:Nat):Int)+1=1 from rfl] at e1
 rw[show([sec]++(T.drop a).take d:List Int)=sec::(T.drop a).take d from rfl,e1]
 exact⟨out,rfl,e2⟩
theorem Xnd(rec:Int→(List (List Int))→Int→(List Int)→Int→Int→Int→Int→Option QR)(z1:Int)(z2:List Int)(z3 z4 z5 z6 z7:Int){p:Int}{c:List Int}{s:Nat}{sh:List (Int×Int)}(hsh:Shv p c s sh){Q:List (List Int)}(hQ:Q.length=s){n:Nat}(hQR:Rw p n Q)(hn:n≤2000):∀(xs:List (Int×Int))(i:Nat)(A:List (List Int)),sh.drop i=xs→i≤s→A.length=s→(∀k,k<s→if k<i then ∃v,gr A k=gr Q k++[v]∧E1 p v∧Cg p v (Alg.pv c ((k:Int)+1)) else gr A k=gr Q k)→
  ∃A',X1b rec z1 z2 z3 z4 z5 z6 z7 xs i A=rec (w64 (z1+1)) A' z4 z2 z3 z5 z6 z7∧A'.length=s∧∀k,k<s→∃v,gr A' k=gr Q k++[v]∧E1 p v∧Cg p v (Alg.pv c ((k:Int)+1))
 | [],i,A,hd,hi,hA,h=>by
  have h1:=List.drop_eq_nil_iff.1 hd
  have h2:=hsh.1
  refine⟨A,rfl,hA,fun k hk=>?_⟩
  have:=h k hk
  rwa [if_pos (by omega)] at this
 |x::xs,i,A,hd,hi,hA,h=>by
  have hlt:i<sh.length:=by
   rcases Nat.lt_or_ge i sh.length with h |h
   ·exact h
   ·rw[List.drop_eq_nil_of_le h] at hd;cases hd
  have h2:=hsh.1
  obtain⟨y,v,e1,e2,e3⟩:=hsh.2 i (by omega)
  have hx:x=(y,v):=by
   rw[List.drop_eq_getElem_cons hlt] at hd
   rw[List.getElem?_eq_getElem hlt] at e1
   rw[← (List.cons.inj hd).1]
   exact Option.some.inj e1
  show ∃A',X3h rec z1 z2 z3 z4 z5 z6 z7 (X1b rec z1 z2 z3 z4 z5 z6 z7 xs (i+1)) x i A=_∧_
  unfold X3h
  have hi0:=h i (by omega)
  rw[if_neg (by omega)] at hi0
  have hql:=(hQR.gr (i:=i) (by omega)).1
  rw[Xet (by omega),Option.bind_some,hi0,X2 (by simp;omega),Option.bind_some,Option.bind_some,Xay (by omega),Option.bind_some]
  refine Xnd rec z1 z2 z3 z4 z5 z6 z7 hsh hQ hQR hn xs (i+1) _ (by rw[← List.drop_drop,hd];rfl) (by omega) (by simpa using hA) (fun k hk=>?_)
  have hk0:=h k hk
  rw[Xje (by omega)]
  by_cases hki:k=i
  ·subst hki
   rw[if_pos (by omega),if_pos rfl]
   exact⟨v,by rw[hx],e2,e3⟩
  ·rw[if_neg hki]
   by_cases hk2:k<i
   ·rw[if_pos (by omega)];rwa [if_pos hk2] at hk0
   ·rw[if_neg (by omega)];rwa [if_neg hk2] at hk0
theorem Xji{q:List Int}{v:Int}{m i:Nat}(hq:q.length=m):Alg.gd (q++[v]) i=if i<m then Alg.gd q i else if i=m then v else 0:=by
 by_cases h:i<m
 ·rw[if_pos h,Xn4 i (by omega)]
 ·rw[if_neg h]
  by_cases h2:i=m
  ·rw[if_pos h2,h2, ← hq,Xlm]
  ·rw[if_neg h2,Alg.Xeq (by simp;omega)]
theorem Xjj{p:Int}{s m:Nat}{Q A:List (List Int)}(hQ:Q.length=s)(hQR:Rw p m Q)(hA:A.length=s)(h:∀k,k<s→∃v,gr A k=gr Q k++[v]∧E1 p v):Rw p (m+1) A:=fun r hr=>by
 obtain⟨k,hk,rfl⟩:=List.getElem_of_mem hr
 obtain⟨v,h1,h2⟩:=h k (by omega)
 have hq:=hQR.gr (i:=k) (by omega)
 rw[← Xiv hk,h1]
 exact⟨by simp [hq.1],hq.2.app (El.cons.2 ⟨h2,El.nil⟩)⟩
theorem Xne{p:Int}(hf:Fp p){s d n idx:Nat}(h:PlanOK p s d)(hn:n≤1024){T:List Int}(hT:El p T)(hl:T.length≤16384){a:Nat}(hac:a+n*d≤T.length):∀(m f i:Nat)(Q:List (List Int))(z:Int),i+m=n→m<f→Qc p s d idx (T.drop a) i Q→
  ∃Q' z',Xa X9 (n:Int) (idx:Int) f (i:Int) Q z T ((a+i*d:Nat):Int) (s:Int) (d:Int) p=some (Q',(T,((a+n*d:Nat):Int)),z')∧z'=0∧Qc p s d idx (T.drop a) n Q'
 |m,0,i,_,_,_,h,_=>by omega
 |0,f+1,i,Q,z,hi,_,hQ=>by
  rw[Xa]
  unfold X3i
  rw[if_neg (by omega)]
  have:i=n:=by omega
  subst this
  exact⟨Q,0,rfl,rfl,hQ⟩
 |m+1,f+1,i,Q,z,hi,hfu,hQ=>by
  have h':=h
  obtain⟨p1,p2,p3,p4,p5⟩:=h'
  have hp:=hf.rng
  have hm:(i+1)*d≤n*d:=Nat.mul_le_mul_right _ (by omega)
  have hm2:(i+1)*d=i*d+d:=by rw[Nat.add_mul,Nat.one_mul]
  have hm3:n*d≤1024*9:=Nat.mul_le_mul hn (by omega)
  rw[Xa]
  unfold X3i
  rw[if_pos (by omega)]
  have key:∀sec:Int,sec=(if i=idx then 1 else 0)→∃Q' z',(X1s (Xa X9 (n:Int) (idx:Int) f) (i:Int) z T ((a+i*d:Nat):Int) (s:Int) (d:Int) p Q) sec=some (Q',(T,((a+n*d:Nat):Int)),z')∧z'=0∧Qc p s d idx (T.drop a) n Q':=fun sec hsec=>by
   unfold X1s
   have hse:E1 p sec:=by rw[hsec];split;exact Xgj hp.1;exact Xhs hp.1
   obtain⟨sh,s1,s2⟩:=Xix hf hse (d:=d) (s:=s) (by omega) (by omega) p5 hT hl (a:=a+i*d) (by omega)
   rw[s1,Option.bind_some,if_neg (by simp)]
   dsimp only
   have hc:sec::(T.drop (a+i*d)).take d=hid d idx (T.drop a) i:=by
    unfold hid
    rw[hsec,List.drop_drop]
   rw[hc] at s2
   obtain⟨A,a1,a2,a3⟩:=Xnd (Xa X9 (n:Int) (idx:Int) f) (i:Int) T ((a+i*d+d:Nat):Int) z (s:Int) (d:Int) p s2 hQ.len hQ.rw (by omega) sh 0 Q rfl (by omega) hQ.len (fun k hk=>by rw[if_neg (by omega)])
   rw[a1,w64_id (by omega) (by omega),show(i:Int)+1=((i+1:Nat):Int) by omega,show a+i*d+d=a+(i+1)*d by omega]
   refine Xne hf h hn hT hl hac m f (i+1) A z (by omega) (by omega) {len:=a2,rw:=Xjj hQ.len hQ.rw a2 (fun k hk=>by obtain⟨v,v1,v2,_⟩:=a3 k hk;exact⟨v,v1,v2⟩),val:=fun k hk j hj=>?_}
   obtain⟨v,v1,v2,v3⟩:=a3 k hk
   have hql:=(hQ.rw.gr (i:=k) (by have:=hQ.len;omega)).1
   rw[v1,Xji hql]
   by_cases hji:j<i
   ·rw[if_pos hji];exact hQ.val k hk j hji
   ·have:j=i:=by omega
    subst this
    rw[if_neg (by omega),if_pos rfl];exact v3
  by_cases hx:(i:Int)=(idx:Int)
  ·rw[if_pos hx];exact key 1 (by rw[if_pos (by omega)])
  ·rw[if_neg hx];exact key 0 (by rw[if_neg (by omega)])
theorem cvqueries{p:Int}(hf:Fp p){s d n idx:Nat}(h:PlanOK p s d)(hn:1≤n∧n≤1024)(hi:idx<n){T:List Int}(hT:El p T)(hl:T.length≤16384){a:Nat}(hac:a+n*d≤T.length):
  ∃qs,X6e p ((s:Int),(d:Int)) (n:Int) (idx:Int) (T,(a:Int))=some (qs,(T,((a+n*d:Nat):Int)),0)∧Qc p s d idx (T.drop a) n qs:=by
 have h':=h
 obtain⟨p1,p2,p3,p4,p5⟩:=h'
 unfold X6e
 rw[cvlimits hf h hn,Option.bind_some,if_neg (by simp),if_neg (by omega)]
 dsimp only
 rw[Xca _ (by omega),Option.bind_some]
 obtain⟨Q,z,e1,e2,e3⟩:=Xne hf h (n:=n) (idx:=idx) (by omega) hT hl hac n big 0 (List.replicate s []) 0 (by omega) (by simp only [big];omega) {len:=by simp,rw:=fun r hr=>by rw[(List.mem_replicate.1 hr).2];exact⟨rfl,El.nil⟩,val:=fun k hk i hi=>by omega}
 rw[Nat.zero_mul,Nat.add_zero,show((0:Nat):Int)=0 from rfl] at e1
 rw[e1]
 subst e2
 exact⟨Q,rfl,e3⟩
theorem Xjk{p:Int}(hf:Fp p)(rec:Int→(List (List Int))→Int→(List Int)→Int→Int→Int→Int→Int→Option QR){c:List Int}(hc:El p c)(hcl:c.length≤500){s:Nat}(hs:s≤10)(hsp:(s:Int)<p){Q:List (List Int)}(hQ:Q.length=s){n:Nat}(hQR:Rw p n Q)(hn:n≤2000)(z1:Int)(z2:List Int)(z3 z4 z6 z7:Int):∀(m f i:Nat)(A:List (List Int)),i+m=s→m<f→A.length=s→(∀k,k<s→if k<i then ∃v,gr A k=gr Q k++[v]∧E1 p v∧Cg p v (Alg.pv c ((k:Int)+1)) else gr A k=gr Q k)→
  ∃A',X1c rec c z1 z2 z3 z4 (s:Int) z6 z7 p f ((i:Int)+1) A=rec (w64 (z1+1)) A' z4 z2 z3 (s:Int) z6 z7 p∧A'.length=s∧∀k,k<s→∃v,gr A' k=gr Q k++[v]∧E1 p v∧Cg p v (Alg.pv c ((k:Int)+1))
 |m,0,i,_,_,h,_,_=>by omega
 |0,f+1,i,A,hi,_,hA,h=>by
  rw[X1c]
  unfold X3j
  rw[if_neg (by omega)]
  refine⟨A,rfl,hA,fun k hk=>?_⟩
  have:=h k hk
  rwa [if_pos (by omega)] at this
 |m+1,f+1,i,A,hi,hfu,hA,h=>by
  rw[X1c]
  unfold X3j
  obtain⟨v,v1,v2,v3⟩:=Xjg hf hc (by omega) (x:=(i:Int)+1) ⟨by omega,by omega⟩
  have hi0:=h i (by omega)
  rw[if_neg (by omega)] at hi0
  have hql:=(hQR.gr (i:=i) (by omega)).1
  rw[if_pos (by omega),v1,Option.bind_some,w64_id (x:=(i:Int)+1-1) (by omega) (by omega),show(i:Int)+1-1=(i:Int) by omega,Xet (by omega),Option.bind_some,hi0,X2 (by simp;omega),Option.bind_some,Option.bind_some,Xay (by omega),Option.bind_some,w64_id (by omega) (by omega),show(i:Int)+1+1=((i+1:Nat):Int)+1 by omega]
  refine Xjk hf rec hc hcl hs hsp hQ hQR hn z1 z2 z3 z4 z6 z7 m f (i+1) _ (by omega) (by omega) (by simpa using hA) (fun k hk=>?_)
  have hk0:=h k hk
  rw[Xje (by omega)]
  by_cases hki:k=i
  ·subst hki
   rw[if_pos (by omega),if_pos rfl]
   exact⟨v,rfl,v2,v3⟩
  ·rw[if_neg hki]
   by_cases hk2:k<i
   ·rw[if_pos (by omega)];rwa [if_pos hk2] at hk0
   ·rw[if_neg (by omega)];rwa [if_neg hk2] at hk0
theorem Xjl{p:Int}(hf:Fp p){s D G n g:Nat}(h:StOK p s D G)(hn:n≤1024){T:List Int}(hT:El p T)(hl:T.length≤16384){a:Nat}(hac:a+n*D≤T.length):∀(m f i:Nat)(Q:List (List Int))(z:Int),i+m=n→m<f→Qd p s D G i g (T.drop a) Q→
  ∃Q',Xc Xb (n:Int) (g:Int) f (i:Int) Q z T ((a+i*D:Nat):Int) (s:Int) (D:Int) (G:Int) p=some (Q',(T,((a+n*D:Nat):Int)),0)∧Qd p s D G n g (T.drop a) Q'
 |m,0,i,_,_,_,h,_=>by omega
 |0,f+1,i,Q,z,hi,_,hQ=>by
  rw[Xc]
  unfold X3k
  rw[if_neg (by omega)]
  have:i=n:=by omega
  subst this
  exact⟨Q,rfl,hQ⟩
 |m+1,f+1,i,Q,z,hi,hfu,hQ=>by
  have h':=h
  obtain⟨p1,p2,p3,p4,p5,p6⟩:=h'
  have hp:=hf.rng
  have hm:(i+1)*D≤n*D:=Nat.mul_le_mul_right _ (by omega)
  have hm2:(i+1)*D=i*D+D:=by rw[Nat.add_mul,Nat.one_mul]
  have hm3:n*D≤1024*10:=Nat.mul_le_mul hn (by omega)
  rw[Xc]
  unfold X3k
  rw[if_pos (by omega),Xex hp hT hl (a:=a+i*D) (c:=D) (by omega),Option.bind_some,if_neg (by simp),Xca _ (by omega),Option.bind_some]
  dsimp only
  rw[X2 (by simp;omega),Option.bind_some]
  have hdr:(T.drop (a+i*D)).take D=drw D (T.drop a) i:=by unfold drw;rw[List.drop_drop]
  rw[hdr]
  have hde:El p (drw D (T.drop a) i):=by rw[← hdr];exact hT.sub _ _
  have hdl:(drw D (T.drop a) i).length≤D:=by unfold drw;rw[List.length_take];omega
  have key:∀c:List Int,El p c→c.length≤500→(∀x,Alg.pv c x=x ^ G*Alg.pv (drw D (T.drop a) i) x+if i=g then 1 else 0)→∃Q',(X1t (Xc Xb (n:Int) (g:Int) f) (i:Int) T ((a+i*D+D:Nat):Int) z (s:Int) (D:Int) (G:Int) p Q) c=some (Q',(T,((a+n*D:Nat):Int)),0)∧Qd p s D G n g (T.drop a) Q':=fun c hc hcl hcv=>by
   unfold X1t
   obtain⟨A,a1,a2,a3⟩:=Xjk hf (Xc Xb (n:Int) (g:Int) f) hc hcl p2 p3 hQ.len hQ.rw (by omega) (i:Int) T ((a+i*D+D:Nat):Int) z (D:Int) (G:Int) s big 0 Q (by omega) (by simp only [big];omega) hQ.len (fun k hk=>by rw[if_neg (by omega)])
   rw[show((0:Nat):Int)+1=1 from rfl] at a1
   rw[a1,w64_id (by omega) (by omega),show(i:Int)+1=((i+1:Nat):Int) by omega,show a+i*D+D=a+(i+1)*D by omega]
   refine Xjl hf h hn hT hl hac m f (i+1) A z (by omega) (by omega) {len:=a2,rw:=Xjj hQ.len hQ.rw a2 (fun k hk=>by obtain⟨v,v1,v2,_⟩:=a3 k hk;exact⟨v,v1,v2⟩),val:=fun k hk j hj=>?_}
   obtain⟨v,v1,v2,v3⟩:=a3 k hk
   have hql:=(hQ.rw.gr (i:=k) (by have:=hQ.len;omega)).1
   rw[v1,Xji hql]
   by_cases hji:j<i
   ·rw[if_pos hji];exact hQ.val k hk j hji
   ·have:j=i:=by omega
    subst this
    rw[if_neg (by omega),if_pos rfl, ← hcv];exact v3
  by_cases hx:(i:Int)=(g:Int)
  ·obtain⟨G',rfl⟩:∃G',G=G'+1:=⟨G-1,by omega⟩
   rw[if_pos hx,Xg2 0 (by omega) (by simp;omega),Option.bind_some,Xhm (by omega) (by simp;omega),Option.bind_some]
   refine key _ (fun y hy=>?_) (by simp;omega) (fun x=>?_)
   ·rcases List.mem_or_eq_of_mem_set hy with h |rfl
    ·exact((Xax hp.1 _).app hde) y h
    ·exact Xgj hp.1
   ·rw[if_pos (by omega)]
    have e:(List.replicate (G'+1) (0:Int)++drw D (T.drop a) i).set (0:Int).toNat 1=1::(List.replicate G' 0++drw D (T.drop a) i):=by rw[List.replicate_succ];rfl
    rw[e,Alg.pv,Xhq,Alg.Xer,List.length_replicate,Int.pow_succ,Int.zero_add]
    have:x ^ G'*Alg.pv (drw D (T.drop a) i) x*x=x ^ G'*x*Alg.pv (drw D (T.drop a) i) x:=by rw[Int.mul_assoc,Int.mul_comm (Alg.pv _ x) x,Int.mul_assoc]
    omega
  ·rw[if_neg hx]
   refine key _ ((Xax hp.1 _).app hde) (by simp;omega) (fun x=>?_)
   rw[if_neg (by omega),Xhq,Alg.Xer,List.length_replicate]
   omega
theorem cdqueries{p:Int}(hf:Fp p){s D G m g:Nat}(h:StOK p s D G)(hm:1≤m∧m≤1024)(hg:g<m){T:List Int}(hT:El p T)(hl:T.length≤16384){a:Nat}(hac:a+m*D≤T.length):
  ∃qs,X6f p ((s:Int),(D:Int),(G:Int)) (m:Int) (g:Int) (T,(a:Int))=some (qs,(T,((a+m*D:Nat):Int)),0)∧Qd p s D G m g (T.drop a) qs:=by
 have h':=h
 obtain⟨p1,p2,p3,p4,p5,p6⟩:=h'
 unfold X6f
 rw[cdlimits hf h hm,Option.bind_some,if_neg (by simp),if_neg (by omega)]
 dsimp only
 rw[Xca _ (by omega),Option.bind_some]
 obtain⟨Q,e1,e3⟩:=Xjl hf h (n:=m) (g:=g) (by omega) hT hl hac m big 0 (List.replicate s []) 0 (by omega) (by simp only [big];omega) {len:=by simp,rw:=fun r hr=>by rw[(List.mem_replicate.1 hr).2];exact⟨rfl,El.nil⟩,val:=fun k hk i hi=>by omega}
 rw[Nat.zero_mul,Nat.add_zero,show((0:Nat):Int)=0 from rfl] at e1
 rw[e1]
 exact⟨Q,rfl,e3⟩
end Go.Proofs.YtnfalgmfmiolbaaGreat.Hh
end

section
namespace Go.Proofs.YtnfalgmfmiolbaaGreat
set_option linter.unusedVariables false
def DiceOK(d:List Int×Int):Prop:=0≤d.2∧d.2≤1000∧d.1.length≤300∧∀x∈d.1,0≤x∧x≤255
theorem dpick{d:List Int×Int}(hd:DiceOK d){n:Int}(hn:1≤n):∃v e,X4 d n=some (v,e)∧0≤v∧v<n∧DiceOK e:=by
 obtain⟨h1,h2,h3,h4⟩:=hd
 unfold X4
 by_cases hl:(d.1.length:Int)≤d.2
 ·rw[if_pos hl];exact⟨0,d,rfl,by omega,by omega,h1,h2,h3,h4⟩
 ·rw[if_neg hl,w64_id (x:=d.2+1) (by omega) (by omega),show d.2+1-1=d.2 from by omega,w64_id (x:=d.2) (by omega) (by omega),Xg2 0 h1 (by omega),Option.bind_some,Xhl (by omega),Option.bind_some]
  generalize hx:d.1.getD d.2.toNat 0=x
  have hm:x∈d.1:=by
   rw[← hx,List.getD_eq_getElem?_getD,List.getElem?_eq_getElem (by omega)]
   exact List.getElem_mem _
  have hxr:=h4 x hm
  rw[w64_id (x:=x) (by omega) (by omega)]
  exact⟨_,_,rfl,Int.tmod_nonneg _ (by omega),Int.tmod_lt_of_pos _ (by omega),by dsimp only;omega,by dsimp only;omega,h3,h4⟩
theorem dnew{t:List Int}(ht:∀x∈t,0≤x∧x≤255):∃d,Xbi t=some d∧DiceOK d:=by
 unfold Xbi X8i
 by_cases hl:300<(t.length:Int)
 ·rw[if_pos hl,X3t (by omega) (by omega) (by omega),Option.bind_some]
  refine⟨_,rfl,by dsimp only;omega,by dsimp only;omega,?_,fun x hx=>ht x ?_⟩
  ·simp;omega
  ·simp only [Int.toNat_zero,List.drop_zero] at hx
   exact List.mem_of_mem_take hx
 ·rw[if_neg hl]
  exact⟨_,rfl,by dsimp only;omega,by dsimp only;omega,by dsimp only;omega,ht⟩
end Go.Proofs.YtnfalgmfmiolbaaGreat
end

section
namespace Go.Proofs.YtnfalgmfmiolbaaGreat.Hh
set_option linter.unusedVariables false
open Alg (Cg Pr)
theorem Xnf{p x:Int}{t l:List Int}(h:t.length=l.length){i:Nat}(hi:i<t.length):Alg.gd (at_ p x t l) i=(Alg.gd t i+x*Alg.gd l i)%p:=by
 have hi2:i<l.length:=by omega
 have e:Alg.gd (at_ p x t l) i=(Alg.gd t i+x*Alg.gd l i%p)%p:=by
  simp [Alg.gd,at_,List.getD_eq_getElem?_getD,List.getElem?_zipWith,hi,hi2]
 rw[e,Int.add_emod_emod]
theorem Xng{p:Int}(hp:2≤p∧p≤65521)(rec:(List Int)→Int→Option IR){c:List Int}(hc:El p c){i:Nat}(hi:i<c.length){t r:List Int}(ht:El p t)(hr:El p r)(hl:r.length=t.length)(hn:t.length≤1000):∀(xs:List Int)(j:Nat),r.drop j=xs→j≤t.length→Xw rec (i:Int) c p xs j (mixl (at_ p (Alg.gd c i) t r) t j)=rec (at_ p (Alg.gd c i) t r) p
 | [],j,hd,hj=>by
  have h1:=List.drop_eq_nil_iff.1 hd
  rw[Xw,show j=t.length by omega,Xew (Xc9 hl.symm)]
 |x::xs,j,hd,hj=>by
  have hlt:j<r.length:=by
   rcases Nat.lt_or_ge j r.length with h |h
   ·exact h
   ·rw[List.drop_eq_nil_of_le h] at hd;cases hd
  have hx:x=Alg.gd r j:=by
   rw[List.drop_eq_getElem_cons hlt] at hd
   rw[← (List.cons.inj hd).1];simp [Alg.gd,List.getD_eq_getElem?_getD,hlt]
  show X3n rec (i:Int) c p (Xw rec (i:Int) c p xs (j+1)) x j _=_
  unfold X3n
  have hal:=Xc9 (p:=p) (x:=Alg.gd c i) hl.symm
  have hml:=Xeu hal j
  have hxe:E1 p x:=by rw[hx];exact El.gd hp.1 hr j
  rw[Xbe hi,Option.bind_some,Xbe (by omega),Option.bind_some,nzp hp,Option.bind_some,Option.bind_some,Xg4 hal (by omega),accm hp (El.gd hp.1 ht j) (El.gd hp.1 hc i) hxe,hx, ← Xnf hl.symm (by omega),Xay (by omega),Option.bind_some,Xev hal (by omega)]
  exact Xng hp rec hc hi ht hr hl hn xs (j+1) (by rw[← List.drop_drop,hd];rfl) (by omega)
theorem Xnh{p:Int}(hp:2≤p∧p≤65521){c:List Int}(hc:El p c){w:Nat}(hw:w≤1000):∀(R:List (List Int))(i:Nat)(t:List Int),i+R.length=c.length→Rw p w R→t.length=w→El p t→Xh c R i t p=some (comb p (c.drop i) R t,0)
 | [],i,t,_,_,_,_=>rfl
 |r::R,i,t,hi,hR,ht,he=>by
  obtain⟨⟨a,b⟩,hR⟩:=Rw.cons.1 hR
  simp only [List.length_cons] at hi
  show X3o c (Xh c R (i+1)) r i t p=_
  unfold X3o
  have:=Xng hp (Xh c R (i+1)) hc (i:=i) (by omega) he b (by omega) (by omega) r 0 rfl (by omega)
  rw[Xht] at this
  rw[this,Xnh hp hc hw R (i+1) _ (by omega) hR (by rw[Xc9 (by omega)];exact ht) (Xlk hp.1 _ _),comb]
  have e1:Alg.gd (c.drop i) 0=Alg.gd c i:=by rw[Xhp,Nat.add_zero]
  rw[e1,List.tail_drop]
theorem Xni{p:Int}(hf:Fp p)(kx:Int→Option IR){w:Nat}:∀R:List (List Int),Rw p w R→X1e kx p R=kx p
 | [],_=>rfl
 |r::R,h=>by
  obtain⟨⟨a,b⟩,h⟩:=Rw.cons.1 h
  show X3p kx p (X1e kx p R) r=_
  unfold X3p
  rw[Xgx hf b,Option.bind_some,if_neg (by decide)]
  exact Xni hf kx R h
theorem Xnj(kx:Int→Option IR){p:Int}{w:Nat}(z:Int):∀R:List (List Int),Rw p w R→X1g kx (w:Int) z R=kx z
 | [],_=>rfl
 |r::R,h=>by
  obtain⟨⟨a,b⟩,h⟩:=Rw.cons.1 h
  show X3q kx (w:Int) z (X1g kx (w:Int) z R) r=_
  unfold X3q
  rw[if_neg (by omega)]
  exact Xnj kx z R h
theorem Xhw{p:Int}(hf:Fp p){c:List Int}(hc:El p c){w:Nat}(hw:w≤64){R:List (List Int)}(hR:Rw p w R)(hl:c.length=R.length):X7j p (w:Int) R c=some (comb p c R (List.replicate w 0),0):=by
 unfold X7j X94 X80
 rw[hf.ck,Option.bind_some,if_neg (by decide),if_neg (by omega),if_neg (by omega),Xnj _ _ _ hR]
 unfold X1f
 rw[Xgx hf hc,Option.bind_some,if_neg (by decide),Xni hf _ _ hR]
 unfold X1d
 rw[Xca _ (by omega),Option.bind_some,Xnh hf.rng hc (w:=w) (by omega) R 0 _ (by omega) hR (by simp) (Xax hf.rng.1 w)]
 rfl
theorem Xgy{p:Int}(hf:Fp p){c:List Int}{w:Nat}{R:List (List Int)}(hR:Rw p w R):(comb p c R (List.replicate w 0)).length=w∧El p (comb p c R (List.replicate w 0))∧∀j,Cg p (Alg.gd (comb p c R (List.replicate w 0)) j) (Alg.sm R.length (fun i=>Alg.gd c i*Alg.gd (gr R i) j)):=by
 obtain⟨h1,h2,h3⟩:=Xho hf.rng.1 R c (List.replicate w 0) hR (by simp) (Xax hf.rng.1 w)
 refine⟨h1,h2,fun j=>?_⟩
 have:=h3 j
 rwa [Xes,Int.zero_add] at this
abbrev HR:=(List (List Int))×Int
theorem Xnk{p:Int}(hp:2≤p∧p≤65521)(rec:Int→(List Int)→Int→Int→Int→Int→Option HR){x:Int}(hx:E1 p x)(z1 z2 z3 z4:Int){t r:List Int}(ht:El p t)(hr:El p r)(hl:r.length=t.length)(hn:t.length≤1000):∀(xs:List Int)(j:Nat),r.drop j=xs→j≤t.length→X1x rec z1 x z2 z3 z4 p xs j (mixl (at_ p x t r) t j)=rec (w64 (z1+1)) (at_ p x t r) z2 z3 z4 p
 | [],j,hd,hj=>by
  have h1:=List.drop_eq_nil_iff.1 hd
  rw[X1x,show j=t.length by omega,Xew (Xc9 hl.symm)]
 |y::xs,j,hd,hj=>by
  have hlt:j<r.length:=by
   rcases Nat.lt_or_ge j r.length with h |h
   ·exact h
   ·rw[List.drop_eq_nil_of_le h] at hd;cases hd
  have hy:y=Alg.gd r j:=by
   rw[List.drop_eq_getElem_cons hlt] at hd
   rw[← (List.cons.inj hd).1];simp [Alg.gd,List.getD_eq_getElem?_getD,hlt]
  show X64 rec z1 x z2 z3 z4 p (X1x rec z1 x z2 z3 z4 p xs (j+1)) y j _=_
  unfold X64
  have hal:=Xc9 (p:=p) (x:=x) hl.symm
  have hml:=Xeu hal j
  have hye:E1 p y:=by rw[hy];exact El.gd hp.1 hr j
  rw[Xbe (by omega),Option.bind_some,nzp hp,Option.bind_some,Option.bind_some,Xg4 hal (by omega),accm hp (El.gd hp.1 ht j) hx hye,hy, ← Xnf hl.symm (by omega),Xay (by omega),Option.bind_some,Xev hal (by omega)]
  exact Xnk hp rec hx z1 z2 z3 z4 ht hr hl hn xs (j+1) (by rw[← List.drop_drop,hd];rfl) (by omega)
theorem Xnl{p:Int}(hp:2≤p∧p≤65521){w:Nat}(hw:w≤64){x:Int}(hx:E1 p x){R:List (List Int)}(hR:Rw p w R)(hn:R.length≤1024){G g:Nat}(hG:G≤100)(hg:g*G≤100000)(kx:(List Int)→Int→Int→Int→Int→Option HR)(z1 z2:Int):∀(xs:List (List Int))(f i:Nat)(v:List Int),(grp R G g).drop i=xs→i≤(grp R G g).length→xs.length<f→v.length=w→El p v→
  ∃v',Xq kx (g:Int) R x f (i:Int) v z1 z2 (G:Int) p=kx v' z1 z2 (G:Int) p∧v'.length=w∧El p v'∧∀j,Cg p (Alg.gd v' j) (Alg.gd v j+x ^ i*Alg.pv (xs.map fun r=>Alg.gd r j) x)
 |xs,0,i,v,_,_,h,_,_=>by omega
 | [],f+1,i,v,hd,hi,hf,h1,h2=>by
  have h3:=List.drop_eq_nil_iff.1 hd
  have h4:(grp R G g).length=min G (R.length-g*G):=by unfold grp;rw[List.length_take,List.length_drop]
  rw[Xq]
  unfold X65
  rw[show(g:Int)*(G:Int)=((g*G:Nat):Int) by simp,w64_id (x:=((g*G:Nat):Int)) (by omega) (by omega),w64_id (x:=((g*G:Nat):Int)+(i:Int)) (by omega) (by omega),if_neg (by omega)]
  exact⟨v,rfl,h1,h2,fun j=>Cg.of (by simp [Alg.pv])⟩
 |r::xs,f+1,i,v,hd,hi,hf,h1,h2=>by
  have h4:(grp R G g).length=min G (R.length-g*G):=by unfold grp;rw[List.length_take,List.length_drop]
  have hlt:i<(grp R G g).length:=by
   rcases Nat.lt_or_ge i (grp R G g).length with h |h
   ·exact h
   ·rw[List.drop_eq_nil_of_le h] at hd;cases hd
  have hr:gr R (g*G+i)=r:=by
   rw[List.drop_eq_getElem_cons hlt] at hd
   rw[← (List.cons.inj hd).1,Xiv (by omega)]
   simp [grp]
  have hrr:=hR.gr (i:=g*G+i) (by omega)
  rw[hr] at hrr
  rw[Xq]
  unfold X65
  obtain⟨c,c1,c2,c3⟩:=Xn6 hp hx (n:=i) (by omega)
  rw[show(g:Int)*(G:Int)=((g*G:Nat):Int) by simp,w64_id (x:=((g*G:Nat):Int)) (by omega) (by omega),w64_id (x:=((g*G:Nat):Int)+(i:Int)) (by omega) (by omega),if_pos (by omega),c1,Option.bind_some,show((g*G:Nat):Int)+(i:Int)=((g*G+i:Nat):Int) by omega,Xet (by omega),Option.bind_some,hr]
  have l2:=Xnk hp (Xq kx (g:Int) R x f) c2 (i:Int) z1 z2 (G:Int) h2 hrr.2 (by omega) (by omega) r 0 rfl (by omega)
  rw[Xht] at l2
  rw[l2,w64_id (by omega) (by omega),show(i:Int)+1=((i+1:Nat):Int) by omega]
  obtain⟨v',e1,e2,e3,e4⟩:=Xnl hp hw hx hR hn hG hg kx z1 z2 xs f (i+1) (at_ p c v r) (by rw[← List.drop_drop,hd];rfl) (by omega) (by simp at hf;omega) (by rw[Xc9 (by omega)];exact h1) (Xlk hp.1 _ _)
  refine⟨v',e1,e2,e3,fun j=>(e4 j).trans ?_⟩
  have h5:=(Xn3 (p:=p) (x:=c) (t:=v) (l:=r) (by omega) j).trans ((Cg.refl p _).add (c3.mul (Cg.refl p (Alg.gd r j))))
  refine(h5.add (Cg.refl p _)).trans (Cg.of ?_)
  rw[List.map_cons,Alg.pv,Int.pow_succ,Int.mul_add]
  generalize Alg.pv (xs.map fun r=>Alg.gd r j) x=u
  have:x ^ i*x*u=x ^ i*(u*x):=by rw[Int.mul_assoc,Int.mul_comm x u]
  omega
theorem Xnm{p:Int}(hp:2≤p∧p≤65521){w:Nat}(hw:w≤64){x:Int}(hx:E1 p x){R:List (List Int)}(hR:Rw p w R)(hn:R.length≤1024){G:Nat}(hG:1≤G∧G≤2){m:Nat}(hm:m≤1024)(z1 z2:Int):∀(c f g:Nat)(H:List (List Int)),g+c=m→c<f→Hld p w g G R x H→
  ∃H',Xg (w:Int) R x (m:Int) f H (g:Int) z1 z2 (G:Int) p=some (H',0)∧Hld p w m G R x H'
 |c,0,g,H,_,h,_=>by omega
 |0,f+1,g,H,hc0,_,h=>by
  rw[Xg]
  unfold X66
  rw[if_neg (by omega)]
  have:g=m:=by omega
  subst this
  exact⟨H,rfl,h⟩
 |c+1,f+1,g,H,hc0,hf,h=>by
  have hlen:=h.len
  have hgG:g*G≤1024*2:=Nat.mul_le_mul (by omega) hG.2
  rw[Xg]
  unfold X66
  rw[if_pos (by omega),Xca _ (by omega),Option.bind_some]
  have hgl:(grp R G g).length≤G:=by unfold grp;rw[List.length_take];omega
  obtain⟨v,e1,e2,e3,e4⟩:=Xnl hp hw hx hR hn (G:=G) (g:=g) (by omega) (by omega) (Xp (Xg (w:Int) R x (m:Int) f) (g:Int) H) z1 z2 (grp R G g) big 0 (List.replicate w 0) rfl (by omega) (by simp only [big];omega) (by simp) (Xax hp.1 w)
  rw[show((0:Nat):Int)=0 from rfl] at e1
  rw[e1]
  unfold Xp
  rw[X2 (by simp;omega),Option.bind_some,w64_id (by omega) (by omega),show(g:Int)+1=((g+1:Nat):Int) by omega]
  refine Xnm hp hw hx hR hn hG hm z1 z2 c f (g+1) (H++[v]) (by omega) (by omega) {len:=by simp [hlen],rw:=fun r hr=>?_,val:=fun g' hg' j=>?_}
  ·rcases List.mem_append.1 hr with hr |hr
   ·exact h.rw r hr
   ·rw[List.mem_singleton.1 hr];exact⟨e2,e3⟩
  ·rw[Xhv,hlen]
   by_cases hg2:g'<g
   ·rw[if_pos hg2];exact h.val g' hg2 j
   ·have e:g'=g:=by omega
    rw[if_neg hg2,if_pos e,e]
    have:=e4 j
    rw[Xes] at this
    refine this.trans (Cg.of ?_)
    rw[Int.pow_zero,Int.one_mul,Int.zero_add];rfl
theorem Xnn{p:Int}(hf:Fp p){w:Nat}(kx:Int→Int→Int→Int→Option HR)(z1 z2 z3:Int):∀xs:List (List Int),Rw p w xs→X33 kx (w:Int) z1 z2 z3 p xs=kx z1 z2 z3 p
 | [],_=>rfl
 |r::xs,h=>by
  obtain⟨⟨a,b⟩,h⟩:=Rw.cons.1 h
  show X67 kx (w:Int) z1 z2 z3 p (X33 kx (w:Int) z1 z2 z3 p xs) r=_
  unfold X67
  rw[if_neg (by omega),Xgx hf b,Option.bind_some,if_neg (by decide)]
  exact Xnn hf kx z1 z2 z3 xs h
theorem Xhx{s D n G:Nat}(hG:1≤G∧G≤2)(hn:n≤1024):X79 ((s:Int),(D:Int),(G:Int)) (n:Int)=some (((ngr n G:Nat):Int),0):=by
 unfold X79
 dsimp only
 have hG3:G=1∨G=2:=by omega
 rw[if_neg (by omega),Xhl (by omega),Option.bind_some,Option.bind_some]
 have e1:Int.tmod (n:Int) (G:Int)=((n%G:Nat):Int):=by rw[Int.tmod_eq_emod_of_nonneg (by omega)];omega
 have e2:Int.tdiv (n:Int) (G:Int)=((n/G:Nat):Int):=by rw[Int.tdiv_eq_ediv_of_nonneg (by omega)];omega
 have h3:n/G≤n:=Nat.div_le_self _ _
 have h0:(0:Int)≤((n/G:Nat):Int):=Int.natCast_nonneg _
 rw[e1,e2]
 unfold ngr
 rcases hG3 with rfl |rfl
 ·rw[w64_id (x:=((n/1:Nat):Int)) (by omega) (by omega),if_neg (by omega),show n/1=(n+1-1)/1 by omega]
 ·rw[w64_id (x:=((n/2:Nat):Int)) (by omega) (by omega),w64_id (by omega) (by omega)]
  by_cases h4:(0:Int)<((n%2:Nat):Int)
  ·rw[if_pos h4,show((n/2:Nat):Int)+1=(((n+2-1)/2:Nat):Int) by omega]
  ·rw[if_neg h4,show n/2=(n+2-1)/2 by omega]
theorem Xhy{p:Int}(hf:Fp p){s D G w k:Nat}(h:StOK p s D G)(hG:G≤2)(hk:k<s)(hw:w≤64){R:List (List Int)}(hR:Rw p w R)(hn:R.length≤1024):
  ∃H,X9j p ((s:Int),(D:Int),(G:Int)) (w:Int) R ((k:Int)+1)=some (H,0)∧Hld p w (ngr R.length G) G R ((k:Int)+1) H:=by
 have h':=h
 obtain⟨p1,p2,p3,p4,p5,p6⟩:=h'
 have hle:=Xds (n:=R.length) p5
 unfold X9j
 rw[cdcheck hf h,Option.bind_some,if_neg (by decide)]
 dsimp only
 rw[if_neg (by omega),if_neg (by omega),Xnn hf _ _ _ _ R hR]
 unfold X32
 rw[Xhx ⟨p5,hG⟩ hn,Option.bind_some]
 exact Xnm hf.rng hw (x:=(k:Int)+1) ⟨by omega,by omega⟩ hR hn ⟨p5,hG⟩ (m:=ngr R.length G) (by omega) (s:Int) (D:Int) (ngr R.length G) big 0 [] (by omega) (by simp only [big];omega) {len:=rfl,rw:=fun r hr=>(by cases hr),val:=fun g hg=>absurd hg (by omega)}
theorem Xg5{p:Int}{w:Nat}(hw:w≤1000){R:List (List Int)}(hR:Rw p w R)(hn:R.length≤1024):∀(m f i:Nat),i+m=R.length→m<f→X34 R f (R.take i) (i:Int)=some (R,0)
 |m,0,i,_,h=>by omega
 |0,f+1,i,h,_=>by
  rw[X34]
  unfold X68
  rw[if_neg (by omega),List.take_of_length_le (by omega)]
 |m+1,f+1,i,h,hf=>by
  rw[X34]
  unfold X68
  have hi:i<R.length:=by omega
  have hr:=hR.gr hi
  rw[if_pos (by omega),Xet hi,Option.bind_some,X2 (by simp;omega),Option.bind_some,List.nil_append,X2 (by simp;omega),Option.bind_some,w64_id (by omega) (by omega),show(i:Int)+1=((i+1:Nat):Int) by omega]
  have e:R.take i++[gr R i]=R.take (i+1):=by rw[List.take_succ_eq_append_getElem hi, ← Xiv hi]
  rw[e]
  exact Xg5 hw hR hn m f (i+1) (by omega) (by omega)
theorem Xgo{p:Int}(hf:Fp p){w:Nat}:∀R:List (List Int),Rw p w R→X25 p (w:Int) R=some 0
 | [],_=>rfl
 |r::R,h=>by
  obtain⟨⟨a,b⟩,h⟩:=Rw.cons.1 h
  show X4t p (w:Int) (X25 p (w:Int) R) r=_
  unfold X4t
  rw[if_neg (by omega),Xgx hf b,Option.bind_some,if_neg (by decide)]
  exact Xgo hf R h
theorem tcheck{p:Int}(hf:Fp p){w:Nat}(hw:1≤w∧w≤64){R:List (List Int)}(hR:Rw p w R)(hn:R.length≤1024){num:Int}(h1:1≤num∧num<2147483647):X2z (num,p,(w:Int),R)=some 0:=by
 unfold X2z
 dsimp only
 rw[if_neg (by omega),hf.ck,Option.bind_some,if_neg (by decide),if_neg (by omega),if_neg (by omega)]
 exact Xgo hf R hR
end Go.Proofs.YtnfalgmfmiolbaaGreat.Hh
end

section
namespace Go.Proofs.YtnfalgmfmiolbaaGreat.Hh
set_option linter.unusedVariables false
open Alg (Cg Pr)
abbrev Sch:=Int×Int×Int×Int
inductive SOK(p:Int):Sch→Nat→Nat→(Nat→Nat)→Prop
 |par (s:Nat) (h:2≤s∧s≤10):SOK p (1,(s:Int),0,0) s s (fun n=>n*(s-1))
 |cv (s d:Nat) (h:PlanOK p s d):SOK p (2,(s:Int),(d:Int),0) s (d+1) (fun n=>n*d)
 |cd (s D G:Nat) (h:StOK p s D G) (hG:G≤2):SOK p (3,(s:Int),(D:Int),(G:Int)) s (2*G+D-1) (fun n=>ngr n G*D)
section
variable{p:Int}{y:Sch}{s k:Nat}{c:Nat→Nat}
theorem SOK.srv(h:SOK p y s k c):y.2.1=(s:Int)∧2≤s∧s≤10:=by
 cases h with
 |par s h=>exact⟨rfl,h⟩
 |cv s d h=>exact⟨rfl,h.1,h.2.1⟩
 |cd s D G h hG=>exact⟨rfl,h.1,h.2.1⟩
theorem SOK.shape(h:SOK p y s k c):X30 y=some true:=by
 cases h with
 |par s h=>unfold X30;dsimp only;rw[if_neg (by omega),if_pos rfl,decide_eq_true ⟨rfl,rfl⟩]
 |cv s d h=>
  obtain⟨h1,h2,h3,h4,h5⟩:=h
  unfold X30;dsimp only;rw[if_neg (by omega),if_neg (by omega),if_pos rfl,w64_id (by omega) (by omega),decide_eq_true ⟨by omega,rfl⟩]
 |cd s D G h hG=>
  obtain⟨h1,h2,h3,h4,h5,h6⟩:=h
  unfold X30;dsimp only;rw[if_neg (by omega),if_neg (by omega),if_neg (by omega),if_pos rfl,w64_id (x:=2*(G:Int)) (by omega) (by omega),w64_id (x:=2*(G:Int)+D) (by omega) (by omega),w64_id (by omega) (by omega),decide_eq_true (by omega)]
theorem SOK.valid(hf:Fp p)(h:SOK p y s k c):X19 y p=some true:=by
 have hs:=h.shape
 unfold X19
 rw[hs,Option.bind_some,if_pos rfl,hf.ck,Option.bind_some,Option.bind_some]
 refine congrArg some (decide_eq_true ⟨rfl,?_⟩)
 cases h with
 |par s h=>exact .inl rfl
 |cv s d h=>exact .inr h.2.2.2.2
 |cd s D G h hG=>exact .inr h.2.2.1
theorem Xgp{s D G n:Nat}(h:StOK p s D G)(hG:G≤2)(hn:1≤n∧n≤1024):X6r (3,(s:Int),(D:Int),(G:Int)) (n:Int)=some ((ngr n G:Nat):Int):=by
 unfold X6r
 have h5:=h.2.2.2.2.1
 rw[(SOK.cd s D G h hG).shape,Option.bind_some,if_neg (by simp;omega),if_pos rfl]
 dsimp only
 have hle:=Xds (n:=n) h5
 have e:Int.tdiv ((n:Int)+G-1) (G:Int)=((ngr n G:Nat):Int):=by
  rw[Int.tdiv_eq_ediv_of_nonneg (by omega),show(n:Int)+G-1=((n+G-1:Nat):Int) by omega];unfold ngr;omega
 rw[Xhl (by omega),Option.bind_some,w64_id (x:=(n:Int)+G) (by omega) (by omega),w64_id (x:=(n:Int)+G-1) (by omega) (by omega),e,w64_id (by omega) (by omega)]
theorem SOK.limits(hf:Fp p)(h:SOK p y s k c){n:Nat}(hn:1≤n∧n≤64):X7d y p (n:Int)=some (List.replicate (c n) p,0)∧c n≤640:=by
 have hv:=h.valid hf
 unfold X7d
 rw[hv,Option.bind_some,if_neg (by decide),if_neg (by omega)]
 cases h with
 |par s h=>
  refine⟨?_,show n*(s-1)≤64*10 from Nat.mul_le_mul hn.2 (by omega)⟩
  rw[if_pos rfl];dsimp only;rw[prlimits hf (by omega) h];rfl
 |cv s d h=>
  refine⟨?_,show n*d≤64*10 from Nat.mul_le_mul hn.2 (by have:=h.2.1;have:=h.2.2.2.1;omega)⟩
  rw[if_neg (by simp),if_pos rfl];unfold X85;rw[Option.bind_some];dsimp only;rw[cvlimits hf h (by omega)];rfl
 |cd s D G h hG=>
  have hle:=Xds (n:=n) h.2.2.2.2.1
  have hpos:=Xg3 (n:=n) h.2.2.2.2.1 hn.1
  refine⟨?_,show ngr n G*D≤64*10 from Nat.mul_le_mul (by omega) (by have:=h.2.1;have:=h.2.2.2.2.1;have:=h.2.2.2.2.2;omega)⟩
  rw[if_neg (by simp),if_neg (by simp)];unfold X1w;rw[Option.bind_some,Xgp h hG (by omega),Option.bind_some];dsimp only;rw[cdlimits hf h (by omega)];rfl
end
end Go.Proofs.YtnfalgmfmiolbaaGreat.Hh
end

section
namespace Go.Proofs.YtnfalgmfmiolbaaGreat.Hh
set_option linter.unusedVariables false
open Alg (Cg Pr)
section
variable{p:Int}(hf:Fp p){y:Sch}{s k:Nat}{c:Nat→Nat}(h:SOK p y s k c)
include hf h
theorem l24_L{n m:Nat}(hn:1≤n∧n≤64)(hm:m≤16):∀(d f i:Nat),i+d=m→d<f→X1n (n:Int) (m:Int) p y.1 y.2.1 y.2.2.1 y.2.2.2 f (List.replicate (i*c n) p) (i:Int)=some (List.replicate (m*c n) p,0)
 |d,0,i,_,h=>by omega
 |0,f+1,i,hi,_=>by
  rw[X1n]
  unfold X4d
  rw[if_neg (by omega),show i=m by omega]
 |d+1,f+1,i,hi,hfu=>by
  obtain⟨h1,h2⟩:=h.limits hf hn
  have h3:i*c n≤16*640:=Nat.mul_le_mul (by omega) h2
  rw[X1n]
  unfold X4d
  rw[if_pos (by omega),show((y.1,y.2.1,y.2.2.1,y.2.2.2):Sch)=y from rfl,h1,Option.bind_some,if_neg (by simp),X2 (by simp;omega),Option.bind_some,w64_id (by omega) (by omega),show(i:Int)+1=((i+1:Nat):Int) by omega]
  dsimp only
  rw[List.replicate_append_replicate,show i*c n+c n=(i+1)*c n by rw[Nat.add_mul,Nat.one_mul]]
  exact l24_L hn hm d f (i+1) (by omega) (by omega)
theorem limits24{n m:Nat}(hn:1≤n∧n≤64)(hm:1≤m∧m≤16):X7e y p (n:Int) (m:Int)=some (List.replicate (m*c n) p,0):=by
 unfold X7e
 rw[h.valid hf,Option.bind_some,if_neg (by decide),if_neg (by omega)]
 have:=l24_L hf h hn hm.2 m big 0 (by omega) (by simp only [big];omega)
 rw[Nat.zero_mul] at this
 exact this
end
theorem Xfn{p:Int}(hp:7≤p){d:List Int×Int}(hd:DiceOK d):∃y e s k c,X3d d=some (y,e)∧SOK p y s k c∧DiceOK e:=by
 unfold X3d
 obtain⟨v,e1,b1,v0,v1,c1⟩:=dpick hd (n:=4) (by omega)
 obtain⟨u,e2,b2,u0,u1,c2⟩:=dpick (d:=e1) c1 (n:=3) (by omega)
 rw[b1,Option.bind_some,b2,Option.bind_some]
 obtain⟨s,hs⟩:∃s:Nat,3+v=(s:Int):=⟨(3+v).toNat,by omega⟩
 dsimp only
 rw[w64_id (x:=3+v) (by omega) (by omega),hs]
 by_cases h0:u=0
 ·rw[if_pos h0]
  exact⟨_,e2,s,s,_,rfl, .par s (by omega),c2⟩
 ·rw[if_neg h0]
  by_cases h1:u=1
  ·obtain⟨t,e3,b3,t0,t1,c3⟩:=dpick (d:=e2) c2 (n:=2) (by omega)
   obtain⟨D,hD⟩:∃D:Nat,1+t=(D:Int):=⟨(1+t).toNat,by omega⟩
   rw[if_pos h1,b3,Option.bind_some]
   dsimp only
   rw[w64_id (x:=1+t) (by omega) (by omega),hD]
   exact⟨_,e3,s,D+1,_,rfl, .cv s D ⟨by omega,by omega,by omega,by omega,by omega⟩,c3⟩
  ·rw[if_neg h1]
   have one:∀d:List Int×Int,DiceOK d→∃y e s' k c,((X4 d 2).bind fun u49=>some ((((3:Int),(s:Int),(w64 (1+u49.1)),(1:Int)):Sch),u49.2))=some (y,e)∧SOK p y s' k c∧DiceOK e:=fun d hd=>by
    obtain⟨t,e3,b3,t0,t1,c3⟩:=dpick hd (n:=2) (by omega)
    obtain⟨D,hD⟩:∃D:Nat,1+t=(D:Int):=⟨(1+t).toNat,by omega⟩
    rw[b3,Option.bind_some]
    dsimp only
    rw[w64_id (x:=1+t) (by omega) (by omega),hD]
    exact⟨_,e3,s,2*1+D-1,_,rfl, .cd s D 1 ⟨by omega,by omega,by omega,by omega,by omega,by omega⟩ (by omega),c3⟩
   by_cases h4:(s:Int)<4
   ·rw[if_pos h4,Option.bind_some,if_pos rfl]
    exact one e2 c2
   ·rw[if_neg h4]
    obtain⟨t,e3,b3,t0,t1,c3⟩:=dpick (d:=e2) c2 (n:=2) (by omega)
    rw[b3,Option.bind_some,Option.bind_some]
    dsimp only
    by_cases ht:t=0
    ·rw[if_pos (decide_eq_true ht)]
     exact one e3 c3
    ·rw[if_neg (by simp [ht])]
     exact⟨_,e3,s,2*2+1-1,_,rfl, .cd s 1 2 ⟨by omega,by omega,by omega,by omega,by omega,by omega⟩ (by omega),c3⟩
end Go.Proofs.YtnfalgmfmiolbaaGreat.Hh
end

section
namespace Go.Proofs.YtnfalgmfmiolbaaGreat.Hh
set_option linter.unusedVariables false
open Alg (Cg Pr)
def unit(y:Sch)(n:Nat):Nat:=if y.1=3 then ngr n y.2.2.2.toNat else n
def QK(p:Int)(s u:Nat)(qs:List (List Int)):Prop:=qs.length=s∧Rw p u qs
section
variable{p:Int}(hf:Fp p){y:Sch}{s k:Nat}{c:Nat→Nat}(h:SOK p y s k c)
theorem Xhz{n:Nat}(h:SOK p y s k c)(hn:1≤n∧n≤64):unit y n≤1000:=by
 unfold unit
 cases h with
 |par s h=>rw[if_neg (by simp)];omega
 |cv s d h=>rw[if_neg (by simp)];omega
 |cd s D G h hG=>
  have:=Xds (n:=n) h.2.2.2.2.1
  simp only [if_pos,Int.toNat_natCast];omega
include hf h
theorem SOK.qs{n:Nat}(hn:1≤n∧n≤64){i:Nat}(hi:i<n){T:List Int}(hT:El p T)(hl:T.length≤16384){a:Nat}(hac:a+c n≤T.length):
  ∃qs,X6g y p (n:Int) (i:Int) (T,(a:Int))=some (qs,(T,((a+c n:Nat):Int)),0)∧QK p s (unit y n) qs:=by
 have hv:=h.valid hf
 unfold X6g
 rw[hv,Option.bind_some,if_neg (by decide),if_neg (by omega),if_neg (by omega)]
 unfold unit
 cases h with
 |par s h=>
  obtain⟨qs,q1,q2⟩:=prqueries hf (n:=n) (by omega) h hi hT hl hac
  rw[if_pos rfl]
  dsimp only
  rw[q1]
  exact⟨qs,rfl,q2.len,q2.rw⟩
 |cv s d h=>
  obtain⟨qs,q1,q2⟩:=cvqueries hf h (n:=n) (by omega) hi hT hl hac
  rw[if_neg (by simp),if_pos rfl]
  unfold X85
  rw[Option.bind_some]
  dsimp only
  rw[q1]
  exact⟨qs,rfl,q2.len,q2.rw⟩
 |cd s D G h hG=>
  have h5:=h.2.2.2.2.1
  have hle:=Xds (n:=n) h5
  have hpos:=Xg3 (n:=n) h5 hn.1
  have hmd:=Nat.div_mul_le_self i G
  have hgp:i/G<ngr n G:=(Xhr h5).2 (by omega)
  obtain⟨qs,q1,q2⟩:=cdqueries hf h (m:=ngr n G) (by omega) hgp hT hl hac
  have ed:Int.tdiv (i:Int) (G:Int)=((i/G:Nat):Int):=by rw[Int.tdiv_eq_ediv_of_nonneg (by omega)];omega
  rw[if_neg (by simp),if_neg (by simp)]
  dsimp only
  rw[Xhl (by omega),Option.bind_some]
  unfold X1w
  rw[Option.bind_some,Xgp h hG (by omega),Option.bind_some]
  dsimp only
  have hdl:=Nat.div_le_self i G
  rw[ed]
  generalize hz:i/G=z at*
  rw[w64_id (x:=((z:Nat):Int)) (by omega) (by omega),q1]
  refine⟨qs,rfl,q2.len,?_⟩
  rw[if_pos rfl,Int.toNat_natCast]
  exact q2.rw
theorem SOK.held{w:Nat}(hw:1≤w∧w≤64){R:List (List Int)}(hR:Rw p w R)(hn:1≤R.length∧R.length≤64){m:Nat}(hm:m<s){num:Int}(hnum:1≤num∧num<2147483647):
  ∃H,X5m y (num,p,(w:Int),R) ((m:Int)+1)=some (H,0)∧Rw p w H∧H.length=unit y R.length:=by
 have hv:=h.valid hf
 have hsv:=h.srv
 unfold X5m
 rw[tcheck hf hw hR (by omega) hnum,Option.bind_some,if_neg (by decide)]
 dsimp only
 rw[hv,Option.bind_some,if_neg (by decide),if_neg (by omega)]
 unfold unit
 cases h with
 |par s h=>
  rw[if_neg (by simp),if_neg (by simp)]
  exact⟨R,Xg5 (by omega) hR (by omega) R.length big 0 (by omega) (by simp only [big];omega),hR,rfl⟩
 |cv s d h=>
  rw[if_neg (by simp),if_neg (by simp)]
  exact⟨R,Xg5 (by omega) hR (by omega) R.length big 0 (by omega) (by simp only [big];omega),hR,rfl⟩
 |cd s D G h hG=>
  obtain⟨H,h1,h2⟩:=Xhy hf h hG hm hw.2 hR (by omega:R.length≤1024)
  rw[if_pos rfl]
  unfold X1w
  rw[Option.bind_some]
  dsimp only
  rw[h1,Option.bind_some]
  exact⟨H,rfl,h2.rw,by rw[h2.len];simp⟩
end
section
variable{p:Int}(hf:Fp p){y:Sch}{s k:Nat}{c:Nat→Nat}(h:SOK p y s k c){n:Nat}(hn:1≤n∧n≤64){rows:List Int}(hr:∀x∈rows, -1≤x∧x<(n:Int))(hm:1≤rows.length∧rows.length≤16)
include hn hr in
theorem Xjm{i:Nat}(hi:i<rows.length):∃x r:Int,∃j:Nat,lidx rows (i:Int)=some x∧ -1≤x∧x<(n:Int)∧max x 0=(j:Int)∧j<n:=by
 have hx:=hr _ (List.getElem_mem hi)
 refine⟨rows[i],0,(max rows[i] 0).toNat,?_,hx.1,hx.2,by omega,by omega⟩
 rw[Xaw 0 hi,List.getD_eq_getElem?_getD,List.getElem?_eq_getElem hi];rfl
include hn hr hm in
theorem Xc1:X5e rows (n:Int)=some true:=by
 have key:∀(d f i:Nat),i+d=rows.length→d<f→X27 rows (n:Int) f (i:Int)=some true:=by
  intro d
  induction d with
  |zero=>
   intro f i hi hf
   obtain⟨f,rfl⟩:∃g,f=g+1:=⟨f-1,by omega⟩
   rw[X27]
   unfold X4w
   rw[if_neg (by omega)]
  |succ d ih=>
   intro f i hi hf
   obtain⟨f,rfl⟩:∃g,f=g+1:=⟨f-1,by omega⟩
   obtain⟨x,_,j,h1,h2,h3,h4,h5⟩:=Xjm hn hr (i:=i) (by omega)
   rw[X27]
   unfold X4w
   rw[if_pos (by omega),h1,Option.bind_some,if_neg (by omega),Option.bind_some,Option.bind_some,if_neg (by simp;omega),w64_id (by omega) (by omega),show(i:Int)+1=((i+1:Nat):Int) by omega]
   exact ih f (i+1) (by omega) (by omega)
 unfold X5e
 rw[if_neg (by omega)]
 exact key rows.length big 0 (by omega) (by simp only [big];omega)
include hf h hn hr hm in
theorem q24s_L{T:List Int}(hT:El p T)(hl:T.length≤16384)(hc:rows.length*c n≤T.length):∀(d f i:Nat)(out:List (List (List Int))),i+d=rows.length→d<f→out.length=i→(∀q∈out,QK p s (unit y n) q)→
  ∃out' t',Xv Xu (n:Int) rows p y.1 y.2.1 y.2.2.1 y.2.2.2 f out (i:Int) T ((i*c n:Nat):Int)=some (out',t',0)∧out'.length=rows.length∧∀q∈out',QK p s (unit y n) q
 |d,0,i,_,_,h,_,_=>by omega
 |0,f+1,i,out,hi,_,ho,hg=>by
  rw[Xv]
  unfold X3l
  rw[if_neg (by omega)]
  have:i=rows.length:=by omega
  subst this
  exact⟨out,_,rfl,ho,hg⟩
 |d+1,f+1,i,out,hi,hfu,ho,hg=>by
  obtain⟨x,_,j,h1,_,_,h2,h5⟩:=Xjm hn hr (i:=i) (by omega)
  have h3:(i+1)*c n≤rows.length*c n:=Nat.mul_le_mul_right _ (by omega)
  have h4:(i+1)*c n=i*c n+c n:=by rw[Nat.add_mul,Nat.one_mul]
  obtain⟨qs,q1,q2⟩:=SOK.qs hf h hn h5 hT hl (a:=i*c n) (by omega)
  rw[Xv]
  unfold X3l X5a
  rw[if_pos (by omega),h1,Option.bind_some,h2,show((y.1,y.2.1,y.2.2.1,y.2.2.2):Sch)=y from rfl,q1,Option.bind_some,if_neg (by simp),X2 (by simp;omega),Option.bind_some,w64_id (by omega) (by omega),show(i:Int)+1=((i+1:Nat):Int) by omega, ← h4]
  refine q24s_L hT hl hc d f (i+1) _ (by omega) (by omega) (by simp [ho]) (fun q hq=>?_)
  rcases List.mem_append.1 hq with hq |hq
  ·exact hg q hq
  ·rw[List.mem_singleton.1 hq];exact q2
include hf h hn hr hm in
theorem queries24s{T:List Int}(hT:El p T)(hl:T.length≤16384)(hc:rows.length*c n≤T.length):
  ∃out t',X6h y p (n:Int) rows (T,0)=some (out,t',0)∧out.length=rows.length∧∀q∈out,QK p s (unit y n) q:=by
 unfold X6h
 rw[h.valid hf,Option.bind_some,if_neg (by decide),Xc1 hn hr hm,Option.bind_some,if_neg (by decide)]
 have:=q24s_L hf h hn hr hm hT hl hc rows.length big 0 [] (by omega) (by simp only [big];omega) rfl (fun q hq=>by cases hq)
 rw[Nat.zero_mul] at this
 exact this
end
end Go.Proofs.YtnfalgmfmiolbaaGreat.Hh
end

section
namespace Go.Proofs.YtnfalgmfmiolbaaGreat.Hh
set_option linter.unusedVariables false
set_option maxRecDepth 100000
abbrev Job:=Int×Int×Int×List Int×List Int
abbrev Hed:=Int×Int×Int×Int×Int
abbrev Srv:=Int×Sch×Bool×List (Hed×List (List Int))×List Job
abbrev Note:=Int×Int×Int×Int×Int×List Int×List Int×Int
theorem Xfo:big=(big-1)+1:=by simp only [big]
def srv(y:Sch)(hd:Hed)(H:List (List Int))(j:Nat)(js:List Job):Srv:=((j:Int)+1,y,true,[(hd,H)],js)
theorem Xi0(y:Sch)(hd:Hed)(H:List (List Int))(j:Nat)(js:List Job):X5k (srv y hd H j js) hd.1=some 0:=by
 unfold X5k srv
 rw[Xfo,X4o]
 unfold X63
 rw[if_pos (by simp),show lidx (((j:Int)+1,y,true,[(hd,H)],js):Srv).2.2.2.1 (0:Int)=some (hd,H) from rfl,Option.bind_some,if_pos rfl]
theorem Xno{p:Int}(kx:Int→Int→Int→Int→Int→Bool→Int→Int→Int→Int→Int→Int→Int→Int→Int→Int→Int→Bool→Option (Srv×Int))(z1 z2 z3 z4 z5 z6 z7 z8 z9 z10 z11:Int)(b:Bool){q:List Int}(hq:El p q)(hl:q.length≤1000){hd:Hed}(hp:hd.2.1=p)(H:List (List Int)):∀(m f i:Nat),i+m=q.length→m<f→
  X4h kx 0 z1 z2 z3 z4 z5 q z6 z7 z8 z9 z10 z11 b [(hd,H)] f (i:Int)=kx 0 0 0 0 0 false z1 z2 z3 z4 z5 z6 z7 z8 z9 z10 z11 b
 |m,0,i,_,h=>by omega
 |0,f+1,i,h,_=>by
  rw[X4h]
  unfold X7h
  rw[if_neg (by omega)]
 |m+1,f+1,i,h,hf=>by
  have hi:i<q.length:=by omega
  have hx:=hq _ (List.getElem_mem hi)
  have hlx:lidx q (i:Int)=some q[i]:=by rw[Xaw 0 hi,List.getD_eq_getElem?_getD,List.getElem?_eq_getElem hi];rfl
  rw[X4h]
  unfold X7h
  rw[if_pos (by omega),hlx,Option.bind_some,if_neg (by have:=hx.1;omega),Option.bind_some,show lidx [(hd,H)] (0:Int)=some (hd,H) from rfl,Option.bind_some,Option.bind_some]
  rw[if_neg (by have:=hx.2;rw[decide_eq_false (by dsimp only;omega)];decide),w64_id (by omega) (by omega),show(i:Int)+1=((i+1:Nat):Int) by omega]
  exact Xno kx z1 z2 z3 z4 z5 z6 z7 z8 z9 z10 z11 b hq hl hp H m f (i+1) (by omega) (by omega)
theorem Xnp{p:Int}{y:Sch}{hd:Hed}(hp:hd.2.1=p){H:List (List Int)}{j:Nat}{q:List Int}(hq:El p q)(hl:q.length=H.length)(hl2:H.length≤1000)(r i mk:Int)(vs:List Int):
  Xal (srv y hd H j []) (1,r,i,(j:Int)+1,hd.1,q,vs,mk)=some (srv y hd H j [(r,i,hd.1,q,[])],0):=by
 unfold Xal
 have hf:=Xi0 y hd H j []
 unfold srv at hf ⊢
 dsimp only at hf ⊢
 rw[if_neg (by decide),if_neg (by simp),hf,Option.bind_some,if_neg (by decide),show lidx [(hd,H)] (0:Int)=some (hd,H) from rfl,Option.bind_some,if_neg (by rw[hl];simp)]
 have:=Xno (p:=p) (X2x q [(hd,H)] []) 1 r i ((j:Int)+1) hd.1 mk ((j:Int)+1) y.1 y.2.1 y.2.2.1 y.2.2.2 true hq (by omega) hp H q.length big 0 (by omega) (by simp only [big];omega)
 rw[show((0:Nat):Int)=0 from rfl] at this
 rw[this]
 unfold X2x
 rw[Xfo,X7g]
 unfold X93
 rw[if_neg (by simp)]
 unfold X4g
 rw[if_neg (by simp),X2 (by simp),Option.bind_some,X2 (by simp;omega),Option.bind_some,X2 (by simp),Option.bind_some]
 rfl
theorem Xfp:∀(l:List Int)(v:Int),∃z,X1u l v=some z
 | [],v=>⟨v,rfl⟩
 |x::l,v=>by
  show ∃z,X44 (X1u l) x v=some z
  unfold X44 X78
  rw[Option.bind_some]
  exact Xfp l _
theorem Xdt{n:Note}(h1:n.2.2.2.2.2.1.length≤1000)(h2:n.2.2.2.2.2.2.1.length≤1000):∃l,X4p n=some l∧l.length≤3000:=by
 unfold X4p X5b
 rw[X2 (by simp;omega),Option.bind_some,X2 (by simp;omega),Option.bind_some,X2 (by simp;omega),Option.bind_some]
 exact⟨_,rfl,by simp;omega⟩
theorem Xi1{sec:Int}(h:1≤sec∧sec<2147483647){l:List Int}(hl:l.length≤3000):∃m,X87 sec l=some (m,0):=by
 unfold X87 X5j
 obtain⟨z,hz⟩:=Xfp ([sec]++l) 2
 rw[Option.bind_some,decide_eq_true h,if_neg (by decide),if_neg (by omega),X2 (by simp;omega),Option.bind_some]
 unfold X9h
 rw[hz,Option.bind_some]
 exact⟨z,rfl⟩
section
variable{p:Int}(hf:Fp p){y:Sch}{hd:Hed}(hp:hd.2.1=p){w:Nat}(hw:1≤w∧w≤64)(hwd:hd.2.2.2.1=(w:Int)){H:List (List Int)}(hH:Rw p w H){j:Nat}{q:List Int}(hq:El p q)(hl:q.length=H.length)(hl2:H.length≤1000){per:Int×Int}(hper:1≤per.2∧per.2<2147483647)(lie r i:Int)
include hf hp hw hwd hH hq hl hl2
theorem Xlo{done:List Int}(hdn:done.length<w)(hper:1≤per.2∧per.2<2147483647):∃x:Int,
  (done.length+1<w→X5t (srv y hd H j [(r,i,hd.1,q,done)]) per lie=some (srv y hd H j [(r,i,hd.1,q,done++[x])],(0,0,0,0,0,[],[],0),false,0))∧
  (done.length+1=w→∃mk,X5t (srv y hd H j [(r,i,hd.1,q,done)]) per lie=some (srv y hd H j [],(2,r,i,(j:Int)+1,hd.1,q,done++[x],mk),true,0)):=by
 have hrg:=hf.rng
 obtain⟨v1,v2,v3⟩:=Xgy hf (c:=q) hH
 have ha:=Xhw hf hq hw.2 hH hl
 have hlx:∃x,lidx (comb p q H (List.replicate w 0)) (done.length:Int)=some x:=⟨_,Xaw 0 (by omega)⟩
 obtain⟨x0,hx0⟩:=hlx
 have hfd:=Xi0 y hd H j [(r,i,hd.1,q,done)]
 have key:∃x,X5t (srv y hd H j [(r,i,hd.1,q,done)]) per lie=X3a (w:Int) r i hd.1 q done per.2 ((j:Int)+1) y.1 y.2.1 y.2.2.1 y.2.2.2 true [(hd,H)] [(r,i,hd.1,q,done)] x:=by
  unfold X5t
  unfold srv at hfd ⊢
  dsimp only at hfd ⊢
  rw[if_neg (by decide),if_neg (by simp),show lidx [(r,i,hd.1,q,done)] (0:Int)=some (r,i,hd.1,q,done) from rfl,Option.bind_some]
  dsimp only
  rw[hfd,Option.bind_some,show lidx [(hd,H)] (0:Int)=some (hd,H) from rfl,Option.bind_some]
  unfold X82
  dsimp only
  rw[hp,hwd,ha,Option.bind_some,hx0,Option.bind_some]
  by_cases h0:(done.length:Int)=0
  ·rw[if_pos h0,nzp hrg,Option.bind_some,Option.bind_some,Option.bind_some]
   exact⟨_,rfl⟩
  ·rw[if_neg h0]
   exact⟨_,rfl⟩
 obtain⟨x,hx⟩:=key
 refine⟨x,fun h=>?_,fun h=>?_⟩
 ·rw[hx]
  unfold X3a
  rw[X2 (by simp;omega),Option.bind_some,X2 (by simp;omega),Option.bind_some,List.nil_append,if_pos (by simp;omega),X3t (by omega) (by simp) (by simp),Option.bind_some,X2 (by simp),Option.bind_some,X2 (by simp),Option.bind_some]
  rfl
 ·rw[hx]
  unfold X3a
  rw[X2 (by simp;omega),Option.bind_some,X2 (by simp;omega),Option.bind_some,List.nil_append,if_neg (by simp;omega),X2 (by simp;omega),Option.bind_some]
  unfold X81
  obtain⟨l,l1,l2⟩:=Xdt (n:=(2,r,i,(j:Int)+1,hd.1,[]++q,done++[x],0)) (by simp;omega) (by simp;omega)
  obtain⟨mk,hmk⟩:=Xi1 hper l2
  rw[l1,Option.bind_some,hmk,Option.bind_some,if_neg (by simp),X3t (by omega) (by simp) (by simp),Option.bind_some,X2 (by simp),Option.bind_some]
  exact⟨mk,rfl⟩
end
end Go.Proofs.YtnfalgmfmiolbaaGreat.Hh
end
