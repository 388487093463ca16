/- What the proof needs, gathered by wip/gen/shake.py. -/
import Derived.Calls
import Derived.Deep.Quiet
import Derived.Below
import Derived.Laws.AppendOwn
import Derived.WalkKit
import Derived.Laws.OwnMore
import Derived.Deep.Slices
import Derived.ChangeOld
import Derived.ArgAppend
import Derived.RangeFuncIn
import Derived.RangeFuncRecord
import Derived.RangeFuncLeaves
import Derived.Laws.MakeOwn
import Derived.IntWalk
import Derived.Laws.IdiomStrings
import Derived.Laws.Cover3
import Derived.Laws.CopyOwn
import Derived.Test.YtmfppphlhgneeaaGreatRows
import Derived.MapKept
import Derived.RangeFuncNested
import Derived.ProofKit
import Derived.OpenShut
import Derived.ShutString
import Derived.JoinedCond
import Derived.Test.YtmfppphlhgneeaaGreatLookupStepsQ4
set_option linter.unusedVariables false
set_option linter.unusedSimpArgs false
section
set_option maxHeartbeats 4000000
set_option maxRecDepth 100000
namespace Go.Proofs.YtmfppphlhgneeaaGreat
open Go.RowKit
set_option linter.unusedSimpArgs false
set_option linter.unusedVariables false
set_option synthInstance.maxSize 2000
set_option synthInstance.maxHeartbeats 400000
variable {Fs : List Hp} {G : Hp} {a0 a1_1 a1_3 a6 a7_1 : Option Addr} {k0 k1_1 k1_3 k6 k7_1 : Nat}
theorem Xc6 {x0 : List Int} {x1_0 : Int} {x1_1 : List (Int × Int)} {x1_2 : Int} {x1_3 : List (List (ByteArray × Int))} {x2 : Int} {x3 : Int} {x4_0 : Int} {x5 : ByteArray} {x6 : List (Int × (List Int) × (List Int))} {x7_0 : Int} {x7_1 : List ByteArray} {r : Bool} (hG : G ∈ Fs) (s0 : SlR (Rep.int .u8) G a0 k0 x0) (s1_1 : SlR (Rep.pair ri ri) G a1_1 k1_1 x1_1) (s1_3 : SlR (Rep.sl (Rep.pair Rep.str ri)) G a1_3 k1_3 x1_3) (s6 : SlR (Rep.pair ri (Rep.pair (Rep.sl ri) (Rep.sl ri))) G a6 k6 x6) (s7_1 : SlR Rep.str G a7_1 k7_1 x7_1) (h : X6v x0 ((x1_0, x1_1), x1_2, x1_3) x2 x3 x4_0 x5 x6 (x7_0, x7_1) = some r) : RetS Tryz.prog 4 #[.slice a0 x0.length k0, .agg #[.int .i64 x1_0, .slice a1_1 x1_1.length k1_1, .int .i64 x1_2, .slice a1_3 x1_3.length k1_3], .int .i64 x2, .int .i64 x3, .agg #[.int .i64 x4_0], .string x5, .slice a6 x6.length k6, .agg #[.int .i64 x7_0, .slice a7_1 x7_1.length k7_1]] Fs [] [] (rv (.bool r)) := by
 unfold X6v at h
 try dsimp only at h
 refine RetS.st [(0, _), (1, _), (2, _), (3, _), (4, _), (5, _), (6, _), (7, _)] Tryz.func4 Tryz.ntmps4 hG fun w0 S0 hS0 B0 => ?_
 refine .go 2 ?_
 refine .box [_, _, _, _] .ro rfl rfl rfl (fun b1 hb1 => ?_)
 refine .box [_] .ro rfl rfl rfl (fun b2 hb2 => ?_)
 refine .box [_, _] .ro rfl rfl rfl (fun b3 hb3 => ?_)
 refine .go 5 ?_
 obtain ⟨u4, hu4, r5⟩ := X0 h
 refine .cV [] Tryz.call5 (Xgl mcs  hu4) ?_
 refine .go 2 ?_
 refine .cB r5 (fun c8 r9 => ?_) (fun c8 r10 => ?_)
 ·refine .go 4 ?_
  cases r9
  refine .drop 3 0 [] _ rfl rfl ?_
  refine .rS [.tmp 16] [_] Tryz.func4 Tryz.results4 ⟨rfl, rfl, rfl⟩
 ·refine .go 9 ?_
  refine .kR (fun y => y = ⟨[(87, .bool (decide ((6 < (x1_3.length : Int)) ∨ (5 < (x1_1.length : Int)))))], G :: Fs, [], []⟩) [(0, _), (2, _), (3, _), (5, _), (6, _), (9, _), (12, _), (15, _)] [_, _, _] [0, 1, 2] [] [] 6 ?_ ?_
  ·rintro _ rfl
   refine .gn 1 ?_
   refine .kR (fun y => y = ⟨[(92, .bool (decide (((6 < (x1_3.length : Int)) ∨ (5 < (x1_1.length : Int))) ∨ (40 < (x5.size : Int)))))], G :: Fs, [], []⟩) [(0, _), (2, _), (3, _), (5, _), (6, _), (9, _), (12, _), (15, _)] [_, _, _] [0, 1, 2] [] [] 4 ?_ ?_
   ·rintro _ rfl
    refine .gn 1 ?_
    refine .kR (fun y => y = ⟨[(97, .bool (decide ((((6 < (x1_3.length : Int)) ∨ (5 < (x1_1.length : Int))) ∨ (40 < (x5.size : Int))) ∨ (4 < (x6.length : Int)))))], G :: Fs, [], []⟩) [(0, _), (2, _), (3, _), (5, _), (6, _), (9, _), (12, _), (15, _)] [_, _, _] [0, 1, 2] [] [] 4 ?_ ?_
    ·rintro _ rfl
     refine .gn 1 ?_
     refine .kR (fun y => y = ⟨[(103, .bool (decide (((((6 < (x1_3.length : Int)) ∨ (5 < (x1_1.length : Int))) ∨ (40 < (x5.size : Int))) ∨ (4 < (x6.length : Int))) ∨ (10 < (x7_1.length : Int)))))], G :: Fs, [], []⟩) [(0, _), (2, _), (3, _), (5, _), (6, _), (9, _), (12, _), (15, _)] [_, _, _] [0, 1, 2] [] [] 5 ?_ ?_
     ·rintro _ rfl
      refine .gn 1 ?_
      refine .cH r10 (fun c27 r28 => ?_) (fun c27 r29 => ?_)
      ·refine .go 4 ?_
       cases r28
       refine .drop 3 0 [] _ rfl rfl ?_
       refine .rS [.tmp 16] [_] Tryz.func4 Tryz.results4 ⟨rfl, rfl, rfl⟩
      ·refine .go 4 ?_
       obtain ⟨u30, hu30, r31⟩ := X0 r29
       refine .cS [_] Tryz.call6 (Xio mcs s0 hu30) (fun v33 bo so h32 => ?_)
       obtain ⟨a35, k36, b34, rfl, rfl, rfl, s37⟩ := h32
       refine .gn 5 ?_
       obtain ⟨u38, hu38, r39⟩ := X0 r31
       refine .callW (b1 := [_]) (b2 := [_, _, _]) (s1 := []) [_] [] .ro rfl rfl Tryz.call7 rfl rfl (Xck mcs s37 hu38) rfl B0 (fun v41 bo so G42 e43 B44 h40 => ?_)
       obtain ⟨a46, k47, a49, k50, a52, k53, a55, k56, rfl, rfl, rfl, s48, s51, s54, s57⟩ := h40
       refine .gn 3 ?_
       refine .alloc .ro ty31 rfl (fun b58 hb58 => ?_)
       refine .store 0 [_, _, _, _] [_, _, _, _, _] .ro rfl rfl rfl ty31 rfl rfl rfl rfl (.go 5 ?_)
       refine .q .ro (.load_own_a 0 [_, _] rfl rfl ty28 rfl) rfl (.go 1 ?_)
       obtain ⟨u59, hu59, r60⟩ := X0 r39
       refine .cW [_, _, _] Tryz.call19 (X99 mcs s48 s54 hu59) B44 (fun v62 bo so G63 e64 B65 h61 => ?_)
       obtain ⟨a67, k68, a70, k71, rfl, rfl, rfl, s69, s72⟩ := h61
       refine .gn 3 ?_
       refine .alloc .ro ty31 rfl (fun b73 hb73 => ?_)
       refine .store 0 [_, _, _, _] [_, _, _, _, _, _] .ro rfl rfl rfl ty31 rfl rfl rfl rfl (.go 5 ?_)
       refine .q .ro (.load_own_a 1 [_, _, _, _] rfl rfl ty31 rfl) rfl (.q .ro (.load_own_a 5 [_, _, _, _] rfl rfl ty31 rfl) rfl (.q .ro (.load_own_a 0 [_, _, _, _] rfl rfl ty31 rfl) rfl ?_))
       refine .lit [_, _, _, _, _, _, _, _, _, _, _, _] [(0, _), (1, _), (2, _)] .ro sl75 ty31 rfl rfl rfl rfl rfl rfl (fun b74 hb74 => ?_)
       have o75 : OL (Rep.pair (Rep.pair ri (Rep.sl (Rep.pair ri ri))) (Rep.pair ri (Rep.sl (Rep.sl (Rep.pair Rep.str ri))))) G63 [.int .i64 u38.1.1.1, .slice a46 u38.1.1.2.length k47, .int .i64 u38.1.2.1, .slice a49 u38.1.2.2.length k50, .int .i64 x1_0, .slice a1_1 x1_1.length k1_1, .int .i64 x1_2, .slice a1_3 x1_3.length k1_3, .int .i64 u59.1.1.1, .slice a67 u59.1.1.2.length k68, .int .i64 u59.1.2.1, .slice a70 u59.1.2.2.length k71] ([u38.1, ((x1_0, x1_1), x1_2, x1_3), u59.1] : List ((Int × (List (Int × Int))) × Int × (List (List (ByteArray × Int))))) := ((OL.cons rfl (Rep.pairI (Rep.pairI (Rep.intI .i64 u38.1.1.1) (Rep.slI (SlR.mono e64 s48))) (Rep.pairI (Rep.intI .i64 u38.1.2.1) (Rep.slI (SlR.mono e64 s51)))) (OL.cons rfl (Rep.pairI (Rep.pairI (Rep.intI .i64 x1_0) (Rep.slI (SlR.mono (HpLe.trans e43 e64) s1_1))) (Rep.pairI (Rep.intI .i64 x1_2) (Rep.slI (SlR.mono (HpLe.trans e43 e64) s1_3)))) (OL.cons rfl (Rep.pairI (Rep.pairI (Rep.intI .i64 u59.1.1.1) (Rep.slI s69)) (Rep.pairI (Rep.intI .i64 u59.1.2.1) (Rep.slI s72))) (OL.nil (Rp' := (Rep.pair (Rep.pair ri (Rep.sl (Rep.pair ri ri))) (Rep.pair ri (Rep.sl (Rep.sl (Rep.pair Rep.str ri)))))))))) :)
       refine .reval 121 (n' := ([u38.1, ((x1_0, x1_1), x1_2, x1_3), u59.1] : List ((Int × (List (Int × Int))) × Int × (List (List (ByteArray × Int))))).length) rfl rfl (.go 3 ?_)
       refine .kB (fun y => ∃ (Z0 Z1 Z2 Z3 Z4 Z5 Z6 Z7 Z8 Z9 : _), y = ⟨[], Z0 :: Fs, [(b73, .cells #[.int .i64 Z1, .slice a67 u59.1.1.2.length k68, .int .i64 Z2, .slice a70 u59.1.2.2.length k71] 31 (0, 0)), (b58, .cells #[.int .i64 Z3, .slice a46 u38.1.1.2.length k47, .int .i64 Z4, .slice a49 u38.1.2.2.length k50] 31 (0, 0)), (b34, .cells #[.slice a55 u38.2.2.1.length k56, .int .i64 Z5] 91 (0, 0)), (b3, .cells #[.int .i64 Z6, .slice a7_1 x7_1.length k7_1] 72 (0, 0)), (b2, .cells #[.int .i64 Z7] 36 (0, 0)), (b1, .cells #[.int .i64 Z8, .slice a1_1 x1_1.length k1_1, .int .i64 Z9, .slice a1_3 x1_3.length k1_3] 31 (0, 0))], []⟩ ∧ HpLe G63 Z0 ∧ Bd w0 S0 Fs Z0 ∧ (X9 x3 x5 x6 u38.1.1.2 u38.1.2.2 u38.2.2.1 x7_1) Z1 Z2 Z3 Z4 Z5 Z6 Z7 Z8 Z9 = some r) [(3, _), (5, _), (6, _), (15, _), (17, _), (18, _)] [] [] [_] [0] ?_ ?_
       ·rintro _ ⟨G45, v66, v77, v78, v79, v82, v84, v85, v86, v87, rfl, e88, B89, r90⟩
        refine .gn 0 ?_
        unfold X9 at r90
        try dsimp only at r90
        refine .go 2 ?_
        refine .q .ro (.build [_] [(0, _)] ty36 pl36 rfl rfl) rfl (.q .ro (.load_own_a 1 [_, _, _, _] rfl rfl ty31 rfl) rfl ?_)
        obtain ⟨u91, hu91, r92⟩ := X0 r90
        refine .cW [_, _, _] Tryz.call20 (Xaz mcs (SlR.mono (HpLe.trans e64 e88) s48) (SlR.mono (HpLe.trans e64 e88) s51) hu91) B89 (fun v93 bo so G94 e95 B96 h97 => ?_)
        obtain ⟨a98, k99, rfl, rfl, rfl, s100⟩ := h97
        refine .gn 3 ?_
        refine .alloc .ro ty39 rfl (fun b101 hb101 => ?_)
        refine .store 0 [_, _, _, _] [_, _, _, _, _, _, _] .ro rfl rfl rfl ty39 rfl rfl rfl rfl (.go 6 ?_)
        refine .lit [_, _, _, _] [(0, _), (1, _), (2, _), (3, _)] .ro sl46 ty9 rfl rfl rfl rfl rfl rfl (fun b102 hb102 => ?_)
        have o103 : OL Rep.str G94 [.string x5, .string ⟨#[97, 110, 116]⟩, .string ⟨#[99, 97, 116]⟩, .string ⟨#[122, 101, 98, 114, 97]⟩] ([x5, ⟨#[97, 110, 116]⟩, ⟨#[99, 97, 116]⟩, ⟨#[122, 101, 98, 114, 97]⟩] : List ByteArray) := ((OL.cons rfl (Rep.strI x5) (OL.cons rfl (Rep.strI ⟨#[97, 110, 116]⟩) (OL.cons rfl (Rep.strI ⟨#[99, 97, 116]⟩) (OL.cons rfl (Rep.strI ⟨#[122, 101, 98, 114, 97]⟩) (OL.nil (Rp' := Rep.str)))))) :)
        refine .reval 223 (n' := ([x5, ⟨#[97, 110, 116]⟩, ⟨#[99, 97, 116]⟩, ⟨#[122, 101, 98, 114, 97]⟩] : List ByteArray).length) rfl rfl (.go 3 ?_)
        refine .kB (fun y => ∃ (Z0 Z1 Z2 Z3 Z4 Z5 Z6 Z7 : _) (Z8 : List Int) (Z9 : _) (Z10 : Nat) (Z11 Z12 Z13 Z14 Z15 : _), y = ⟨[], Z0 :: Fs, [(b101, .cells #[.int .i64 Z1, .int .i64 Z2, .int .i64 Z3, .slice a98 u91.1.2.2.2.length k99] 39 (0, 0)), (b73, .cells #[.int .i64 Z4, .slice a67 u59.1.1.2.length k68, .int .i64 Z5, .slice a70 u59.1.2.2.length k71] 31 (0, 0)), (b58, .cells #[.int .i64 Z6, .slice a46 u38.1.1.2.length k47, .int .i64 Z7, .slice a49 u38.1.2.2.length k50] 31 (0, 0)), (b34, .cells #[.slice Z9 Z8.length Z10, .int .i64 Z11] 91 (0, 0)), (b3, .cells #[.int .i64 Z12, .slice a7_1 x7_1.length k7_1] 72 (0, 0)), (b2, .cells #[.int .i64 Z13] 36 (0, 0)), (b1, .cells #[.int .i64 Z14, .slice a1_1 x1_1.length k1_1, .int .i64 Z15, .slice a1_3 x1_3.length k1_3] 31 (0, 0))], []⟩ ∧ HpLe G94 Z0 ∧ Bd w0 S0 Fs Z0 ∧ SlR (Rep.int .u8) Z0 Z9 Z10 Z8 ∧ (X5 x3 x5 x7_1) Z1 Z2 Z3 Z4 Z5 Z6 Z7 Z8 Z11 Z12 Z13 Z14 Z15 = some r) [(3, _), (5, _), (15, _), (17, _)] [] [] [_, _] [0, 1] ?_ ?_
        ·rintro _ ⟨G104, v105, v106, v107, v108, v109, v110, v111, v112, a113, k114, v115, v116, v117, v118, v119, rfl, e120, B121, s122, r123⟩
         refine .gn 0 ?_
         unfold X5 at r123
         try dsimp only at r123
         refine .go 2 ?_
         refine .drawL (.q 0 (.q 2 (.q 5 (.e 1 1 (.e 3 1 (.q 4 .nil)))))) [_, _, _, _, _, _] (by kernel_rfl) (by kernel_rfl) (X1 [0, 1, 2, 4, 5, 6] rfl) (.go 1 ?_)
         refine .dq (.load_own_a 3 [_, _] rfl rfl ty72 rfl) rfl (.go 1 ?_)
         obtain ⟨u124, hu124, r125⟩ := X0 r123
         refine .pull 3 rfl [_, _, _, _, _, _, _] rfl ?_
         refine .callW (b1 := [_]) (b2 := [_, _, _, _, _, _]) (s1 := []) [_] [] .d1 rfl rfl Tryz.call25 rfl rfl (Xfj mcs s122 hu124) rfl B121 (fun v126 bo so G127 e128 B129 h130 => ?_)
         obtain ⟨a131, k132, a133, k134, rfl, rfl, rfl, s135, s136⟩ := h130
         refine .gn 0 ?_
         refine .clsL e128 (X1 [1, 2, 3, 4, 5, 6] rfl) ?_
         refine .lit [_, _, _, _] [(0, _), (1, _)] .d1 sl83 ty72 rfl rfl rfl rfl rfl rfl (fun b137 hb137 => ?_)
         have o138 : OL (Rep.pair ri (Rep.sl Rep.str)) G127 [.int .i64 u124.1.1, .slice a131 u124.1.2.length k132, .int .i64 v116, .slice a7_1 x7_1.length k7_1] ([u124.1, (v116, x7_1)] : List (Int × (List ByteArray))) := ((OL.cons rfl (Rep.pairI (Rep.intI .i64 u124.1.1) (Rep.slI s135)) (OL.cons rfl (Rep.pairI (Rep.intI .i64 v116) (Rep.slI (SlR.mono (HpLe.trans (HpLe.trans (HpLe.trans (HpLe.trans (HpLe.trans e43 e64) e88) e95) e120) e128) s7_1))) (OL.nil (Rp' := (Rep.pair ri (Rep.sl Rep.str)))))) :)
         refine .reval 341 (n' := ([u124.1, (v116, x7_1)] : List (Int × (List ByteArray))).length) rfl rfl (.clsL e128 (X1 [1, 2, 3, 4, 5, 6] rfl) (.go 2 ?_))
         refine .kB (fun y => ∃ (Z0 Z1 Z2 Z3 Z4 Z5 Z6 Z7 Z8 Z9 Z10 Z11 Z12 : _), y = ⟨[], Z0 :: Fs, [(b34, .cells #[.slice a133 u124.2.1.length k134, .int .i64 Z1] 91 (0, 0)), (b101, .cells #[.int .i64 Z2, .int .i64 Z3, .int .i64 Z4, .slice a98 u91.1.2.2.2.length k99] 39 (0, 0)), (b73, .cells #[.int .i64 Z5, .slice a67 u59.1.1.2.length k68, .int .i64 Z6, .slice a70 u59.1.2.2.length k71] 31 (0, 0)), (b58, .cells #[.int .i64 Z7, .slice a46 u38.1.1.2.length k47, .int .i64 Z8, .slice a49 u38.1.2.2.length k50] 31 (0, 0)), (b3, .cells #[.int .i64 Z9, .slice a7_1 x7_1.length k7_1] 72 (0, 0)), (b2, .cells #[.int .i64 Z10] 36 (0, 0)), (b1, .cells #[.int .i64 Z11, .slice a1_1 x1_1.length k1_1, .int .i64 Z12, .slice a1_3 x1_3.length k1_3] 31 (0, 0))], []⟩ ∧ HpLe G127 Z0 ∧ Bd w0 S0 Fs Z0 ∧ (Xl x3) Z1 Z2 Z3 Z4 Z5 Z6 Z7 Z8 Z9 Z10 Z11 Z12 = some r) [(3, _)] [] [] [_, _, _] [0, 1, 2] ?_ ?_
         ·rintro _ ⟨G139, v140, v141, v142, v143, v144, v145, v146, v147, v148, v149, v150, v151, rfl, e152, B153, r154⟩
          refine .gn 0 ?_
          unfold Xl at r154
          try dsimp only at r154
          refine .go 3 ?_
          refine .q .ro (.remt rfl rfl (by decide)) rfl ?_
          obtain ⟨u155, hu155, r156⟩ := X0 r154
          refine .cV [_] Tryz.call30 (X8r mcs  hu155) ?_
          refine .go 1 ?_
          refine .q .ro (.remt rfl rfl (by decide)) rfl ?_
          obtain ⟨u157, hu157, r158⟩ := X0 r156
          refine .cV [_] Tryz.call31 (Xax mcs  hu157) ?_
          refine .go 3 ?_
          cases r158
          refine .drop 7 0 [] _ rfl rfl (.drop 0 3 _ [] rfl rfl ?_)
          refine .rS [.tmp 16] [_] Tryz.func4 Tryz.results4 ⟨rfl, rfl, rfl⟩
         ·intro hb159
          refine .block (.pull 6 rfl [_, _, _, _, _, _, _] rfl (.pull 6 rfl [_, _, _, _, _, _, _] rfl (.pull 6 rfl [_, _, _, _, _, _, _] rfl (.pull 6 rfl [_, _, _, _, _, _, _] rfl (.pull 6 rfl [_, _, _, _, _, _, _] rfl (.pull 6 rfl [_, _, _, _, _, _, _] rfl (.pull 6 rfl [_, _, _, _, _, _, _] rfl ?_)))))))
          refine .lp (fun y m => ∃ (Z0 : Nat) (Z1 : List (Int × (List ByteArray))) (Z2 Z3 Z4 Z5 Z6 Z7 Z8 Z9 Z10 Z11 Z12 Z13 Z14 : _), y = ⟨[(343, .int .i64 (Z0 : Int))], [Z2], [(b34, .cells #[.slice a133 u124.2.1.length k134, .int .i64 Z3] 91 (0, 0)), (b101, .cells #[.int .i64 Z4, .int .i64 Z5, .int .i64 Z6, .slice a98 u91.1.2.2.2.length k99] 39 (0, 0)), (b73, .cells #[.int .i64 Z7, .slice a67 u59.1.1.2.length k68, .int .i64 Z8, .slice a70 u59.1.2.2.length k71] 31 (0, 0)), (b58, .cells #[.int .i64 Z9, .slice a46 u38.1.1.2.length k47, .int .i64 Z10, .slice a49 u38.1.2.2.length k50] 31 (0, 0)), (b3, .cells #[.int .i64 Z11, .slice a7_1 x7_1.length k7_1] 72 (0, 0)), (b2, .cells #[.int .i64 Z12] 36 (0, 0)), (b1, .cells #[.int .i64 Z13, .slice a1_1 x1_1.length k1_1, .int .i64 Z14, .slice a1_3 x1_3.length k1_3] 31 (0, 0))], []⟩ ∧ Z1.length = m ∧ HpLe G127 Z2 ∧ Bd w0 S0 Fs Z2 ∧ List.drop Z0 ([u124.1, (v116, x7_1)] : List (Int × (List ByteArray))) = Z1 ∧ Xt (Xl x3) x5 Z1 Z3 Z4 Z5 Z6 Z7 Z8 Z9 Z10 Z11 Z12 Z13 Z14 = some r) [(3, _), (5, _), (341, _), (342, _)] [] [_, _, _] ⟨0, ([u124.1, (v116, x7_1)] : List (Int × (List ByteArray))), G127, u124.2.2, v105, v106, v107, v108, v109, v110, v111, v116, v117, v118, v119, rfl, rfl, (HpLe.refl _), B129, rfl, r125⟩ (fun y m hI hb160 => ?_)
          obtain ⟨i161, w162, G163, v164, v165, v166, v167, v168, v169, v170, v171, v172, v173, v174, v175, rfl, rfl, e176, B177, g178, r179⟩ := hI
          refine .gn 0 ?_
          cases w162 with
          | nil =>
           rw [Xt] at r179; try dsimp only at r179
           refine .go 5 ?_
           refine .cond_dec rfl (fun c => absurd c (X8 g178)) (fun _ => ?_)
           refine .exit rfl ?_
           exact (hb159 _ ⟨G163, v164, v165, v166, v167, v168, v169, v170, v171, v172, v173, v174, v175, rfl, e176, B177, r179⟩).ar
          | cons x180 xs181 =>
           have r182 : X39 (Xl x3) x5 (Xt (Xl x3) x5 xs181) x180 v164 v165 v166 v167 v168 v169 v170 v171 v172 v173 v174 v175 = some r := r179; clear r179; unfold X39 at r182; try dsimp only at r182
           refine .go 5 ?_
           refine .cond_dec rfl (fun _ => ?_) (fun c => absurd (Xf g178) c)
           refine .go 2 ?_
           refine .block (.go 2 ?_)
           obtain ⟨c183, p184, h185⟩ := OL.get (OL.mono e176 o138) (X2 g178)
           obtain ⟨_, _, rfl, rfl, a186, k187, rfl, s188⟩ := h185
           refine .q .ro (.idxO 0 rfl rfl rfl (X2 g178) sl83 ty72.sz) rfl (.q .ro (.loadO_a 0 0 [_, _] rfl (X2 g178) p184 rfl (.inl ⟨rfl, rfl⟩) ty72 rfl) rfl ?_)
           refine .alloc .ro ty72 rfl (fun b189 hb189 => ?_)
           refine .store 0 [_, _] [_, _, _, _, _, _, _, _] .ro rfl rfl rfl ty72 rfl rfl rfl rfl (.go 3 ?_)
           refine .q .ro (.load_own_a 0 [_, _] rfl rfl ty72 rfl) rfl ?_
           obtain ⟨u190, hu190, r191⟩ := X0 r182
           refine .cS [_] Tryz.call26 (Xaw mcs s188 hu190) (fun v192 bo so h193 => ?_)
           obtain ⟨a194, k195, cs196, rfl, rfl, rfl, o197⟩ := h193
           refine .gn 8 ?_
           refine .q .ro (.load_own_a 0 [_, _] rfl rfl ty72 rfl) rfl ?_
           obtain ⟨u198, hu198, r199⟩ := X0 r191
           refine .cS [_] Tryz.call27 (Xcu mcs s188 hu198) (fun v200 bo so h201 => ?_)
           obtain ⟨a202, k203, cs204, rfl, rfl, rfl, o205⟩ := h201
           refine .gn 13 ?_
           refine .freezeR 0 rfl rfl o205 [_, _, _, _] rfl B177 (fun G206 e207 B208 s209 => ?_)
           refine .freezeR 0 rfl rfl (OL.mono e207 o197) [_, _, _] rfl B208 (fun G210 e211 B212 s213 => ?_)
           obtain ⟨u214, h215, r216⟩ := X0 r199
           refine .kR (fun y => y = ⟨[(365, .bool u214)], G210 :: Fs, [], []⟩) [(343, _), (3, _), (5, _), (341, _), (342, _), (60, _)] [_, _, _, _, _, _, _, _] [0, 1, 2, 3, 4, 5, 6, 7] [_, _, _] [0, 1, 2] 5 ?_ ?_
           ·rintro _ rfl
            refine .gn 1 ?_
            refine .cB r216 (fun c217 r218 => ?_) (fun c217 r219 => ?_)
            ·refine .go 4 ?_
             cases r218
             refine .drop 8 0 [] _ rfl rfl (.drop 0 3 _ [] rfl rfl ?_)
             refine .rS [.tmp 16] [_] Tryz.func4 Tryz.results4 ⟨rfl, rfl, rfl⟩
            ·refine .go 4 ?_
             refine .lit [_, _, _, _] [(0, _), (1, _), (2, _), (3, _)] .ro sl46 ty9 rfl rfl rfl rfl rfl rfl (fun b220 hb220 => ?_)
             have o221 : OL Rep.str G210 [.string x5, .string ⟨#[98]⟩, .string ⟨#[107]⟩, .string ⟨#[122]⟩] ([x5, ⟨#[98]⟩, ⟨#[107]⟩, ⟨#[122]⟩] : List ByteArray) := ((OL.cons rfl (Rep.strI x5) (OL.cons rfl (Rep.strI ⟨#[98]⟩) (OL.cons rfl (Rep.strI ⟨#[107]⟩) (OL.cons rfl (Rep.strI ⟨#[122]⟩) (OL.nil (Rp' := Rep.str)))))) :)
             refine .reval 367 (n' := ([x5, ⟨#[98]⟩, ⟨#[107]⟩, ⟨#[122]⟩] : List ByteArray).length) rfl rfl (.go 3 ?_)
             refine .block ?_
             refine .lp (fun y m => ∃ (Z0 : Nat) (Z1 : List ByteArray) (Z2 : _), y = ⟨[(369, .int .i64 (Z0 : Int))], [Z2], [], []⟩ ∧ Z1.length = m ∧ HpLe G210 Z2 ∧ Bd w0 S0 Fs Z2 ∧ List.drop Z0 ([x5, ⟨#[98]⟩, ⟨#[107]⟩, ⟨#[122]⟩] : List ByteArray) = Z1 ∧ X1u (Xt (Xl x3) x5 xs181) x180.1 x180.2 v164 v165 v166 v167 v168 v169 v170 v171 v172 v173 v174 v175 Z1  = some r) [(343, _), (3, _), (5, _), (341, _), (342, _), (60, _), (367, _), (368, _)] [_, _, _, _, _, _, _, _] [_, _, _, _] ⟨0, ([x5, ⟨#[98]⟩, ⟨#[107]⟩, ⟨#[122]⟩] : List ByteArray), G210, rfl, rfl, (HpLe.refl _), B212, rfl, r219⟩ (fun y m hI hb222 => ?_)
             obtain ⟨i223, w224, G225, rfl, rfl, e226, B227, g228, r229⟩ := hI
             refine .gn 0 ?_
             cases w224 with
             | nil =>
              rw [X1u] at r229; try dsimp only at r229
              refine .go 5 ?_
              refine .cond_dec rfl (fun c => absurd c (X8 g228)) (fun _ => ?_)
              refine .exit rfl (.go 5 ?_)
              refine .drop 1 0 [_, _, _, _, _, _, _] _ rfl rfl (.drop 0 1 _ [_, _, _] rfl rfl ?_)
              exact (hb160 _ _ ⟨(i161 + 1), xs181, G225, v164, v165, v166, v167, v168, v169, v170, v171, v172, v173, v174, v175, rfl, rfl, (HpLe.trans (HpLe.trans (HpLe.trans e176 e207) e211) e226), B227, (X3 g178), r229⟩ (Nat.lt_succ_self _)).ax ⟨(congrArg (fun z => some (Value.int .i64 z)) (X7 (OL.len' o138) g178)), rfl, rfl, rfl, rfl, trivial⟩
             | cons x230 xs231 =>
              have r232 : X38 (Xt (Xl x3) x5 xs181) x180.1 x180.2 v164 v165 v166 v167 v168 v169 v170 v171 v172 v173 v174 v175 (X1u (Xt (Xl x3) x5 xs181) x180.1 x180.2 v164 v165 v166 v167 v168 v169 v170 v171 v172 v173 v174 v175 xs231) x230  = some r := r229; clear r229; unfold X38 at r232; try dsimp only at r232
              refine .go 5 ?_
              refine .cond_dec rfl (fun _ => ?_) (fun c => absurd (Xf g228) c)
              refine .go 2 ?_
              refine .block (.go 2 ?_)
              obtain ⟨c233, p234, h235⟩ := OL.get (OL.mono e226 o221) (X2 g228)
              obtain rfl := h235
              refine .q .ro (.idxO 0 rfl rfl rfl (X2 g228) sl46 ty9.sz) rfl (.q .ro (.loadO 0 0 rfl (X2 g228) p234 rfl (.inl ⟨rfl, rfl⟩) ty9 rfl) rfl (.go 4 ?_))
              refine .q .ro (.load_own_a 0 [_, _] rfl rfl ty72 rfl) rfl (.go 1 ?_)
              obtain ⟨u236, hu236, r237⟩ := X0 r232
              refine .cS [_, _] Tryz.call28 (Xfn mcs (SlR.mono (HpLe.trans (HpLe.trans e207 e211) e226) s188) hu236) (fun v238 bo so h239 => ?_)
              obtain ⟨a240, k241, cs242, rfl, rfl, rfl, o243⟩ := h239
              refine .gn 12 ?_
              refine .q .ro (.load_own_a 0 [_, _] rfl rfl ty72 rfl) rfl (.go 1 ?_)
              obtain ⟨u244, hu244, r245⟩ := X0 r237
              refine .cS [_, _] Tryz.call29 (Xgs mcs (SlR.mono (HpLe.trans (HpLe.trans e207 e211) e226) s188) hu244) (fun v246 bo so h247 => ?_)
              obtain ⟨a248, k249, cs250, rfl, rfl, rfl, o251⟩ := h247
              refine .gn 16 ?_
              refine .kR (fun y => y = ⟨[(396, .bool (decide ((u236.2.2.2 ≠ u244.2.2.2) ∨ (u236.2.1 ≠ u244.2.1))))], G225 :: Fs, [], []⟩) [(369, _), (343, _), (3, _), (5, _), (341, _), (342, _), (60, _), (367, _), (368, _), (67, _), (69, _), (71, _), (73, _)] [_, _, _, _, _, _, _, _] [0, 1, 2, 3, 4, 5, 6, 7] [_, _, _, _, _, _] [0, 1, 2, 3, 4, 5] 4 ?_ ?_
              ·rintro _ rfl
               refine .gn 1 ?_
               refine .kR (fun y => y = ⟨[(401, .bool (decide (((u236.2.2.2 ≠ u244.2.2.2) ∨ (u236.2.1 ≠ u244.2.1)) ∨ (u236.2.2.1 ≠ u244.2.2.1))))], G225 :: Fs, [], []⟩) [(369, _), (343, _), (3, _), (5, _), (341, _), (342, _), (60, _), (367, _), (368, _), (67, _), (71, _)] [_, _, _, _, _, _, _, _] [0, 1, 2, 3, 4, 5, 6, 7] [_, _, _, _, _, _] [0, 1, 2, 3, 4, 5] 4 ?_ ?_
               ·rintro _ rfl
                refine .gn 1 ?_
                refine .freezeR 0 rfl rfl o251 [_, _, _, _, _] rfl B227 (fun G252 e253 B254 s255 => ?_)
                refine .freezeR 0 rfl rfl (OL.mono e253 o243) [_, _, _, _] rfl B254 (fun G256 e257 B258 s259 => ?_)
                obtain ⟨u260, h261, r262⟩ := X0 r245
                refine .kR (fun y => y = ⟨[(407, .bool u260)], G256 :: Fs, [], []⟩) [(369, _), (343, _), (3, _), (5, _), (341, _), (342, _), (60, _), (367, _), (368, _)] [_, _, _, _, _, _, _, _] [0, 1, 2, 3, 4, 5, 6, 7] [_, _, _, _] [0, 1, 2, 3] 5 ?_ ?_
                ·rintro _ rfl
                 refine .gn 1 ?_
                 refine .cB r262 (fun c263 r264 => ?_) (fun c263 r265 => ?_)
                 ·refine .go 4 ?_
                  cases r264
                  refine .drop 8 0 [] _ rfl rfl (.drop 0 4 _ [] rfl rfl ?_)
                  refine .rS [.tmp 16] [_] Tryz.func4 Tryz.results4 ⟨rfl, rfl, rfl⟩
                 ·refine .go 6 ?_
                  exact (hb222 _ _ ⟨(i223 + 1), xs231, G256, rfl, rfl, (HpLe.trans (HpLe.trans e226 e253) e257), B258, (X3 g228), r265⟩ (Nat.lt_succ_self _)).ax ⟨(congrArg (fun z => some (Value.int .i64 z)) (X7 (OL.len' o221) g228)), rfl, rfl, rfl, rfl, rfl, rfl, rfl, rfl, trivial⟩
                ·intro hb266
                 refine .split 402 rfl (fun c267 => ?_) (fun c267 => ?_)
                 ·have r268 := ifT h261 c267
                  refine .go 5 ?_
                  exact (hb266 _ rfl).ax ⟨sval r268, rfl, rfl, rfl, rfl, rfl, rfl, rfl, rfl, rfl, trivial⟩
                 ·have r269 := ifF h261 c267
                  refine .go 5 ?_
                  obtain ⟨u270, hu270, r271⟩ := X0 r269
                  refine .cV [_, _] Tryz.call23 (Xbh mcs s259 (SlR.mono e257 s255) hu270) ?_
                  refine .go 3 ?_
                  exact (hb266 _ rfl).ax ⟨sval r271, rfl, rfl, rfl, rfl, rfl, rfl, rfl, rfl, rfl, trivial⟩
               ·intro hb272
                refine .split 397 rfl (fun c273 => ?_) (fun c273 => ?_)
                ·refine .go 4 ?_
                 exact (hb272 _ rfl).ax ⟨X3s c273, rfl, rfl, rfl, rfl, rfl, rfl, rfl, rfl, rfl, rfl, rfl, trivial⟩
                ·refine .go 5 ?_
                 refine .q .ro (.neq_b Tryz.underlying4 rfl rfl) rfl (.go 1 ?_)
                 exact (hb272 _ rfl).ax ⟨X44 c273, rfl, rfl, rfl, rfl, rfl, rfl, rfl, rfl, rfl, rfl, rfl, trivial⟩
              ·intro hb274
               refine .split 392 rfl (fun c275 => ?_) (fun c275 => ?_)
               ·refine .go 4 ?_
                exact (hb274 _ rfl).ax ⟨X3s c275, rfl, rfl, rfl, rfl, rfl, rfl, rfl, rfl, rfl, rfl, rfl, rfl, rfl, trivial⟩
               ·refine .go 7 ?_
                exact (hb274 _ rfl).ax ⟨X44 c275, rfl, rfl, rfl, rfl, rfl, rfl, rfl, rfl, rfl, rfl, rfl, rfl, rfl, trivial⟩
           ·intro hb276
            refine .split 360 rfl (fun c277 => ?_) (fun c277 => ?_)
            ·have r278 := ifT h215 c277
             refine .go 5 ?_
             exact (hb276 _ rfl).ax ⟨sval r278, rfl, rfl, rfl, rfl, rfl, rfl, trivial⟩
            ·have r279 := ifF h215 c277
             refine .go 5 ?_
             obtain ⟨u280, hu280, r281⟩ := X0 r279
             refine .cV [_, _] Tryz.call23 (Xbh mcs s213 (SlR.mono e211 s209) hu280) ?_
             refine .go 3 ?_
             exact (hb276 _ rfl).ax ⟨sval r281, rfl, rfl, rfl, rfl, rfl, rfl, trivial⟩
        ·intro hb282
         refine .block (.pull 6 rfl [_, _, _, _, _, _, _] rfl (.pull 6 rfl [_, _, _, _, _, _, _] rfl (.pull 6 rfl [_, _, _, _, _, _, _] rfl (.pull 6 rfl [_, _, _, _, _, _, _] rfl (.pull 6 rfl [_, _, _, _, _, _, _] rfl (.pull 6 rfl [_, _, _, _, _, _, _] rfl (.pull 6 rfl [_, _, _, _, _, _, _] rfl ?_)))))))
         refine .lp (fun y m => ∃ (Z0 : Nat) (Z1 : List ByteArray) (Z2 Z3 Z4 Z5 Z6 Z7 Z8 Z9 : _) (Z10 : List Int) (Z11 : _) (Z12 : Nat) (Z13 Z14 Z15 Z16 Z17 : _), y = ⟨[(225, .int .i64 (Z0 : Int))], [Z2], [(b101, .cells #[.int .i64 Z3, .int .i64 Z4, .int .i64 Z5, .slice a98 u91.1.2.2.2.length k99] 39 (0, 0)), (b73, .cells #[.int .i64 Z6, .slice a67 u59.1.1.2.length k68, .int .i64 Z7, .slice a70 u59.1.2.2.length k71] 31 (0, 0)), (b58, .cells #[.int .i64 Z8, .slice a46 u38.1.1.2.length k47, .int .i64 Z9, .slice a49 u38.1.2.2.length k50] 31 (0, 0)), (b34, .cells #[.slice Z11 Z10.length Z12, .int .i64 Z13] 91 (0, 0)), (b3, .cells #[.int .i64 Z14, .slice a7_1 x7_1.length k7_1] 72 (0, 0)), (b2, .cells #[.int .i64 Z15] 36 (0, 0)), (b1, .cells #[.int .i64 Z16, .slice a1_1 x1_1.length k1_1, .int .i64 Z17, .slice a1_3 x1_3.length k1_3] 31 (0, 0))], []⟩ ∧ Z1.length = m ∧ HpLe G94 Z2 ∧ Bd w0 S0 Fs Z2 ∧ SlR (Rep.int .u8) Z2 Z11 Z12 Z10 ∧ List.drop Z0 ([x5, ⟨#[97, 110, 116]⟩, ⟨#[99, 97, 116]⟩, ⟨#[122, 101, 98, 114, 97]⟩] : List ByteArray) = Z1 ∧ X4 (X5 x3 x5 x7_1) x3 x6 u91.1.2.2.2 u38.1.1.2 Z1 Z3 Z4 Z5 Z6 Z7 Z8 Z9 Z10 Z13 Z14 Z15 Z16 Z17 = some r) [(3, _), (5, _), (6, _), (15, _), (17, _), (18, _), (40, _), (223, _), (224, _)] [] [_, _] ⟨0, ([x5, ⟨#[97, 110, 116]⟩, ⟨#[99, 97, 116]⟩, ⟨#[122, 101, 98, 114, 97]⟩] : List ByteArray), G94, u91.1.1, u91.1.2.1, u91.1.2.2.1, v66, v77, v78, v79, u38.2.2.1, a55, k56, v82, v84, v85, v86, v87, rfl, rfl, (HpLe.refl _), B96, (SlR.mono (HpLe.trans (HpLe.trans e64 e88) e95) s57), rfl, r92⟩ (fun y m hI hb283 => ?_)
         obtain ⟨i284, w285, G286, v287, v288, v289, v290, v291, v292, v293, v294, a295, k296, v297, v298, v299, v300, v301, rfl, rfl, e302, B303, s304, g305, r306⟩ := hI
         refine .gn 0 ?_
         cases w285 with
         | nil =>
          rw [X4] at r306; try dsimp only at r306
          refine .go 5 ?_
          refine .cond_dec rfl (fun c => absurd c (X8 g305)) (fun _ => ?_)
          refine .exit rfl ?_
          exact (hb282 _ ⟨G286, v287, v288, v289, v290, v291, v292, v293, v294, a295, k296, v297, v298, v299, v300, v301, rfl, e302, B303, s304, r306⟩).ar
         | cons x307 xs308 =>
          have r309 : X30 (X5 x3 x5 x7_1) x3 x6 u91.1.2.2.2 u38.1.1.2 (X4 (X5 x3 x5 x7_1) x3 x6 u91.1.2.2.2 u38.1.1.2 xs308) x307 v287 v288 v289 v290 v291 v292 v293 v294 v297 v298 v299 v300 v301 = some r := r306; clear r306; unfold X30 at r309; try dsimp only at r309
          refine .go 5 ?_
          refine .cond_dec rfl (fun _ => ?_) (fun c => absurd (Xf g305) c)
          refine .go 2 ?_
          refine .block (.go 2 ?_)
          obtain ⟨c310, p311, h312⟩ := OL.get (OL.mono e302 o103) (X2 g305)
          obtain rfl := h312
          refine .q .ro (.idxO 0 rfl rfl rfl (X2 g305) sl46 ty9.sz) rfl (.q .ro (.loadO 0 0 rfl (X2 g305) p311 rfl (.inl ⟨rfl, rfl⟩) ty9 rfl) rfl (.go 5 ?_))
          refine .q .ro (.load_own_a 2 [_, _] rfl rfl ty28 rfl) rfl (.go 1 ?_)
          obtain ⟨u313, hu313, r314⟩ := X0 r309
          refine .cS [_, _] Tryz.call22 (Xct mcs (SlR.mono (HpLe.trans (HpLe.trans (HpLe.trans e64 e88) e95) e302) s48) hu313) (fun v315 bo so h316 => ?_)
          obtain ⟨a317, k318, cs319, rfl, rfl, rfl, o320⟩ := h316
          refine .gn 17 ?_
          refine .kB (fun y => ∃ (Z0 : List (Int × (List Int) × (List Int))) (Z1 : _) (Z2 : Nat) (Z3 Z4 Z5 Z6 Z7 Z8 Z9 Z10 Z11 Z12 Z13 Z14 Z15 Z16 : _), y = ⟨[(46, .slice Z1 Z0.length Z2)], G286 :: Fs, [(b101, .cells #[.int .i64 Z5, .int .i64 Z6, .int .i64 Z7, .slice a98 u91.1.2.2.2.length k99] 39 (0, 0)), (b73, .cells #[.int .i64 Z8, .slice a67 u59.1.1.2.length k68, .int .i64 Z9, .slice a70 u59.1.2.2.length k71] 31 (0, 0)), (b58, .cells #[.int .i64 Z10, .slice a46 u38.1.1.2.length k47, .int .i64 Z11, .slice a49 u38.1.2.2.length k50] 31 (0, 0)), (b34, .cells #[.slice a295 v294.length k296, .int .i64 Z12] 91 (0, 0)), (b3, .cells #[.int .i64 Z13, .slice a7_1 x7_1.length k7_1] 72 (0, 0)), (b2, .cells #[.int .i64 Z14] 36 (0, 0)), (b1, .cells #[.int .i64 Z15, .slice a1_1 x1_1.length k1_1, .int .i64 Z16, .slice a1_3 x1_3.length k1_3] 31 (0, 0))], [.s (.slice Z1 Z0.length Z2) 80 3 Z0.length Z4, .g (packG 3 1 Z3)]⟩ ∧ NS shp80 ri shE80 G286 Z3 Z4 Z0 ∧ (Xz (X4 (X5 x3 x5 x7_1) x3 x6 u91.1.2.2.2 u38.1.1.2 xs308) x3 x6 x307 v294) Z0 Z5 Z6 Z7 Z8 Z9 Z10 Z11 Z12 Z13 Z14 Z15 Z16 = some r) [(225, _), (3, _), (5, _), (6, _), (15, _), (17, _), (18, _), (40, _), (223, _), (224, _), (43, _)] [] [] [_, _, _] [0, 1, 2] ?_ ?_
          ·rintro _ ⟨v321, a322, k323, es324, cs325, v326, v327, v328, v329, v330, v331, v332, v333, v334, v335, v336, v337, rfl, o338, r339⟩
           refine .gn 0 ?_
           unfold Xz at r339
           try dsimp only at r339
           refine .go 4 ?_
           obtain ⟨u340, hu340, r341⟩ := X0 r339
           refine .pull 3 rfl [_, _, _, _, _, _, _] rfl ?_
           refine .callS (b1 := [_]) (b2 := [_, _, _, _, _, _]) (s1 := []) [_, _] [] .ro rfl rfl Tryz.call10 rfl rfl (X6 mcs s304 hu340) rfl (fun v342 bo so h343 => ?_)
           obtain ⟨a344, k345, rfl, rfl, rfl, s346⟩ := h343
           refine .gn 1 ?_
           refine .block (.go 5 ?_)
           refine .kI (fun y => ∃ (Z0 : List (Int × (List Int) × (List Int))) (Z1 Z2 : _) (Z3 : List Int) (Z4 : _) (Z5 : Nat) (Z6 : _), y = ⟨[(46, .slice a322 Z0.length k323)], G286 :: Fs, [(b34, .cells #[.slice Z4 Z3.length Z5, .int .i64 Z6] 91 (0, 0))], [.s (.slice a322 Z0.length k323) 80 3 Z0.length Z2, .g (packG 3 1 Z1)]⟩ ∧ NS shp80 ri shE80 G286 Z1 Z2 Z0 ∧ Z0.length = v321.length ∧ SlR (Rep.int .u8) G286 Z4 Z5 Z3 ∧ (Xj (X4 (X5 x3 x5 x7_1) x3 x6 u91.1.2.2.2 u38.1.1.2 xs308) x3 x6 x307 v326 v327 v328 v329 v330 v331 v332 v334 v335 v336 v337) Z0 Z3 Z6 = some r) [(225, _), (3, _), (5, _), (6, _), (15, _), (17, _), (18, _), (40, _), (223, _), (224, _), (43, _)] [_, _, _, _, _, _] [1, 2, 3, 4, 5, 6] [_, _, _] [2, 3, 4] ?_ ?_
           ·rintro _ ⟨v347, es348, cs349, v350, a351, k352, v353, rfl, o354, hl355, s356, r357⟩
            refine .gn 0 ?_
            unfold Xj at r357
            try dsimp only at r357
            refine .go 5 ?_
            refine .pullS 1 rfl [_, _, _, _, _] rfl (.pullS 1 rfl [_, _, _, _, _] rfl ?_)
            refine .freezeNs (Rep.pair ri (Rep.pair (Rep.sl ri) (Rep.sl ri))) shP80 rfl o354 rfl rfl rfl B303 (fun G358 e359 B360 s361 => ?_)
            refine .lit [_, _] [(0, _), (1, _)] .ro sl81 ty63 rfl rfl rfl rfl rfl rfl (fun b362 hb362 => ?_)
            have o363 : OL (Rep.sl (Rep.pair ri (Rep.pair (Rep.sl ri) (Rep.sl ri)))) G358 [.slice a322 v347.length k323, .slice a6 x6.length k6] ([v347, x6] : List (List (Int × (List Int) × (List Int)))) := ((OL.cons rfl (Rep.slI s361) (OL.cons rfl (Rep.slI (SlR.mono (HpLe.trans (HpLe.trans (HpLe.trans (HpLe.trans (HpLe.trans e43 e64) e88) e95) e302) e359) s6)) (OL.nil (Rp' := (Rep.sl (Rep.pair ri (Rep.pair (Rep.sl ri) (Rep.sl ri)))))))) :)
            refine .reval 293 (n' := ([v347, x6] : List (List (Int × (List Int) × (List Int)))).length) rfl rfl (.go 3 ?_)
            refine .block (.pull 6 rfl [_, _, _, _, _, _, _] rfl (.pull 6 rfl [_, _, _, _, _, _, _] rfl (.pull 6 rfl [_, _, _, _, _, _, _] rfl (.pull 6 rfl [_, _, _, _, _, _, _] rfl (.pull 6 rfl [_, _, _, _, _, _, _] rfl (.pull 6 rfl [_, _, _, _, _, _, _] rfl (.pull 6 rfl [_, _, _, _, _, _, _] rfl ?_)))))))
            refine .lp (fun y m => ∃ (Z0 : Nat) (Z1 : List (List (Int × (List Int) × (List Int)))) (Z2 Z3 Z4 Z5 Z6 Z7 Z8 Z9 Z10 Z11 Z12 Z13 : _), y = ⟨[(295, .int .i64 (Z0 : Int))], [], [(b34, .cells #[.slice a351 v350.length k352, .int .i64 Z2] 91 (0, 0)), (b101, .cells #[.int .i64 Z3, .int .i64 Z4, .int .i64 Z5, .slice a98 u91.1.2.2.2.length k99] 39 (0, 0)), (b73, .cells #[.int .i64 Z6, .slice a67 u59.1.1.2.length k68, .int .i64 Z7, .slice a70 u59.1.2.2.length k71] 31 (0, 0)), (b58, .cells #[.int .i64 Z8, .slice a46 u38.1.1.2.length k47, .int .i64 Z9, .slice a49 u38.1.2.2.length k50] 31 (0, 0)), (b3, .cells #[.int .i64 Z10, .slice a7_1 x7_1.length k7_1] 72 (0, 0)), (b2, .cells #[.int .i64 Z11] 36 (0, 0)), (b1, .cells #[.int .i64 Z12, .slice a1_1 x1_1.length k1_1, .int .i64 Z13, .slice a1_3 x1_3.length k1_3] 31 (0, 0))], []⟩ ∧ Z1.length = m ∧ List.drop Z0 ([v347, x6] : List (List (Int × (List Int) × (List Int)))) = Z1 ∧ Xm (X4 (X5 x3 x5 x7_1) x3 x6 u91.1.2.2.2 u38.1.1.2 xs308) x3 x307 v350 Z1 Z2 Z3 Z4 Z5 Z6 Z7 Z8 Z9 Z10 Z11 Z12 Z13 = some r) [(225, _), (3, _), (5, _), (6, _), (15, _), (17, _), (18, _), (40, _), (223, _), (224, _), (43, _), (293, _), (294, _)] [] [_, _, _, _] ⟨0, ([v347, x6] : List (List (Int × (List Int) × (List Int)))), v353, v326, v327, v328, v329, v330, v331, v332, v334, v335, v336, v337, rfl, rfl, rfl, r357⟩ (fun y m hI hb364 => ?_)
            obtain ⟨i365, w366, v367, v368, v369, v370, v371, v372, v373, v374, v375, v376, v377, v378, rfl, rfl, g379, r380⟩ := hI
            refine .gn 0 ?_
            cases w366 with
            | nil =>
             rw [Xm] at r380; try dsimp only at r380
             refine .go 5 ?_
             refine .cond_dec rfl (fun c => absurd c (X8 g379)) (fun _ => ?_)
             refine .exit rfl (.go 5 ?_)
             refine .pull 6 rfl [_, _, _, _, _, _, _] rfl (.pull 6 rfl [_, _, _, _, _, _, _] rfl (.pull 6 rfl [_, _, _, _, _, _, _] rfl (.pull 3 rfl [_, _, _, _, _, _, _] rfl (.pull 6 rfl [_, _, _, _, _, _, _] rfl (.pull 6 rfl [_, _, _, _, _, _, _] rfl (.pull 6 rfl [_, _, _, _, _, _, _] rfl (.drop 0 2 _ [_, _] rfl rfl ?_)))))))
             exact (hb283 _ _ ⟨(i284 + 1), xs308, G358, v368, v369, v370, v371, v372, v373, v374, v350, a351, k352, v367, v375, v376, v377, v378, rfl, rfl, (HpLe.trans e302 e359), B360, (SlR.mono e359 s356), (X3 g305), r380⟩ (Nat.lt_succ_self _)).ax ⟨(congrArg (fun z => some (Value.int .i64 z)) (X7 (OL.len' o103) g305)), rfl, rfl, rfl, rfl, rfl, rfl, rfl, rfl, rfl, trivial⟩
            | cons x381 xs382 =>
             have r383 : X3b (X4 (X5 x3 x5 x7_1) x3 x6 u91.1.2.2.2 u38.1.1.2 xs308) x3 x307 v350 (Xm (X4 (X5 x3 x5 x7_1) x3 x6 u91.1.2.2.2 u38.1.1.2 xs308) x3 x307 v350 xs382) x381 v367 v368 v369 v370 v371 v372 v373 v374 v375 v376 v377 v378 = some r := r380; clear r380; unfold X3b at r383; try dsimp only at r383
             refine .go 5 ?_
             refine .cond_dec rfl (fun _ => ?_) (fun c => absurd (Xf g379) c)
             refine .go 2 ?_
             refine .block (.go 2 ?_)
             obtain ⟨c384, p385, h386⟩ := OL.get o363 (X2 g379)
             obtain ⟨a387, k388, rfl, s389⟩ := h386
             refine .q .ro (.idxO 0 rfl rfl rfl (X2 g379) sl81 ty63.sz) rfl (.q .ro (.loadO 0 0 rfl (X2 g379) p385 rfl (.inl ⟨rfl, rfl⟩) ty63 rfl) rfl (.go 5 ?_))
             refine .lit [_, _] [(0, _), (1, _)] .ro sl48 ty3 rfl rfl rfl rfl rfl rfl (fun b390 hb390 => ?_)
             have o391 : OL ri G358 [.int .i64 1, .int .i64 x3] ([1, x3] : List Int) := ((OL.cons rfl (Rep.intI .i64 1) (OL.cons rfl (Rep.intI .i64 x3) (OL.nil (Rp' := ri)))) :)
             refine .reval 300 (n' := ([1, x3] : List Int).length) rfl rfl (.go 3 ?_)
             refine .block ?_
             refine .lp (fun y m => ∃ (Z0 : Nat) (Z1 : List Int), y = ⟨[(302, .int .i64 (Z0 : Int))], [], [], []⟩ ∧ Z1.length = m ∧ List.drop Z0 ([1, x3] : List Int) = Z1 ∧ X1v (Xm (X4 (X5 x3 x5 x7_1) x3 x6 u91.1.2.2.2 u38.1.1.2 xs308) x3 x307 v350 xs382) x307 x381 v367 v368 v369 v370 v371 v372 v373 v374 v375 v376 v377 v378 Z1  = some r) [(295, _), (225, _), (3, _), (5, _), (6, _), (15, _), (17, _), (18, _), (40, _), (223, _), (224, _), (43, _), (293, _), (294, _), (50, _), (300, _), (301, _)] [_, _, _, _, _, _, _] [_, _, _, _, _] ⟨0, ([1, x3] : List Int), rfl, rfl, rfl, r383⟩ (fun y m hI hb392 => ?_)
             obtain ⟨i393, w394, rfl, rfl, g395, r396⟩ := hI
             refine .gn 0 ?_
             cases w394 with
             | nil =>
              rw [X1v] at r396; try dsimp only at r396
              refine .go 5 ?_
              refine .cond_dec rfl (fun c => absurd c (X8 g395)) (fun _ => ?_)
              refine .exit rfl (.go 5 ?_)
              refine .drop 0 1 _ [_, _, _, _] rfl rfl ?_
              exact (hb364 _ _ ⟨(i365 + 1), xs382, v367, v368, v369, v370, v371, v372, v373, v374, v375, v376, v377, v378, rfl, rfl, (X3 g379), r396⟩ (Nat.lt_succ_self _)).ax ⟨(congrArg (fun z => some (Value.int .i64 z)) (X7 (OL.len' o363) g379)), rfl, rfl, rfl, rfl, rfl, rfl, rfl, rfl, rfl, rfl, rfl, rfl, rfl, trivial⟩
             | cons x397 xs398 =>
              have r399 : X3a (Xm (X4 (X5 x3 x5 x7_1) x3 x6 u91.1.2.2.2 u38.1.1.2 xs308) x3 x307 v350 xs382) x307 x381 v367 v368 v369 v370 v371 v372 v373 v374 v375 v376 v377 v378 (X1v (Xm (X4 (X5 x3 x5 x7_1) x3 x6 u91.1.2.2.2 u38.1.1.2 xs308) x3 x307 v350 xs382) x307 x381 v367 v368 v369 v370 v371 v372 v373 v374 v375 v376 v377 v378 xs398) x397  = some r := r396; clear r396; unfold X3a at r399; try dsimp only at r399
              refine .go 5 ?_
              refine .cond_dec rfl (fun _ => ?_) (fun c => absurd (Xf g395) c)
              refine .go 2 ?_
              refine .block (.go 2 ?_)
              obtain ⟨c400, p401, h402⟩ := OL.get o391 (X2 g395)
              obtain rfl := h402
              refine .q .ro (.idxO 0 rfl rfl rfl (X2 g395) sl48 ty3.sz) rfl (.q .ro (.loadO 0 0 rfl (X2 g395) p401 rfl (.inl ⟨rfl, rfl⟩) ty3 rfl) rfl (.go 7 ?_))
              obtain ⟨u403, hu403, r404⟩ := X0 r399
              refine .cV [_, _, _] Tryz.call18 (Xfg mcs s389 hu403) ?_
              refine .go 13 ?_
              obtain ⟨u405, hu405, r406⟩ := X0 r404
              refine .cV [_, _, _] Tryz.call24 (Xgp mcs s389 hu405) ?_
              refine .go 14 ?_
              refine .kR (fun y => y = ⟨[(329, .bool (decide ((u403.1 ≠ u405.1) ∨ (u403.2.1 ≠ u405.2.1))))], G358 :: Fs, [], []⟩) [(302, _), (295, _), (225, _), (3, _), (5, _), (6, _), (15, _), (17, _), (18, _), (40, _), (223, _), (224, _), (43, _), (293, _), (294, _), (50, _), (300, _), (301, _), (55, _), (58, _)] [_, _, _, _, _, _, _] [0, 1, 2, 3, 4, 5, 6] [_, _, _, _, _] [0, 1, 2, 3, 4] 4 ?_ ?_
              ·rintro _ rfl
               refine .gn 1 ?_
               refine .kR (fun y => y = ⟨[(334, .bool (decide (((u403.1 ≠ u405.1) ∨ (u403.2.1 ≠ u405.2.1)) ∨ (u403.2.2 ≠ u405.2.2))))], G358 :: Fs, [], []⟩) [(302, _), (295, _), (225, _), (3, _), (5, _), (6, _), (15, _), (17, _), (18, _), (40, _), (223, _), (224, _), (43, _), (293, _), (294, _), (50, _), (300, _), (301, _)] [_, _, _, _, _, _, _] [0, 1, 2, 3, 4, 5, 6] [_, _, _, _, _] [0, 1, 2, 3, 4] 4 ?_ ?_
               ·rintro _ rfl
                refine .gn 1 ?_
                refine .cH r406 (fun c407 r408 => ?_) (fun c407 r409 => ?_)
                ·refine .go 4 ?_
                 cases r408
                 refine .drop 7 0 [] _ rfl rfl (.drop 0 5 _ [] rfl rfl ?_)
                 refine .rS [.tmp 16] [_] Tryz.func4 Tryz.results4 ⟨rfl, rfl, rfl⟩
                ·refine .go 6 ?_
                 exact (hb392 _ _ ⟨(i393 + 1), xs398, rfl, rfl, (X3 g395), r409⟩ (Nat.lt_succ_self _)).ax ⟨(congrArg (fun z => some (Value.int .i64 z)) (X7 (OL.len' o391) g395)), rfl, rfl, rfl, rfl, rfl, rfl, rfl, rfl, rfl, rfl, rfl, rfl, rfl, rfl, rfl, rfl, rfl, trivial⟩
               ·intro hb410
                refine .split 330 rfl (fun c411 => ?_) (fun c411 => ?_)
                ·refine .go 4 ?_
                 exact (hb410 _ rfl).ax ⟨X3s c411, rfl, rfl, rfl, rfl, rfl, rfl, rfl, rfl, rfl, rfl, rfl, rfl, rfl, rfl, rfl, rfl, rfl, rfl, trivial⟩
                ·refine .go 7 ?_
                 exact (hb410 _ rfl).ax ⟨X44 c411, rfl, rfl, rfl, rfl, rfl, rfl, rfl, rfl, rfl, rfl, rfl, rfl, rfl, rfl, rfl, rfl, rfl, rfl, trivial⟩
              ·intro hb412
               refine .split 325 rfl (fun c413 => ?_) (fun c413 => ?_)
               ·refine .go 4 ?_
                exact (hb412 _ rfl).ax ⟨X3s c413, rfl, rfl, rfl, rfl, rfl, rfl, rfl, rfl, rfl, rfl, rfl, rfl, rfl, rfl, rfl, rfl, rfl, rfl, rfl, rfl, trivial⟩
               ·refine .go 5 ?_
                refine .q .ro (.neq_b Tryz.underlying4 rfl rfl) rfl (.go 1 ?_)
                exact (hb412 _ rfl).ax ⟨X44 c413, rfl, rfl, rfl, rfl, rfl, rfl, rfl, rfl, rfl, rfl, rfl, rfl, rfl, rfl, rfl, rfl, rfl, rfl, rfl, rfl, trivial⟩
           ·intro hb414
            refine .cH r341 (fun c415 r416 => ?_) (fun c415 r417 => ?_)
            ·refine .go 6 ?_
             refine .cH r416 (fun c418 r419 => ?_) (fun c418 r420 => ?_)
             ·refine .go 2 ?_
              obtain ⟨u421, hu421, r422⟩ := X0 r419
              obtain ⟨e423, c424, he425, hn426, ho427, p428, h429⟩ := NS.get o338 hu421
              obtain ⟨_, _, rfl, rfl, _, _, rfl, rfl, a430, k431, rfl, s432⟩ := h429
              refine .q .ro (.idxO 0 rfl rfl rfl hu421 sl63 ty80.sz) rfl (.q .ro (.fieldO 0 0 rfl hu421 rfl (.inl ⟨rfl, rfl⟩) Xhq ty40.sz) rfl ?_)
              obtain ⟨u433, hu433, r434⟩ := X0 r422
              refine .storeS (S := shp80) (s := u421) (s' := (12, u421.2.1, u421.2.2)) 0 0 .ro rfl rfl o338 he425 hu421 rfl hu433 rfl (.inr rfl) rfl ty40 p428 ((Rep.pairI (Rep.intI .i64 12) (Rep.pairI (show Rep.hdr.r G286 [.slice e423.a u421.2.1.length e423.k] (e423.a, u421.2.1.length, e423.k) from rfl) (Rep.slI s432))) :) rfl rfl (fun cs435 hlcs435 o436 => ?_)
              refine .reval 46 hlcs435 rfl (.reval 258 hlcs435 rfl (.reval 261 hlcs435 rfl (.go 1 ?_)))
              exact (hb414 _ ⟨u433, es324, cs435, u340.2.1, a344, k345, u340.2.2, rfl, o436, hlcs435, s346, r434⟩).ar
             ·refine .go 1 ?_
              exact (hb414 _ ⟨v321, es324, cs325, u340.2.1, a344, k345, u340.2.2, rfl, o338, rfl, s346, r420⟩).ar
            ·refine .go 5 ?_
             refine .cH r417 (fun c437 r438 => ?_) (fun c437 r439 => ?_)
             ·refine .go 6 ?_
              refine .cH r438 (fun c440 r441 => ?_) (fun c440 r442 => ?_)
              ·refine .drawL (.q 0 (.q 1 (.q 2 (.q 3 (.q 7 (.q 9 (.alt (.e 4 1 (.alt (.e 5 1 (.alt (.e 6 1 (.e 8 1 (.e 10 1 (.e 11 2 (.e 12 2 .nil))))) (.e 8 1 (.alt (.e 6 1 (.e 10 1 (.e 11 2 (.e 12 2 .nil)))) (.e 10 1 (.e 6 1 (.e 11 2 (.e 12 2 .nil)))))))) (.e 8 1 (.alt (.e 5 1 (.alt (.e 6 1 (.e 10 1 (.e 11 2 (.e 12 2 .nil)))) (.e 10 1 (.e 6 1 (.e 11 2 (.e 12 2 .nil)))))) (.e 10 1 (.e 5 1 (.e 6 1 (.e 11 2 (.e 12 2 .nil))))))))) (.e 8 1 (.alt (.e 4 1 (.alt (.e 5 1 (.alt (.e 6 1 (.e 10 1 (.e 11 2 (.e 12 2 .nil)))) (.e 10 1 (.e 6 1 (.e 11 2 (.e 12 2 .nil)))))) (.e 10 1 (.e 5 1 (.e 6 1 (.e 11 2 (.e 12 2 .nil))))))) (.e 10 1 (.e 4 1 (.e 5 1 (.e 6 1 (.e 11 2 (.e 12 2 .nil))))))))))))))) [_, _, _, _, _, _] (by kernel_rfl) (by kernel_rfl) (X1 [1, 2, 3, 4, 5, 6] rfl) ?_
               obtain ⟨u443, hu443, r444⟩ := X0 r441
               obtain ⟨u445, hu445, r446⟩ := X0 r444
               obtain ⟨u447, hu447, r448⟩ := X0 r446
               obtain ⟨u449, hu449, r450⟩ := X0 r448
               obtain ⟨u451, hu451, r452⟩ := X0 r450
               obtain ⟨u453, hu453, r454⟩ := X0 r452
               refine .go 6 ?_
               refine .alt ?_ ?_
               ·obtain ⟨e455, c456, he457, hn458, ho459, p460, h461⟩ := NS.get o338 hu443
                obtain ⟨_, _, rfl, rfl, _, _, rfl, rfl, a462, k463, rfl, s464⟩ := h461
                refine .q .d1 (.idxO 0 rfl rfl rfl hu443 sl63 ty80.sz) rfl (.clsL (HpLe.refl _) (X1 [1, 2, 3, 4, 5, 6] rfl) ?_)
                refine .alt ?_ ?_
                ·refine .q .d1 (.fieldO 0 0 rfl hu443 rfl (.inl ⟨rfl, rfl⟩) Xb2 ty48.sz) rfl ?_
                 refine .clsL (HpLe.refl _) (X1 [1, 2, 3, 4, 5, 6] rfl) ?_
                 refine .alt ?_ ?_
                 ·refine .q .d1 (.loadO 0 1 rfl hu443 p460 rfl (.inr rfl) ty48 rfl) rfl ?_
                  refine .clsL (HpLe.refl _) (X1 [1, 2, 3, 4, 5, 6] rfl) ?_
                  refine .callS (b1 := [_]) (b2 := [_, _, _, _, _, _]) (s1 := []) [_, _] [] .d1 rfl rfl Tryz.call10 rfl rfl (X6 mcs s346 hu445) rfl (fun v465 bo so h466 => ?_)
                  obtain ⟨a467, k468, rfl, rfl, rfl, s469⟩ := h466
                  refine .gn 0 ?_
                  refine .clsL (HpLe.refl _) (X1 [1, 2, 3, 4, 5, 6] rfl) ?_
                  refine .callS (b1 := [_]) (b2 := [_, _, _, _, _, _]) (s1 := []) [_, _] [] .d1 rfl rfl Tryz.call10 rfl rfl (X6 mcs s469 hu447) rfl (fun v470 bo so h471 => ?_)
                  obtain ⟨a472, k473, rfl, rfl, rfl, s474⟩ := h471
                  refine .gn 0 ?_
                  refine .clsL (HpLe.refl _) (X1 [1, 2, 3, 4, 5, 6] rfl) ?_
                  obtain ⟨c475, p476, h477⟩ := OL.get ho459 hu449
                  obtain rfl := h477
                  refine .q .d2 (.inN 1 rfl he457 hn458 (.idxO (l := u443.2.1) 0 rfl rfl rfl hu449 sl48 ty3.sz)) rfl (.takeN 1 rfl he457 hn458 ?_)
                  refine .storeR 0 0 (Q := ri) .d2 rfl rfl ho459 hu451 rfl (.inl ⟨rfl, rfl⟩) rfl ty3 p476 ((Rep.intI .i64 u447.1) :) rfl rfl (fun cs478 hlcs478 o479 => ?_)
                  refine .backNs (S := shp80) 0 1 rfl rfl rfl o338 he457 hu443 (Eq.trans hlcs478 hn458.symm) o479 hu453 (fun es480 hles480 o481 hmes480 => ?_)
                  refine .reval 46 hles480 rfl (.reval 266 hles480 rfl (.reval 269 hles480 rfl (.reval 270 hles480 rfl (.go 1 ?_))))
                  exact (hb414 _ ⟨u453, es480, cs325, u447.2.1, a472, k473, u447.2.2, rfl, o481, hles480, s474, r454⟩).ar
                 ·refine .callS (b1 := [_]) (b2 := [_, _, _, _, _, _]) (s1 := []) [_, _] [] .d1 rfl rfl Tryz.call10 rfl rfl (X6 mcs s346 hu445) rfl (fun v482 bo so h483 => ?_)
                  obtain ⟨a484, k485, rfl, rfl, rfl, s486⟩ := h483
                  refine .gn 0 ?_
                  refine .clsL (HpLe.refl _) (X1 [1, 2, 3, 4, 5, 6] rfl) ?_
                  refine .alt ?_ ?_
                  ·refine .q .d1 (.loadO 0 1 rfl hu443 p460 rfl (.inr rfl) ty48 rfl) rfl ?_
                   refine .clsL (HpLe.refl _) (X1 [1, 2, 3, 4, 5, 6] rfl) ?_
                   refine .callS (b1 := [_]) (b2 := [_, _, _, _, _, _]) (s1 := []) [_, _] [] .d1 rfl rfl Tryz.call10 rfl rfl (X6 mcs s486 hu447) rfl (fun v487 bo so h488 => ?_)
                   obtain ⟨a489, k490, rfl, rfl, rfl, s491⟩ := h488
                   refine .gn 0 ?_
                   refine .clsL (HpLe.refl _) (X1 [1, 2, 3, 4, 5, 6] rfl) ?_
                   obtain ⟨c492, p493, h494⟩ := OL.get ho459 hu449
                   obtain rfl := h494
                   refine .q .d2 (.inN 1 rfl he457 hn458 (.idxO (l := u443.2.1) 0 rfl rfl rfl hu449 sl48 ty3.sz)) rfl (.takeN 1 rfl he457 hn458 ?_)
                   refine .storeR 0 0 (Q := ri) .d2 rfl rfl ho459 hu451 rfl (.inl ⟨rfl, rfl⟩) rfl ty3 p493 ((Rep.intI .i64 u447.1) :) rfl rfl (fun cs495 hlcs495 o496 => ?_)
                   refine .backNs (S := shp80) 0 1 rfl rfl rfl o338 he457 hu443 (Eq.trans hlcs495 hn458.symm) o496 hu453 (fun es497 hles497 o498 hmes497 => ?_)
                   refine .reval 46 hles497 rfl (.reval 266 hles497 rfl (.reval 269 hles497 rfl (.reval 270 hles497 rfl (.go 1 ?_))))
                   exact (hb414 _ ⟨u453, es497, cs325, u447.2.1, a489, k490, u447.2.2, rfl, o498, hles497, s491, r454⟩).ar
                  ·refine .callS (b1 := [_]) (b2 := [_, _, _, _, _, _]) (s1 := []) [_, _] [] .d1 rfl rfl Tryz.call10 rfl rfl (X6 mcs s486 hu447) rfl (fun v499 bo so h500 => ?_)
                   obtain ⟨a501, k502, rfl, rfl, rfl, s503⟩ := h500
                   refine .gn 0 ?_
                   refine .clsL (HpLe.refl _) (X1 [1, 2, 3, 4, 5, 6] rfl) (.q .d1 (.loadO 0 1 rfl hu443 p460 rfl (.inr rfl) ty48 rfl) rfl (.clsL (HpLe.refl _) (X1 [1, 2, 3, 4, 5, 6] rfl) ?_))
                   obtain ⟨c504, p505, h506⟩ := OL.get ho459 hu449
                   obtain rfl := h506
                   refine .q .d2 (.inN 1 rfl he457 hn458 (.idxO (l := u443.2.1) 0 rfl rfl rfl hu449 sl48 ty3.sz)) rfl (.takeN 1 rfl he457 hn458 ?_)
                   refine .storeR 0 0 (Q := ri) .d2 rfl rfl ho459 hu451 rfl (.inl ⟨rfl, rfl⟩) rfl ty3 p505 ((Rep.intI .i64 u447.1) :) rfl rfl (fun cs507 hlcs507 o508 => ?_)
                   refine .backNs (S := shp80) 0 1 rfl rfl rfl o338 he457 hu443 (Eq.trans hlcs507 hn458.symm) o508 hu453 (fun es509 hles509 o510 hmes509 => ?_)
                   refine .reval 46 hles509 rfl (.reval 266 hles509 rfl (.reval 269 hles509 rfl (.reval 270 hles509 rfl (.go 1 ?_))))
                   exact (hb414 _ ⟨u453, es509, cs325, u447.2.1, a501, k502, u447.2.2, rfl, o510, hles509, s503, r454⟩).ar
                ·refine .callS (b1 := [_]) (b2 := [_, _, _, _, _, _]) (s1 := []) [_, _] [] .d1 rfl rfl Tryz.call10 rfl rfl (X6 mcs s346 hu445) rfl (fun v511 bo so h512 => ?_)
                 obtain ⟨a513, k514, rfl, rfl, rfl, s515⟩ := h512
                 refine .gn 0 ?_
                 refine .clsL (HpLe.refl _) (X1 [1, 2, 3, 4, 5, 6] rfl) ?_
                 refine .alt ?_ ?_
                 ·refine .q .d1 (.fieldO 0 0 rfl hu443 rfl (.inl ⟨rfl, rfl⟩) Xb2 ty48.sz) rfl ?_
                  refine .clsL (HpLe.refl _) (X1 [1, 2, 3, 4, 5, 6] rfl) ?_
                  refine .alt ?_ ?_
                  ·refine .q .d1 (.loadO 0 1 rfl hu443 p460 rfl (.inr rfl) ty48 rfl) rfl ?_
                   refine .clsL (HpLe.refl _) (X1 [1, 2, 3, 4, 5, 6] rfl) ?_
                   refine .callS (b1 := [_]) (b2 := [_, _, _, _, _, _]) (s1 := []) [_, _] [] .d1 rfl rfl Tryz.call10 rfl rfl (X6 mcs s515 hu447) rfl (fun v516 bo so h517 => ?_)
                   obtain ⟨a518, k519, rfl, rfl, rfl, s520⟩ := h517
                   refine .gn 0 ?_
                   refine .clsL (HpLe.refl _) (X1 [1, 2, 3, 4, 5, 6] rfl) ?_
                   obtain ⟨c521, p522, h523⟩ := OL.get ho459 hu449
                   obtain rfl := h523
                   refine .q .d2 (.inN 1 rfl he457 hn458 (.idxO (l := u443.2.1) 0 rfl rfl rfl hu449 sl48 ty3.sz)) rfl (.takeN 1 rfl he457 hn458 ?_)
                   refine .storeR 0 0 (Q := ri) .d2 rfl rfl ho459 hu451 rfl (.inl ⟨rfl, rfl⟩) rfl ty3 p522 ((Rep.intI .i64 u447.1) :) rfl rfl (fun cs524 hlcs524 o525 => ?_)
                   refine .backNs (S := shp80) 0 1 rfl rfl rfl o338 he457 hu443 (Eq.trans hlcs524 hn458.symm) o525 hu453 (fun es526 hles526 o527 hmes526 => ?_)
                   refine .reval 46 hles526 rfl (.reval 266 hles526 rfl (.reval 269 hles526 rfl (.reval 270 hles526 rfl (.go 1 ?_))))
                   exact (hb414 _ ⟨u453, es526, cs325, u447.2.1, a518, k519, u447.2.2, rfl, o527, hles526, s520, r454⟩).ar
                  ·refine .callS (b1 := [_]) (b2 := [_, _, _, _, _, _]) (s1 := []) [_, _] [] .d1 rfl rfl Tryz.call10 rfl rfl (X6 mcs s515 hu447) rfl (fun v528 bo so h529 => ?_)
                   obtain ⟨a530, k531, rfl, rfl, rfl, s532⟩ := h529
                   refine .gn 0 ?_
                   refine .clsL (HpLe.refl _) (X1 [1, 2, 3, 4, 5, 6] rfl) (.q .d1 (.loadO 0 1 rfl hu443 p460 rfl (.inr rfl) ty48 rfl) rfl (.clsL (HpLe.refl _) (X1 [1, 2, 3, 4, 5, 6] rfl) ?_))
                   obtain ⟨c533, p534, h535⟩ := OL.get ho459 hu449
                   obtain rfl := h535
                   refine .q .d2 (.inN 1 rfl he457 hn458 (.idxO (l := u443.2.1) 0 rfl rfl rfl hu449 sl48 ty3.sz)) rfl (.takeN 1 rfl he457 hn458 ?_)
                   refine .storeR 0 0 (Q := ri) .d2 rfl rfl ho459 hu451 rfl (.inl ⟨rfl, rfl⟩) rfl ty3 p534 ((Rep.intI .i64 u447.1) :) rfl rfl (fun cs536 hlcs536 o537 => ?_)
                   refine .backNs (S := shp80) 0 1 rfl rfl rfl o338 he457 hu443 (Eq.trans hlcs536 hn458.symm) o537 hu453 (fun es538 hles538 o539 hmes538 => ?_)
                   refine .reval 46 hles538 rfl (.reval 266 hles538 rfl (.reval 269 hles538 rfl (.reval 270 hles538 rfl (.go 1 ?_))))
                   exact (hb414 _ ⟨u453, es538, cs325, u447.2.1, a530, k531, u447.2.2, rfl, o539, hles538, s532, r454⟩).ar
                 ·refine .callS (b1 := [_]) (b2 := [_, _, _, _, _, _]) (s1 := []) [_, _] [] .d1 rfl rfl Tryz.call10 rfl rfl (X6 mcs s515 hu447) rfl (fun v540 bo so h541 => ?_)
                  obtain ⟨a542, k543, rfl, rfl, rfl, s544⟩ := h541
                  refine .gn 0 ?_
                  refine .clsL (HpLe.refl _) (X1 [1, 2, 3, 4, 5, 6] rfl) (.q .d1 (.fieldO 0 0 rfl hu443 rfl (.inl ⟨rfl, rfl⟩) Xb2 ty48.sz) rfl (.clsL (HpLe.refl _) (X1 [1, 2, 3, 4, 5, 6] rfl) (.q .d1 (.loadO 0 1 rfl hu443 p460 rfl (.inr rfl) ty48 rfl) rfl (.clsL (HpLe.refl _) (X1 [1, 2, 3, 4, 5, 6] rfl) ?_))))
                  obtain ⟨c545, p546, h547⟩ := OL.get ho459 hu449
                  obtain rfl := h547
                  refine .q .d2 (.inN 1 rfl he457 hn458 (.idxO (l := u443.2.1) 0 rfl rfl rfl hu449 sl48 ty3.sz)) rfl (.takeN 1 rfl he457 hn458 ?_)
                  refine .storeR 0 0 (Q := ri) .d2 rfl rfl ho459 hu451 rfl (.inl ⟨rfl, rfl⟩) rfl ty3 p546 ((Rep.intI .i64 u447.1) :) rfl rfl (fun cs548 hlcs548 o549 => ?_)
                  refine .backNs (S := shp80) 0 1 rfl rfl rfl o338 he457 hu443 (Eq.trans hlcs548 hn458.symm) o549 hu453 (fun es550 hles550 o551 hmes550 => ?_)
                  refine .reval 46 hles550 rfl (.reval 266 hles550 rfl (.reval 269 hles550 rfl (.reval 270 hles550 rfl (.go 1 ?_))))
                  exact (hb414 _ ⟨u453, es550, cs325, u447.2.1, a542, k543, u447.2.2, rfl, o551, hles550, s544, r454⟩).ar
               ·refine .callS (b1 := [_]) (b2 := [_, _, _, _, _, _]) (s1 := []) [_, _] [] .d1 rfl rfl Tryz.call10 rfl rfl (X6 mcs s346 hu445) rfl (fun v552 bo so h553 => ?_)
                obtain ⟨a554, k555, rfl, rfl, rfl, s556⟩ := h553
                refine .gn 0 ?_
                refine .clsL (HpLe.refl _) (X1 [1, 2, 3, 4, 5, 6] rfl) ?_
                refine .alt ?_ ?_
                ·obtain ⟨e557, c558, he559, hn560, ho561, p562, h563⟩ := NS.get o338 hu443
                 obtain ⟨_, _, rfl, rfl, _, _, rfl, rfl, a564, k565, rfl, s566⟩ := h563
                 refine .q .d1 (.idxO 0 rfl rfl rfl hu443 sl63 ty80.sz) rfl (.clsL (HpLe.refl _) (X1 [1, 2, 3, 4, 5, 6] rfl) ?_)
                 refine .alt ?_ ?_
                 ·refine .q .d1 (.fieldO 0 0 rfl hu443 rfl (.inl ⟨rfl, rfl⟩) Xb2 ty48.sz) rfl ?_
                  refine .clsL (HpLe.refl _) (X1 [1, 2, 3, 4, 5, 6] rfl) ?_
                  refine .alt ?_ ?_
                  ·refine .q .d1 (.loadO 0 1 rfl hu443 p562 rfl (.inr rfl) ty48 rfl) rfl ?_
                   refine .clsL (HpLe.refl _) (X1 [1, 2, 3, 4, 5, 6] rfl) ?_
                   refine .callS (b1 := [_]) (b2 := [_, _, _, _, _, _]) (s1 := []) [_, _] [] .d1 rfl rfl Tryz.call10 rfl rfl (X6 mcs s556 hu447) rfl (fun v567 bo so h568 => ?_)
                   obtain ⟨a569, k570, rfl, rfl, rfl, s571⟩ := h568
                   refine .gn 0 ?_
                   refine .clsL (HpLe.refl _) (X1 [1, 2, 3, 4, 5, 6] rfl) ?_
                   obtain ⟨c572, p573, h574⟩ := OL.get ho561 hu449
                   obtain rfl := h574
                   refine .q .d2 (.inN 1 rfl he559 hn560 (.idxO (l := u443.2.1) 0 rfl rfl rfl hu449 sl48 ty3.sz)) rfl (.takeN 1 rfl he559 hn560 ?_)
                   refine .storeR 0 0 (Q := ri) .d2 rfl rfl ho561 hu451 rfl (.inl ⟨rfl, rfl⟩) rfl ty3 p573 ((Rep.intI .i64 u447.1) :) rfl rfl (fun cs575 hlcs575 o576 => ?_)
                   refine .backNs (S := shp80) 0 1 rfl rfl rfl o338 he559 hu443 (Eq.trans hlcs575 hn560.symm) o576 hu453 (fun es577 hles577 o578 hmes577 => ?_)
                   refine .reval 46 hles577 rfl (.reval 266 hles577 rfl (.reval 269 hles577 rfl (.reval 270 hles577 rfl (.go 1 ?_))))
                   exact (hb414 _ ⟨u453, es577, cs325, u447.2.1, a569, k570, u447.2.2, rfl, o578, hles577, s571, r454⟩).ar
                  ·refine .callS (b1 := [_]) (b2 := [_, _, _, _, _, _]) (s1 := []) [_, _] [] .d1 rfl rfl Tryz.call10 rfl rfl (X6 mcs s556 hu447) rfl (fun v579 bo so h580 => ?_)
                   obtain ⟨a581, k582, rfl, rfl, rfl, s583⟩ := h580
                   refine .gn 0 ?_
                   refine .clsL (HpLe.refl _) (X1 [1, 2, 3, 4, 5, 6] rfl) (.q .d1 (.loadO 0 1 rfl hu443 p562 rfl (.inr rfl) ty48 rfl) rfl (.clsL (HpLe.refl _) (X1 [1, 2, 3, 4, 5, 6] rfl) ?_))
                   obtain ⟨c584, p585, h586⟩ := OL.get ho561 hu449
                   obtain rfl := h586
                   refine .q .d2 (.inN 1 rfl he559 hn560 (.idxO (l := u443.2.1) 0 rfl rfl rfl hu449 sl48 ty3.sz)) rfl (.takeN 1 rfl he559 hn560 ?_)
                   refine .storeR 0 0 (Q := ri) .d2 rfl rfl ho561 hu451 rfl (.inl ⟨rfl, rfl⟩) rfl ty3 p585 ((Rep.intI .i64 u447.1) :) rfl rfl (fun cs587 hlcs587 o588 => ?_)
                   refine .backNs (S := shp80) 0 1 rfl rfl rfl o338 he559 hu443 (Eq.trans hlcs587 hn560.symm) o588 hu453 (fun es589 hles589 o590 hmes589 => ?_)
                   refine .reval 46 hles589 rfl (.reval 266 hles589 rfl (.reval 269 hles589 rfl (.reval 270 hles589 rfl (.go 1 ?_))))
                   exact (hb414 _ ⟨u453, es589, cs325, u447.2.1, a581, k582, u447.2.2, rfl, o590, hles589, s583, r454⟩).ar
                 ·refine .callS (b1 := [_]) (b2 := [_, _, _, _, _, _]) (s1 := []) [_, _] [] .d1 rfl rfl Tryz.call10 rfl rfl (X6 mcs s556 hu447) rfl (fun v591 bo so h592 => ?_)
                  obtain ⟨a593, k594, rfl, rfl, rfl, s595⟩ := h592
                  refine .gn 0 ?_
                  refine .clsL (HpLe.refl _) (X1 [1, 2, 3, 4, 5, 6] rfl) (.q .d1 (.fieldO 0 0 rfl hu443 rfl (.inl ⟨rfl, rfl⟩) Xb2 ty48.sz) rfl (.clsL (HpLe.refl _) (X1 [1, 2, 3, 4, 5, 6] rfl) (.q .d1 (.loadO 0 1 rfl hu443 p562 rfl (.inr rfl) ty48 rfl) rfl (.clsL (HpLe.refl _) (X1 [1, 2, 3, 4, 5, 6] rfl) ?_))))
                  obtain ⟨c596, p597, h598⟩ := OL.get ho561 hu449
                  obtain rfl := h598
                  refine .q .d2 (.inN 1 rfl he559 hn560 (.idxO (l := u443.2.1) 0 rfl rfl rfl hu449 sl48 ty3.sz)) rfl (.takeN 1 rfl he559 hn560 ?_)
                  refine .storeR 0 0 (Q := ri) .d2 rfl rfl ho561 hu451 rfl (.inl ⟨rfl, rfl⟩) rfl ty3 p597 ((Rep.intI .i64 u447.1) :) rfl rfl (fun cs599 hlcs599 o600 => ?_)
                  refine .backNs (S := shp80) 0 1 rfl rfl rfl o338 he559 hu443 (Eq.trans hlcs599 hn560.symm) o600 hu453 (fun es601 hles601 o602 hmes601 => ?_)
                  refine .reval 46 hles601 rfl (.reval 266 hles601 rfl (.reval 269 hles601 rfl (.reval 270 hles601 rfl (.go 1 ?_))))
                  exact (hb414 _ ⟨u453, es601, cs325, u447.2.1, a593, k594, u447.2.2, rfl, o602, hles601, s595, r454⟩).ar
                ·refine .callS (b1 := [_]) (b2 := [_, _, _, _, _, _]) (s1 := []) [_, _] [] .d1 rfl rfl Tryz.call10 rfl rfl (X6 mcs s556 hu447) rfl (fun v603 bo so h604 => ?_)
                 obtain ⟨a605, k606, rfl, rfl, rfl, s607⟩ := h604
                 refine .gn 0 ?_
                 refine .clsL (HpLe.refl _) (X1 [1, 2, 3, 4, 5, 6] rfl) ?_
                 obtain ⟨e608, c609, he610, hn611, ho612, p613, h614⟩ := NS.get o338 hu443
                 obtain ⟨_, _, rfl, rfl, _, _, rfl, rfl, a615, k616, rfl, s617⟩ := h614
                 refine .q .d1 (.idxO 0 rfl rfl rfl hu443 sl63 ty80.sz) rfl (.clsL (HpLe.refl _) (X1 [1, 2, 3, 4, 5, 6] rfl) (.q .d1 (.fieldO 0 0 rfl hu443 rfl (.inl ⟨rfl, rfl⟩) Xb2 ty48.sz) rfl (.clsL (HpLe.refl _) (X1 [1, 2, 3, 4, 5, 6] rfl) (.q .d1 (.loadO 0 1 rfl hu443 p613 rfl (.inr rfl) ty48 rfl) rfl (.clsL (HpLe.refl _) (X1 [1, 2, 3, 4, 5, 6] rfl) ?_)))))
                 obtain ⟨c618, p619, h620⟩ := OL.get ho612 hu449
                 obtain rfl := h620
                 refine .q .d2 (.inN 1 rfl he610 hn611 (.idxO (l := u443.2.1) 0 rfl rfl rfl hu449 sl48 ty3.sz)) rfl (.takeN 1 rfl he610 hn611 ?_)
                 refine .storeR 0 0 (Q := ri) .d2 rfl rfl ho612 hu451 rfl (.inl ⟨rfl, rfl⟩) rfl ty3 p619 ((Rep.intI .i64 u447.1) :) rfl rfl (fun cs621 hlcs621 o622 => ?_)
                 refine .backNs (S := shp80) 0 1 rfl rfl rfl o338 he610 hu443 (Eq.trans hlcs621 hn611.symm) o622 hu453 (fun es623 hles623 o624 hmes623 => ?_)
                 refine .reval 46 hles623 rfl (.reval 266 hles623 rfl (.reval 269 hles623 rfl (.reval 270 hles623 rfl (.go 1 ?_))))
                 exact (hb414 _ ⟨u453, es623, cs325, u447.2.1, a605, k606, u447.2.2, rfl, o624, hles623, s607, r454⟩).ar
              ·refine .go 1 ?_
               exact (hb414 _ ⟨v321, es324, cs325, u340.2.1, a344, k345, u340.2.2, rfl, o338, rfl, s346, r442⟩).ar
             ·refine .go 5 ?_
              refine .cH r439 (fun c625 r626 => ?_) (fun c625 r627 => ?_)
              ·refine .go 6 ?_
               refine .cH r626 (fun c628 r629 => ?_) (fun c628 r630 => ?_)
               ·refine .go 2 ?_
                obtain ⟨u631, hu631, r632⟩ := X0 r629
                obtain ⟨e633, c634, he635, hn636, ho637, p638, h639⟩ := NS.get o338 hu631
                obtain ⟨_, _, rfl, rfl, _, _, rfl, rfl, a640, k641, rfl, s642⟩ := h639
                refine .q .ro (.idxO 0 rfl rfl rfl hu631 sl63 ty80.sz) rfl (.q .ro (.fieldO 0 0 rfl hu631 rfl (.inl ⟨rfl, rfl⟩) Xb2 ty48.sz) rfl (.q .ro (.loadO 0 1 rfl hu631 p638 rfl (.inr rfl) ty48 rfl) rfl ?_))
                obtain ⟨u643, hu643, r644⟩ := X0 r632
                obtain ⟨c645, p646, h647⟩ := OL.get ho637 hu643
                obtain rfl := h647
                refine .q .ro (.inN 1 rfl he635 hn636 (.idxO (l := u631.2.1) 0 rfl rfl rfl hu643 sl48 ty3.sz)) rfl (.takeN 1 rfl he635 hn636 ?_)
                obtain ⟨u648, hu648, r649⟩ := X0 r644
                refine .storeR 0 0 (Q := ri) .ro rfl rfl ho637 hu648 rfl (.inl ⟨rfl, rfl⟩) rfl ty3 p646 ((Rep.intI .i64 256) :) rfl rfl (fun cs650 hlcs650 o651 => ?_)
                obtain ⟨u652, hu652, r653⟩ := X0 r649
                refine .backNs (S := shp80) 0 1 rfl rfl rfl o338 he635 hu631 (Eq.trans hlcs650 hn636.symm) o651 hu652 (fun es654 hles654 o655 hmes654 => ?_)
                refine .reval 46 hles654 rfl (.reval 283 hles654 rfl (.reval 286 hles654 rfl (.go 1 ?_)))
                exact (hb414 _ ⟨u652, es654, cs325, u340.2.1, a344, k345, u340.2.2, rfl, o655, hles654, s346, r653⟩).ar
               ·refine .go 1 ?_
                exact (hb414 _ ⟨v321, es324, cs325, u340.2.1, a344, k345, u340.2.2, rfl, o338, rfl, s346, r630⟩).ar
              ·refine .go 1 ?_
               exact (hb414 _ ⟨v321, es324, cs325, u340.2.1, a344, k345, u340.2.2, rfl, o338, rfl, s346, r627⟩).ar
          ·intro hb656
           refine .block (.packE 3 1 (.own_nil 80 3 (.pullS 1 rfl [_, _, _, _, _] rfl (.pullS 1 rfl [_, _, _, _, _] rfl ?_))))
           refine .lp (fun y m => ∃ (Z0 : Nat) (Z1 : List Int) (Z2 : List (Int × (List Int) × (List Int))) (Z3 : _) (Z4 : Nat) (Z5 Z6 : _), y = ⟨[(46, .slice Z3 Z2.length Z4), (238, .int .i64 (Z0 : Int))], [], [], [.s (.slice Z3 Z2.length Z4) 80 3 Z2.length Z6, .g (packG 3 1 Z5)]⟩ ∧ Z1.length = m ∧ NS shp80 ri shE80 G286 Z5 Z6 Z2 ∧ List.drop Z0 u313.1 = Z1 ∧ X1w (Xz (X4 (X5 x3 x5 x7_1) x3 x6 u91.1.2.2.2 u38.1.1.2 xs308) x3 x6 x307 v294) v287 v288 v289 u91.1.2.2.2 v290 v291 v292 v293 v297 v298 v299 v300 v301 Z1 Z2 = some r) [(225, _), (3, _), (5, _), (6, _), (15, _), (17, _), (18, _), (40, _), (223, _), (224, _), (43, _), (236, _), (237, _)] [_, _, _, _, _, _, _] [_, _, _] ⟨0, u313.1, ([] : List (Int × (List Int) × (List Int))), none, 0, [], [], rfl, rfl, (NS.nil (S := shp80) (Q := ri) (E := shE80)), rfl, r314⟩ (fun y m hI hb657 => ?_)
           obtain ⟨i658, w659, v660, a661, k662, es663, cs664, rfl, rfl, o665, g666, r667⟩ := hI
           refine .gn 0 ?_
           cases w659 with
           | nil =>
            rw [X1w] at r667; try dsimp only at r667
            refine .go 5 ?_
            refine .cond_dec rfl (fun c => absurd c (X8 g666)) (fun _ => ?_)
            refine .exit rfl ?_
            exact (hb656 _ ⟨v660, a661, k662, es663, cs664, v287, v288, v289, v290, v291, v292, v293, v297, v298, v299, v300, v301, rfl, o665, r667⟩).ar
           | cons x668 xs669 =>
            have r670 : X3c (Xz (X4 (X5 x3 x5 x7_1) x3 x6 u91.1.2.2.2 u38.1.1.2 xs308) x3 x6 x307 v294) v287 v288 v289 u91.1.2.2.2 v290 v291 v292 v293 v297 v298 v299 v300 v301 (X1w (Xz (X4 (X5 x3 x5 x7_1) x3 x6 u91.1.2.2.2 u38.1.1.2 xs308) x3 x6 x307 v294) v287 v288 v289 u91.1.2.2.2 v290 v291 v292 v293 v297 v298 v299 v300 v301 xs669) x668 v660 = some r := r667; clear r667; unfold X3c at r670; try dsimp only at r670
            refine .go 5 ?_
            refine .cond_dec rfl (fun _ => ?_) (fun c => absurd (Xf g666) c)
            refine .go 2 ?_
            refine .block (.go 2 ?_)
            obtain ⟨c671, p672, h673⟩ := OL.get o320 (X2 g666)
            obtain rfl := h673
            refine .q .ro (.idxO 2 rfl rfl rfl (X2 g666) sl48 ty3.sz) rfl (.q .ro (.loadO 2 0 rfl (X2 g666) p672 rfl (.inl ⟨rfl, rfl⟩) ty3 rfl) rfl (.go 4 ?_))
            refine .lit [] [] .ro sl48 ty3 rfl rfl rfl rfl rfl rfl (fun b674 hb674 => ?_)
            have o675 : OL ri G286 [] ([] : List Int) := ((OL.nil (Rp' := ri)) :)
            refine .reval 243 (n' := ([] : List Int).length) rfl rfl (.go 3 ?_)
            obtain ⟨u676, hu676, r677⟩ := X0 r670
            obtain ⟨c678, p679, h680⟩ := SlR.get (SlR.mono e302 s100) hu676
            obtain ⟨a681, k682, rfl, s683⟩ := h680
            refine .q .ro (.idxR (SlR.mono e302 s100) rfl rfl hu676 sl37 ty48.sz) rfl (.q .ro (.load_rp p679 mcs rfl ty48 rfl) rfl ?_)
            obtain ⟨u684, hu684, r685⟩ := X0 r677
            refine .appR (Q := ri) 0 .ro sl48 ty3 rfl rfl rfl rfl rfl o675 rfl rfl s683 rfl mcs hu684 rfl (fun a686 k687 cs688 o689 => ?_)
            refine .q .ro (.build [_, _, _] [(1, _)] ty80 pl80 rfl rfl) rfl ?_
            refine .lit [_, _, _] [(0, _)] .ro sl63 ty80 rfl rfl rfl rfl rfl rfl (fun b690 hb690 => ?_)
            have o691 : NS shp80 ri shE80 G286 [⟨a686, u684.length, k687, cs688⟩] [.int .i64 0, .slice a686 u684.length k687, .slice none 0 0] ([(0, u684, ([] : List Int))] : List (Int × (List Int) × (List Int))) := (NS.one (S := shp80) (E := shE80) (s := (0, u684, ([] : List Int))) (l := u684) (Rep.pairI (Rep.intI .i64 0) (Rep.pairI (show Rep.hdr.r G286 [.slice a686 u684.length k687] (a686, u684.length, k687) from rfl) (Rep.slI (SlR.nil (Rp' := ri))))) rfl o689 :)
            refine .pullS 1 rfl [_, _, _, _, _, _, _] rfl (.pack1 rfl (.reval 251 (n' := ([(0, u684, ([] : List Int))] : List (Int × (List Int) × (List Int))).length) rfl rfl ?_))
            obtain ⟨u692, hu692, r693⟩ := X0 r685
            refine .pullS 1 rfl [_, _, _, _, _, _, _] rfl ?_
            refine .appNs (S := shp80) 0 1 .ro sl63 ty80 rfl rfl rfl rfl rfl rfl rfl rfl o665 o691 rfl rfl hu692 rfl B303 (fun a694 k695 cs696 o697 => ?_)
            refine .go 7 ?_
            exact (hb657 _ _ ⟨(i658 + 1), xs669, u692, a694, k695, (es663 ++ [⟨a686, u684.length, k687, cs688⟩]), cs696, rfl, rfl, o697, (X3 g666), r693⟩ (Nat.lt_succ_self _)).ax ⟨rfl, (congrArg (fun z => some (Value.int .i64 z)) (X7 (OL.len' o320) g666)), rfl, rfl, rfl, rfl, rfl, rfl, rfl, rfl, rfl, rfl, rfl, rfl, rfl, trivial⟩
       ·intro hb698
        refine .block (.pull 5 rfl [_, _, _, _, _, _] rfl (.pull 5 rfl [_, _, _, _, _, _] rfl (.pull 5 rfl [_, _, _, _, _, _] rfl (.pull 5 rfl [_, _, _, _, _, _] rfl (.pull 5 rfl [_, _, _, _, _, _] rfl (.pull 5 rfl [_, _, _, _, _, _] rfl ?_))))))
        refine .lp (fun y m => ∃ (Z0 : Nat) (Z1 : List ((Int × (List (Int × Int))) × Int × (List (List (ByteArray × Int))))) (Z2 Z3 Z4 Z5 Z6 Z7 Z8 Z9 Z10 Z11 : _), y = ⟨[(123, .int .i64 (Z0 : Int))], [Z2], [(b73, .cells #[.int .i64 Z3, .slice a67 u59.1.1.2.length k68, .int .i64 Z4, .slice a70 u59.1.2.2.length k71] 31 (0, 0)), (b58, .cells #[.int .i64 Z5, .slice a46 u38.1.1.2.length k47, .int .i64 Z6, .slice a49 u38.1.2.2.length k50] 31 (0, 0)), (b34, .cells #[.slice a55 u38.2.2.1.length k56, .int .i64 Z7] 91 (0, 0)), (b3, .cells #[.int .i64 Z8, .slice a7_1 x7_1.length k7_1] 72 (0, 0)), (b2, .cells #[.int .i64 Z9] 36 (0, 0)), (b1, .cells #[.int .i64 Z10, .slice a1_1 x1_1.length k1_1, .int .i64 Z11, .slice a1_3 x1_3.length k1_3] 31 (0, 0))], []⟩ ∧ Z1.length = m ∧ HpLe G63 Z2 ∧ Bd w0 S0 Fs Z2 ∧ List.drop Z0 ([u38.1, ((x1_0, x1_1), x1_2, x1_3), u59.1] : List ((Int × (List (Int × Int))) × Int × (List (List (ByteArray × Int))))) = Z1 ∧ Xa (X9 x3 x5 x6 u38.1.1.2 u38.1.2.2 u38.2.2.1 x7_1) x2 x5 Z1 Z3 Z4 Z5 Z6 Z7 Z8 Z9 Z10 Z11 = some r) [(2, _), (3, _), (5, _), (6, _), (12, _), (15, _), (17, _), (18, _), (121, _), (122, _)] [] [_] ⟨0, ([u38.1, ((x1_0, x1_1), x1_2, x1_3), u59.1] : List ((Int × (List (Int × Int))) × Int × (List (List (ByteArray × Int))))), G63, u59.1.1.1, u59.1.2.1, u38.1.1.1, u38.1.2.1, u38.2.2.2, x7_0, x4_0, x1_0, x1_2, rfl, rfl, (HpLe.refl _), B65, rfl, r60⟩ (fun y m hI hb699 => ?_)
        obtain ⟨i700, w701, G702, v703, v704, v705, v706, v707, v708, v709, v710, v711, rfl, rfl, e712, B713, g714, r715⟩ := hI
        refine .gn 0 ?_
        cases w701 with
        | nil =>
         rw [Xa] at r715; try dsimp only at r715
         refine .go 5 ?_
         refine .cond_dec rfl (fun c => absurd c (X8 g714)) (fun _ => ?_)
         refine .exit rfl ?_
         exact (hb698 _ ⟨G702, v703, v704, v705, v706, v707, v708, v709, v710, v711, rfl, e712, B713, r715⟩).ar
        | cons x716 xs717 =>
         have r718 : X33 (X9 x3 x5 x6 u38.1.1.2 u38.1.2.2 u38.2.2.1 x7_1) x2 x5 (Xa (X9 x3 x5 x6 u38.1.1.2 u38.1.2.2 u38.2.2.1 x7_1) x2 x5 xs717) x716 v703 v704 v705 v706 v707 v708 v709 v710 v711 = some r := r715; clear r715; unfold X33 at r718; try dsimp only at r718
         refine .go 5 ?_
         refine .cond_dec rfl (fun _ => ?_) (fun c => absurd (Xf g714) c)
         refine .go 2 ?_
         refine .block (.go 2 ?_)
         obtain ⟨c719, p720, h721⟩ := OL.get (OL.mono e712 o75) (X2 g714)
         obtain ⟨_, _, rfl, ⟨_, _, rfl, rfl, a722, k723, rfl, s724⟩, _, _, rfl, rfl, a725, k726, rfl, s727⟩ := h721
         refine .q .ro (.idxO 0 rfl rfl rfl (X2 g714) sl75 ty31.sz) rfl (.q .ro (.loadO_a 0 0 [_, _, _, _] rfl (X2 g714) p720 rfl (.inl ⟨rfl, rfl⟩) ty31 rfl) rfl ?_)
         refine .alloc .ro ty31 rfl (fun b728 hb728 => ?_)
         refine .store 0 [_, _, _, _] [_, _, _, _, _, _, _] .ro rfl rfl rfl ty31 rfl rfl rfl rfl (.go 4 ?_)
         refine .q .ro (.load_own_a 5 [_] rfl rfl ty36 rfl) rfl (.q .ro (.build [_] [(0, _)] ty36 pl36 rfl rfl) rfl (.q .ro (.build [_] [(0, _)] ty36 pl36 rfl rfl) rfl (.q .ro (.build [_] [(0, _)] ty36 pl36 rfl rfl) rfl ?_)))
         refine .lit [_, _, _, _] [(0, _), (1, _), (2, _), (3, _)] .ro sl76 ty36 rfl rfl rfl rfl rfl rfl (fun b729 hb729 => ?_)
         have o730 : OL ri G702 [.int .i64 v709, .int .i64 257, .int .i64 251, .int .i64 65521] ([v709, 257, 251, 65521] : List Int) := ((OL.cons rfl (Rep.intI .i64 v709) (OL.cons rfl (Rep.intI .i64 257) (OL.cons rfl (Rep.intI .i64 251) (OL.cons rfl (Rep.intI .i64 65521) (OL.nil (Rp' := ri)))))) :)
         refine .reval 131 (n' := ([v709, 257, 251, 65521] : List Int).length) rfl rfl (.go 3 ?_)
         refine .kB (fun y => ∃ (Z0 Z1 Z2 Z3 Z4 Z5 Z6 Z7 Z8 Z9 Z10 Z11 : _), y = ⟨[], Z0 :: Fs, [(b728, .cells #[.int .i64 Z1, .slice a722 x716.1.2.length k723, .int .i64 Z2, .slice a725 x716.2.2.length k726] 31 (0, 0)), (b73, .cells #[.int .i64 Z3, .slice a67 u59.1.1.2.length k68, .int .i64 Z4, .slice a70 u59.1.2.2.length k71] 31 (0, 0)), (b58, .cells #[.int .i64 Z5, .slice a46 u38.1.1.2.length k47, .int .i64 Z6, .slice a49 u38.1.2.2.length k50] 31 (0, 0)), (b34, .cells #[.slice a55 u38.2.2.1.length k56, .int .i64 Z7] 91 (0, 0)), (b3, .cells #[.int .i64 Z8, .slice a7_1 x7_1.length k7_1] 72 (0, 0)), (b2, .cells #[.int .i64 Z9] 36 (0, 0)), (b1, .cells #[.int .i64 Z10, .slice a1_1 x1_1.length k1_1, .int .i64 Z11, .slice a1_3 x1_3.length k1_3] 31 (0, 0))], []⟩ ∧ HpLe G702 Z0 ∧ Bd w0 S0 Fs Z0 ∧ (X1l (Xa (X9 x3 x5 x6 u38.1.1.2 u38.1.2.2 u38.2.2.1 x7_1) x2 x5 xs717) x5 x716.1.2) Z1 Z2 Z3 Z4 Z5 Z6 Z7 Z8 Z9 Z10 Z11 = some r) [(123, _), (2, _), (3, _), (5, _), (6, _), (12, _), (15, _), (17, _), (18, _), (121, _), (122, _), (23, _)] [] [] [_, _] [0, 1] ?_ ?_
         ·rintro _ ⟨G731, v732, v733, v734, v735, v736, v737, v738, v739, v740, v741, v742, rfl, e743, B744, r745⟩
          refine .gn 0 ?_
          unfold X1l at r745
          try dsimp only at r745
          refine .go 3 ?_
          refine .lit [_, _, _, _] [(0, _), (1, _), (2, _), (3, _)] .ro sl46 ty9 rfl rfl rfl rfl rfl rfl (fun b746 hb746 => ?_)
          have o747 : OL Rep.str G731 [.string x5, .string ⟨#[97, 110, 116]⟩, .string ⟨#[122, 101, 98, 114, 97]⟩, .string ByteArray.empty] ([x5, ⟨#[97, 110, 116]⟩, ⟨#[122, 101, 98, 114, 97]⟩, ByteArray.empty] : List ByteArray) := ((OL.cons rfl (Rep.strI x5) (OL.cons rfl (Rep.strI ⟨#[97, 110, 116]⟩) (OL.cons rfl (Rep.strI ⟨#[122, 101, 98, 114, 97]⟩) (OL.cons rfl (Rep.strI ByteArray.empty) (OL.nil (Rp' := Rep.str)))))) :)
          refine .reval 185 (n' := ([x5, ⟨#[97, 110, 116]⟩, ⟨#[122, 101, 98, 114, 97]⟩, ByteArray.empty] : List ByteArray).length) rfl rfl (.go 3 ?_)
          refine .block ?_
          refine .lp (fun y m => ∃ (Z0 : Nat) (Z1 : List ByteArray) (Z2 : _), y = ⟨[(187, .int .i64 (Z0 : Int))], [Z2], [], []⟩ ∧ Z1.length = m ∧ HpLe G731 Z2 ∧ Bd w0 S0 Fs Z2 ∧ List.drop Z0 ([x5, ⟨#[97, 110, 116]⟩, ⟨#[122, 101, 98, 114, 97]⟩, ByteArray.empty] : List ByteArray) = Z1 ∧ X1k (Xa (X9 x3 x5 x6 u38.1.1.2 u38.1.2.2 u38.2.2.1 x7_1) x2 x5 xs717) v732 x716.1.2 v734 v735 v736 v737 v738 v739 v740 v741 v742 Z1  = some r) [(123, _), (2, _), (3, _), (5, _), (6, _), (12, _), (15, _), (17, _), (18, _), (121, _), (122, _), (23, _), (185, _), (186, _)] [_, _, _, _, _, _, _] [_, _, _] ⟨0, ([x5, ⟨#[97, 110, 116]⟩, ⟨#[122, 101, 98, 114, 97]⟩, ByteArray.empty] : List ByteArray), G731, rfl, rfl, (HpLe.refl _), B744, rfl, r745⟩ (fun y m hI hb748 => ?_)
          obtain ⟨i749, w750, G751, rfl, rfl, e752, B753, g754, r755⟩ := hI
          refine .gn 0 ?_
          cases w750 with
          | nil =>
           rw [X1k] at r755; try dsimp only at r755
           refine .go 5 ?_
           refine .cond_dec rfl (fun c => absurd c (X8 g754)) (fun _ => ?_)
           refine .exit rfl (.go 5 ?_)
           refine .drop 1 0 [_, _, _, _, _, _] _ rfl rfl (.drop 0 2 _ [_] rfl rfl ?_)
           exact (hb699 _ _ ⟨(i700 + 1), xs717, G751, v734, v735, v736, v737, v738, v739, v740, v741, v742, rfl, rfl, (HpLe.trans (HpLe.trans e712 e743) e752), B753, (X3 g714), r755⟩ (Nat.lt_succ_self _)).ax ⟨(congrArg (fun z => some (Value.int .i64 z)) (X7 (OL.len' o75) g714)), rfl, rfl, rfl, rfl, rfl, rfl, rfl, rfl, rfl, rfl, trivial⟩
          | cons x756 xs757 =>
           have r758 : X31 (Xa (X9 x3 x5 x6 u38.1.1.2 u38.1.2.2 u38.2.2.1 x7_1) x2 x5 xs717) v732 x716.1.2 v734 v735 v736 v737 v738 v739 v740 v741 v742 (X1k (Xa (X9 x3 x5 x6 u38.1.1.2 u38.1.2.2 u38.2.2.1 x7_1) x2 x5 xs717) v732 x716.1.2 v734 v735 v736 v737 v738 v739 v740 v741 v742 xs757) x756  = some r := r755; clear r755; unfold X31 at r758; try dsimp only at r758
           refine .go 5 ?_
           refine .cond_dec rfl (fun _ => ?_) (fun c => absurd (Xf g754) c)
           refine .go 2 ?_
           refine .block (.go 2 ?_)
           obtain ⟨c759, p760, h761⟩ := OL.get (OL.mono e752 o747) (X2 g754)
           obtain rfl := h761
           refine .q .ro (.idxO 0 rfl rfl rfl (X2 g754) sl46 ty9.sz) rfl (.q .ro (.loadO 0 0 rfl (X2 g754) p760 rfl (.inl ⟨rfl, rfl⟩) ty9 rfl) rfl (.go 5 ?_))
           refine .q .ro (.load_own_a 0 [_, _] rfl rfl ty28 rfl) rfl (.go 1 ?_)
           obtain ⟨u762, hu762, r763⟩ := X0 r758
           refine .cS [_, _] Tryz.call11 (Xcd mcs (SlR.mono (HpLe.trans e743 e752) s724) hu762) (fun v764 bo so h765 => ?_)
           obtain ⟨a766, k767, cs768, rfl, rfl, rfl, o769⟩ := h765
           refine .gn 9 ?_
           refine .q .ro (.load_own_a 0 [_, _] rfl rfl ty28 rfl) rfl (.go 1 ?_)
           obtain ⟨u770, hu770, r771⟩ := X0 r763
           refine .cS [_, _] Tryz.call22 (Xct mcs (SlR.mono (HpLe.trans e743 e752) s724) hu770) (fun v772 bo so h773 => ?_)
           obtain ⟨a774, k775, cs776, rfl, rfl, rfl, o777⟩ := h773
           refine .gn 12 ?_
           refine .freezeR 0 rfl rfl o777 [_, _, _, _] rfl B753 (fun G778 e779 B780 s781 => ?_)
           refine .freezeR 0 rfl rfl (OL.mono e779 o769) [_, _, _] rfl B780 (fun G782 e783 B784 s785 => ?_)
           obtain ⟨u786, h787, r788⟩ := X0 r771
           refine .kR (fun y => y = ⟨[(213, .bool u786)], G782 :: Fs, [], []⟩) [(187, _), (123, _), (2, _), (3, _), (5, _), (6, _), (12, _), (15, _), (17, _), (18, _), (121, _), (122, _), (23, _), (185, _), (186, _)] [_, _, _, _, _, _, _] [0, 1, 2, 3, 4, 5, 6] [_, _, _] [0, 1, 2] 5 ?_ ?_
           ·rintro _ rfl
            refine .gn 1 ?_
            refine .cB r788 (fun c789 r790 => ?_) (fun c789 r791 => ?_)
            ·refine .go 4 ?_
             cases r790
             refine .drop 7 0 [] _ rfl rfl (.drop 0 3 _ [] rfl rfl ?_)
             refine .rS [.tmp 16] [_] Tryz.func4 Tryz.results4 ⟨rfl, rfl, rfl⟩
            ·refine .go 6 ?_
             exact (hb748 _ _ ⟨(i749 + 1), xs757, G782, rfl, rfl, (HpLe.trans (HpLe.trans e752 e779) e783), B784, (X3 g754), r791⟩ (Nat.lt_succ_self _)).ax ⟨(congrArg (fun z => some (Value.int .i64 z)) (X7 (OL.len' o747) g754)), rfl, rfl, rfl, rfl, rfl, rfl, rfl, rfl, rfl, rfl, rfl, rfl, rfl, rfl, trivial⟩
           ·intro hb792
            refine .split 208 rfl (fun c793 => ?_) (fun c793 => ?_)
            ·have r794 := ifT h787 c793
             refine .go 5 ?_
             exact (hb792 _ rfl).ax ⟨sval r794, rfl, rfl, rfl, rfl, rfl, rfl, rfl, rfl, rfl, rfl, rfl, rfl, rfl, rfl, rfl, trivial⟩
            ·have r795 := ifF h787 c793
             refine .go 5 ?_
             obtain ⟨u796, hu796, r797⟩ := X0 r795
             refine .cV [_, _] Tryz.call23 (Xbh mcs s785 (SlR.mono e783 s781) hu796) ?_
             refine .go 3 ?_
             exact (hb792 _ rfl).ax ⟨sval r797, rfl, rfl, rfl, rfl, rfl, rfl, rfl, rfl, rfl, rfl, rfl, rfl, rfl, rfl, rfl, trivial⟩
         ·intro hb798
          refine .block ?_
          refine .lp (fun y m => ∃ (Z0 : Nat) (Z1 : List Int) (Z2 : _), y = ⟨[(133, .int .i64 (Z0 : Int))], [Z2], [], []⟩ ∧ Z1.length = m ∧ HpLe G702 Z2 ∧ Bd w0 S0 Fs Z2 ∧ List.drop Z0 ([v709, 257, 251, 65521] : List Int) = Z1 ∧ X1m (X1l (Xa (X9 x3 x5 x6 u38.1.1.2 u38.1.2.2 u38.2.2.1 x7_1) x2 x5 xs717) x5 x716.1.2) x2 x716.1.1 x716.1.2 x716.2.1 x716.2.2 v703 v704 v705 v706 v707 v708 v709 v710 v711 Z1  = some r) [(123, _), (2, _), (3, _), (5, _), (6, _), (12, _), (15, _), (17, _), (18, _), (121, _), (122, _), (23, _), (131, _), (132, _)] [_, _, _, _, _, _, _] [_, _] ⟨0, ([v709, 257, 251, 65521] : List Int), G702, rfl, rfl, (HpLe.refl _), B713, rfl, r718⟩ (fun y m hI hb799 => ?_)
          obtain ⟨i800, w801, G802, rfl, rfl, e803, B804, g805, r806⟩ := hI
          refine .gn 0 ?_
          cases w801 with
          | nil =>
           rw [X1m] at r806; try dsimp only at r806
           refine .go 5 ?_
           refine .cond_dec rfl (fun c => absurd c (X8 g805)) (fun _ => ?_)
           refine .exit rfl ?_
           exact (hb798 _ ⟨G802, x716.1.1, x716.2.1, v703, v704, v705, v706, v707, v708, v709, v710, v711, rfl, e803, B804, r806⟩).ar
          | cons x807 xs808 =>
           have r809 : X32 (X1l (Xa (X9 x3 x5 x6 u38.1.1.2 u38.1.2.2 u38.2.2.1 x7_1) x2 x5 xs717) x5 x716.1.2) x2 x716.1.1 x716.1.2 x716.2.1 x716.2.2 v703 v704 v705 v706 v707 v708 v709 v710 v711 (X1m (X1l (Xa (X9 x3 x5 x6 u38.1.1.2 u38.1.2.2 u38.2.2.1 x7_1) x2 x5 xs717) x5 x716.1.2) x2 x716.1.1 x716.1.2 x716.2.1 x716.2.2 v703 v704 v705 v706 v707 v708 v709 v710 v711 xs808) x807  = some r := r806; clear r806; unfold X32 at r809; try dsimp only at r809
           refine .go 5 ?_
           refine .cond_dec rfl (fun _ => ?_) (fun c => absurd (Xf g805) c)
           refine .go 2 ?_
           refine .block (.go 2 ?_)
           obtain ⟨c810, p811, h812⟩ := OL.get (OL.mono e803 o730) (X2 g805)
           obtain rfl := h812
           refine .q .ro (.idxO 0 rfl rfl rfl (X2 g805) sl76 ty36.sz) rfl (.q .ro (.loadO_a 0 0 [_] rfl (X2 g805) p811 rfl (.inl ⟨rfl, rfl⟩) ty36 rfl) rfl ?_)
           refine .alloc .ro ty36 rfl (fun b813 hb813 => ?_)
           refine .store 0 [_] [_, _, _, _, _, _, _, _] .ro rfl rfl rfl ty36 rfl rfl rfl rfl (.go 4 ?_)
           refine .q .ro (.load_own_a 0 [_] rfl rfl ty36 rfl) rfl (.q .ro (.load_own_a 1 [_, _, _, _] rfl rfl ty31 rfl) rfl ?_)
           obtain ⟨u814, hu814, r815⟩ := X0 r809
           refine .cW [_, _, _] Tryz.call8 (Xa8 mcs (SlR.mono e803 s724) (SlR.mono e803 s727) hu814) B804 (fun v816 bo so G817 e818 B819 h820 => ?_)
           obtain ⟨a821, k822, rfl, rfl, rfl, s823⟩ := h820
           refine .gn 3 ?_
           refine .alloc .ro ty39 rfl (fun b824 hb824 => ?_)
           refine .store 0 [_, _, _, _] [_, _, _, _, _, _, _, _, _] .ro rfl rfl rfl ty39 rfl rfl rfl rfl (.go 5 ?_)
           refine .q .ro (.load_own_a 1 [_] rfl rfl ty36 rfl) rfl (.q .ro (.load_own_a 2 [_, _, _, _] rfl rfl ty31 rfl) rfl ?_)
           obtain ⟨u825, hu825, r826⟩ := X0 r815
           refine .cW [_, _, _] Tryz.call20 (Xaz mcs (SlR.mono (HpLe.trans e803 e818) s724) (SlR.mono (HpLe.trans e803 e818) s727) hu825) B819 (fun v827 bo so G828 e829 B830 h831 => ?_)
           obtain ⟨a832, k833, rfl, rfl, rfl, s834⟩ := h831
           refine .gn 3 ?_
           refine .alloc .ro ty39 rfl (fun b835 hb835 => ?_)
           refine .store 0 [_, _, _, _] [_, _, _, _, _, _, _, _, _, _] .ro rfl rfl rfl ty39 rfl rfl rfl rfl (.go 4 ?_)
           refine .q .ro (.load_own_a 2 [_] rfl rfl ty36 rfl) rfl (.q .ro (.load_own_a 3 [_, _, _, _] rfl rfl ty31 rfl) rfl ?_)
           obtain ⟨u836, hu836, r837⟩ := X0 r826
           refine .cW [_, _, _] Tryz.call8 (Xa8 mcs (SlR.mono (HpLe.trans (HpLe.trans e803 e818) e829) s724) (SlR.mono (HpLe.trans (HpLe.trans e803 e818) e829) s727) hu836) B830 (fun v838 bo so G839 e840 B841 h842 => ?_)
           obtain ⟨a843, k844, rfl, rfl, rfl, s845⟩ := h842
           refine .gn 3 ?_
           refine .alloc .ro ty39 rfl (fun b846 hb846 => ?_)
           refine .store 0 [_, _, _, _] [_, _, _, _, _, _, _, _, _, _, _] .ro rfl rfl rfl ty39 rfl rfl rfl rfl (.go 4 ?_)
           refine .q .ro (.load_own_a 3 [_] rfl rfl ty36 rfl) rfl (.q .ro (.load_own_a 4 [_, _, _, _] rfl rfl ty31 rfl) rfl ?_)
           obtain ⟨u847, hu847, r848⟩ := X0 r837
           refine .cW [_, _, _] Tryz.call20 (Xaz mcs (SlR.mono (HpLe.trans (HpLe.trans (HpLe.trans e803 e818) e829) e840) s724) (SlR.mono (HpLe.trans (HpLe.trans (HpLe.trans e803 e818) e829) e840) s727) hu847) B841 (fun v849 bo so G850 e851 B852 h853 => ?_)
           obtain ⟨a854, k855, rfl, rfl, rfl, s856⟩ := h853
           refine .gn 3 ?_
           refine .alloc .ro ty39 rfl (fun b857 hb857 => ?_)
           refine .store 0 [_, _, _, _] [_, _, _, _, _, _, _, _, _, _, _, _] .ro rfl rfl rfl ty39 rfl rfl rfl rfl (.go 8 ?_)
           refine .kR (fun y => y = ⟨[(170, .bool (decide ((u814.2 ≠ u825.2) ∨ (u836.2 ≠ u847.2))))], G850 :: Fs, [], []⟩) [(133, _), (123, _), (2, _), (3, _), (5, _), (6, _), (12, _), (15, _), (17, _), (18, _), (121, _), (122, _), (23, _), (131, _), (132, _), (26, _), (28, _), (30, _), (32, _)] [_, _, _, _, _, _, _, _, _, _, _, _] [0, 1, 2, 3, 4, 5, 6, 7, 8, 9, 10, 11] [_, _] [0, 1] 4 ?_ ?_
           ·rintro _ rfl
            refine .gn 1 ?_
            obtain ⟨u858, h859, r860⟩ := X0 r848
            refine .kR (fun y => y = ⟨[(176, .bool u858)], G850 :: Fs, [], []⟩) [(133, _), (123, _), (2, _), (3, _), (5, _), (6, _), (12, _), (15, _), (17, _), (18, _), (121, _), (122, _), (23, _), (131, _), (132, _), (30, _), (32, _)] [_, _, _, _, _, _, _, _, _, _, _, _] [0, 1, 2, 3, 4, 5, 6, 7, 8, 9, 10, 11] [_, _] [0, 1] 5 ?_ ?_
            ·rintro _ rfl
             refine .gn 1 ?_
             obtain ⟨u861, h862, r863⟩ := X0 r860
             refine .kR (fun y => y = ⟨[(182, .bool u861)], G850 :: Fs, [], []⟩) [(133, _), (123, _), (2, _), (3, _), (5, _), (6, _), (12, _), (15, _), (17, _), (18, _), (121, _), (122, _), (23, _), (131, _), (132, _)] [_, _, _, _, _, _, _, _, _, _, _, _] [0, 1, 2, 3, 4, 5, 6, 7, 8, 9, 10, 11] [_, _] [0, 1] 5 ?_ ?_
             ·rintro _ rfl
              refine .gn 1 ?_
              refine .cB r863 (fun c864 r865 => ?_) (fun c864 r866 => ?_)
              ·refine .go 4 ?_
               cases r865
               refine .drop 12 0 [] _ rfl rfl (.drop 0 2 _ [] rfl rfl ?_)
               refine .rS [.tmp 16] [_] Tryz.func4 Tryz.results4 ⟨rfl, rfl, rfl⟩
              ·refine .go 6 ?_
               refine .drop 5 0 [_, _, _, _, _, _, _] _ rfl rfl ?_
               exact (hb799 _ _ ⟨(i800 + 1), xs808, G850, rfl, rfl, (HpLe.trans (HpLe.trans (HpLe.trans (HpLe.trans e803 e818) e829) e840) e851), B852, (X3 g805), r866⟩ (Nat.lt_succ_self _)).ax ⟨(congrArg (fun z => some (Value.int .i64 z)) (X7 (OL.len' o730) g805)), rfl, rfl, rfl, rfl, rfl, rfl, rfl, rfl, rfl, rfl, rfl, rfl, rfl, rfl, trivial⟩
             ·intro hb867
              refine .split_b 177 rfl (fun c868 => ?_) (fun c868 => ?_)
              ·have r869 := ifT h862 c868
               refine .go 5 ?_
               exact (hb867 _ rfl).ax ⟨sval r869, rfl, rfl, rfl, rfl, rfl, rfl, rfl, rfl, rfl, rfl, rfl, rfl, rfl, rfl, rfl, trivial⟩
              ·have r870 := ifBF h862 c868
               refine .go 1 ?_
               refine .q .ro (.load_own_a 1 [_, _, _, _] rfl rfl ty39 rfl) rfl (.go 1 ?_)
               refine .q .ro (.load_own_a 0 [_, _, _, _] rfl rfl ty39 rfl) rfl (.go 1 ?_)
               obtain ⟨u871, hu871, r872⟩ := X0 r870
               refine .cV [_, _] Tryz.call21 (Xcs mcs (SlR.mono e851 s845) s856 hu871) ?_
               refine .go 3 ?_
               exact (hb867 _ rfl).ax ⟨sval r872, rfl, rfl, rfl, rfl, rfl, rfl, rfl, rfl, rfl, rfl, rfl, rfl, rfl, rfl, rfl, trivial⟩
            ·intro hb873
             refine .split 171 rfl (fun c874 => ?_) (fun c874 => ?_)
             ·have r875 := ifT h859 c874
              refine .go 5 ?_
              exact (hb873 _ rfl).ax ⟨sval r875, rfl, rfl, rfl, rfl, rfl, rfl, rfl, rfl, rfl, rfl, rfl, rfl, rfl, rfl, rfl, rfl, rfl, trivial⟩
             ·have r876 := ifF h859 c874
              refine .go 1 ?_
              refine .q .ro (.load_own_a 3 [_, _, _, _] rfl rfl ty39 rfl) rfl (.go 1 ?_)
              refine .q .ro (.load_own_a 2 [_, _, _, _] rfl rfl ty39 rfl) rfl (.go 1 ?_)
              obtain ⟨u877, hu877, r878⟩ := X0 r876
              refine .cV [_, _] Tryz.call21 (Xcs mcs (SlR.mono (HpLe.trans (HpLe.trans e829 e840) e851) s823) (SlR.mono (HpLe.trans e840 e851) s834) hu877) ?_
              refine .go 3 ?_
              exact (hb873 _ rfl).ax ⟨sval r878, rfl, rfl, rfl, rfl, rfl, rfl, rfl, rfl, rfl, rfl, rfl, rfl, rfl, rfl, rfl, rfl, rfl, trivial⟩
           ·intro hb879
            refine .split 166 rfl (fun c880 => ?_) (fun c880 => ?_)
            ·refine .go 4 ?_
             exact (hb879 _ rfl).ax ⟨X3s c880, rfl, rfl, rfl, rfl, rfl, rfl, rfl, rfl, rfl, rfl, rfl, rfl, rfl, rfl, rfl, rfl, rfl, rfl, rfl, trivial⟩
            ·refine .go 7 ?_
             exact (hb879 _ rfl).ax ⟨X44 c880, rfl, rfl, rfl, rfl, rfl, rfl, rfl, rfl, rfl, rfl, rfl, rfl, rfl, rfl, rfl, rfl, rfl, rfl, rfl, trivial⟩
     ·intro hb24
      refine .split 98 rfl (fun c23 => ?_) (fun c23 => ?_)
      ·refine .go 5 ?_
       exact (hb24 _ rfl).ax ⟨X3s c23, rfl, rfl, rfl, rfl, rfl, rfl, rfl, rfl, trivial⟩
      ·refine .go 9 ?_
       exact (hb24 _ rfl).ax ⟨X44 c23, rfl, rfl, rfl, rfl, rfl, rfl, rfl, rfl, trivial⟩
    ·intro hb20
     refine .split 93 rfl (fun c19 => ?_) (fun c19 => ?_)
     ·refine .go 4 ?_
      exact (hb20 _ rfl).ax ⟨X3s c19, rfl, rfl, rfl, rfl, rfl, rfl, rfl, rfl, trivial⟩
     ·refine .go 7 ?_
      exact (hb20 _ rfl).ax ⟨X44 c19, rfl, rfl, rfl, rfl, rfl, rfl, rfl, rfl, trivial⟩
   ·intro hb16
    refine .split 88 rfl (fun c15 => ?_) (fun c15 => ?_)
    ·refine .go 4 ?_
     exact (hb16 _ rfl).ax ⟨X3s c15, rfl, rfl, rfl, rfl, rfl, rfl, rfl, rfl, trivial⟩
    ·refine .go 3 ?_
     refine .q .ro (.len_s rfl Tryz.underlying9) rfl (.go 3 ?_)
     exact (hb16 _ rfl).ax ⟨X44 c15, rfl, rfl, rfl, rfl, rfl, rfl, rfl, rfl, trivial⟩
  ·intro hb12
   refine .split 81 rfl (fun c11 => ?_) (fun c11 => ?_)
   ·refine .go 6 ?_
    exact (hb12 _ rfl).ax ⟨X3s c11, rfl, rfl, rfl, rfl, rfl, rfl, rfl, rfl, trivial⟩
   ·refine .go 11 ?_
    exact (hb12 _ rfl).ax ⟨X44 c11, rfl, rfl, rfl, rfl, rfl, rfl, rfl, rfl, trivial⟩
end Go.Proofs.YtmfppphlhgneeaaGreat
end

section
namespace Go.Proofs.YtmfppphlhgneeaaGreat
set_option linter.unusedVariables false
def X5m (rec9999 : ((List (List Int)) × (List Int) × (List Bool)) → Int → (List Bool) → Option (Bool × (List Int) × (List Bool))) (z130 : Int) (z133 : List (List Int)) (z134 : List Bool) (rec112 : (List Bool) → (List Int) → Option (Bool × (List Int) × (List Bool))) (x136 : Int) (v116 : List Bool) (v122 : List Int) : Option (Bool × (List Int) × (List Bool)) :=
  (lidx v116 x136).bind fun u141 => (if (u141 = true) then (some true) else (lidx z134 x136).bind fun u226 => some u226).bind fun u153 => if (u153 = true) then (rec112 v116 v122) else
(lidx v122 x136).bind fun u161 => if (u161 < 0) then ((lidx v122 x136).bind fun u168 => (lupd v122 x136 z130).bind fun u173 => some (true, u173, v116)) else
(lidx v116 x136).bind fun u180 => (lupd v116 x136 true).bind fun u185 => (lidx v122 x136).bind fun u191 => (rec9999 (z133, v122, z134) u191 u185).bind fun u196 => if (u196.1 = true) then ((lidx u196.2.1 x136).bind fun u212 => (lupd u196.2.1 x136 z130).bind fun u217 => some (true, u217, u196.2.2)) else
 rec112 u196.2.2 u196.2.1
def Xo (rec9999 : ((List (List Int)) × (List Int) × (List Bool)) → Int → (List Bool) → Option (Bool × (List Int) × (List Bool))) (z130 : Int) (z133 : List (List Int)) (z134 : List Bool) : (List Int) → (List Bool) → (List Int) → Option (Bool × (List Int) × (List Bool))
  | [], v116, v122 => some (false, v122, v116)
  | x136 :: xs, v116, v122 => X5m rec9999 z130 z133 z134 (Xo rec9999 z130 z133 z134 xs) x136 v116 v122
def X5n (rec9999 : ((List (List Int)) × (List Int) × (List Bool)) → Int → (List Bool) → Option (Bool × (List Int) × (List Bool))) (x0 : ((List (List Int)) × (List Int) × (List Bool))) (x1 : Int) (x2 : (List Bool)) : Option (Bool × (List Int) × (List Bool)) :=
  (lidx x0.1 x1).bind fun u4 => Xo rec9999 x1 x0.1 x0.2.2 u4 x2 x0.2.1
def Xh : Nat → ((List (List Int)) × (List Int) × (List Bool)) → Int → (List Bool) → Option (Bool × (List Int) × (List Bool))
  | 0, _, _, _ => none
  | n + 1, x0, x1, x2 => X5n (Xh n) x0 x1 x2
end Go.Proofs.YtmfppphlhgneeaaGreat
end

section
namespace Go.Proofs.YtmfppphlhgneeaaGreat
def stp (b : Int) : Nat → Int → Nat
  | 0, _ => 1
  | k + 1, n => if n ≤ b then 1 else 1 + stp b k ((n + b - 1) / b)
theorem Xje {n b m : Int} (hb : 1 ≤ b) : (n + b - 1) / b ≤ m ↔ n ≤ m * b := by
  constructor
  · intro h
    have h1 := Int.mul_ediv_add_emod (n + b - 1) b
    have h2 := Int.emod_lt_of_pos (n + b - 1) (by omega : 0 < b)
    have h3 : b * ((n + b - 1) / b) ≤ b * m := Int.mul_le_mul_of_nonneg_left h (by omega)
    rw [Int.mul_comm m b]; omega
  · intro h
    have : (n + b - 1) / b < m + 1 := Int.ediv_lt_of_lt_mul (by omega) (by rw [Int.add_mul]; omega)
    omega
theorem Xjf {n b : Int} (hb : 2 ≤ b) (h : b < n) : 1 ≤ (n + b - 1) / b ∧ (n + b - 1) / b ≤ n - 1 := by
  constructor
  · exact Int.le_ediv_of_mul_le (by omega) (by omega)
  · rw [Xje (by omega)]
    have h1 : 0 ≤ (n - 2) * (b - 2) := Int.mul_nonneg (by omega) (by omega)
    have h2 : (n - 2) * (b - 2) = n * b - 2 * n - 2 * b + 4 := by rw [Int.sub_mul, Int.mul_sub, Int.mul_sub]; omega
    rw [Int.sub_mul]; omega
theorem Xjg (b : Int) : ∀ (k : Nat) (n : Int), 1 ≤ stp b k n
  | 0, _ => Nat.le_refl _
  | k + 1, n => by simp only [stp]; split <;> omega
theorem Xlx {b : Int} (hb : 2 ≤ b) : ∀ (k : Nat) (n : Int), n ≤ k → ∀ j : Nat, stp b k n ≤ j + 1 ↔ n ≤ b ^ (j + 1)
  | 0, n, h, j => by
    have : 0 < b ^ (j + 1) := Int.pow_pos (by omega)
    simp only [stp]; omega
  | k + 1, n, h, j => by
    simp only [stp]
    split
    · rename_i hn
      have h1 : b ^ 1 ≤ b ^ (j + 1) := by
        rw [Int.pow_succ b j, Int.pow_succ, Int.pow_zero]
        have h0 : 0 < b ^ j := Int.pow_pos (by omega)
        exact Int.mul_le_mul_of_nonneg_right (by omega) (by omega)
      rw [Int.pow_succ, Int.pow_zero] at h1
      omega
    · rename_i hn
      have hc := Xjf hb (by omega : b < n)
      cases j with
      | zero =>
        have := Xjg b k ((n + b - 1) / b)
        rw [Int.pow_succ, Int.pow_zero]
        omega
      | succ j =>
        have ih := Xlx hb k ((n + b - 1) / b) (by omega) j
        have e : 1 + stp b k ((n + b - 1) / b) ≤ j + 1 + 1 ↔ stp b k ((n + b - 1) / b) ≤ j + 1 := by omega
        rw [e, ih, Xje (by omega), ← Int.pow_succ]
def st (b n : Int) : Nat := stp b 256 n
theorem Xov {b n : Int} (hb : 2 ≤ b) (hn : n ≤ 256) (j : Nat) (hj : 1 ≤ j) : st b n ≤ j ↔ n ≤ b ^ j := by
  have := Xlx hb 256 n hn (j - 1)
  rwa [Nat.sub_add_cancel hj] at this
theorem Xo1 (b n : Int) : 1 ≤ st b n := Xjg b 256 n
theorem w64_ceil {n b : Int} (h1 : 1 ≤ n) (h2 : n ≤ 100000) (h3 : 1 ≤ b) (h4 : b ≤ 100000) : w64 (Int.tdiv (w64 (w64 (n + b) - 1)) b) = (n + b - 1) / b := by
  have a := Int.ediv_nonneg (by omega : 0 ≤ n + b - 1) (by omega : 0 ≤ b)
  have c := Int.ediv_le_self b (by omega : 0 ≤ n + b - 1)
  rw [w64_id (x := n + b) (by omega) (by omega), w64_id (x := n + b - 1) (by omega) (by omega), Int.tdiv_eq_ediv_of_nonneg (by omega), w64_id (by omega) (by omega)]
theorem Xmv {y : Int} (h : y ≠ 0) : nz y = some () := by unfold nz; rw [if_neg h]
end Go.Proofs.YtmfppphlhgneeaaGreat
end

section
namespace Go.Proofs.YtmfppphlhgneeaaGreat
theorem Xmw {y : Int} (h : y ≠ 0) : nz y = some () := by unfold nz; rw [if_neg h]
theorem X60 {α : Type} {l : List α} {i : Int} (d : α) (h0 : 0 ≤ i) (h1 : i < l.length) : lidx l i = some (l.getD i.toNat d) := by
  refine Xa4 h0 ?_
  rw [List.getD_eq_getElem?_getD]
  have : i.toNat < l.length := by omega
  simp [this]
theorem X26 {α : Type} {l : List α} {i : Nat} (d : α) (h1 : i < l.length) : lidx l (i : Int) = some (l.getD i d) := by
  rw [X60 d (by omega) (by omega), Int.toNat_natCast]
theorem Xs {α : Type} {l m : List α} (h : l.length + m.length ≤ 16777216) : lapp l m = some (l ++ m) := by unfold lapp; rw [if_pos h]
theorem Xa9 {α : Type} {l : List α} {i j : Int} (h0 : 0 ≤ i) (h1 : i ≤ j) (h2 : j ≤ l.length) : lsub l i j = some ((l.drop i.toNat).take (j - i).toNat) := by unfold lsub; rw [if_pos ⟨h0, h1, h2⟩]
theorem X1s {α : Type} {l : List α} {i : Int} {y : α} (h0 : 0 ≤ i) (h1 : i < l.length) : lupd l i y = some (l.set i.toNat y) := by unfold lupd; rw [if_pos ⟨h0, h1⟩]
end Go.Proofs.YtmfppphlhgneeaaGreat
end

section
namespace Go.Proofs.YtmfppphlhgneeaaGreat
abbrev gd (l : List ByteArray) (i : Nat) : ByteArray := l.getD i ByteArray.empty
def okAt (l : List ByteArray) (i : Nat) : Prop := (1 ≤ (gd l i).size ∧ (gd l i).size ≤ 32) ∧ (i = 0 ∨ sLt (gd l (i - 1)) (gd l i))
instance (l : List ByteArray) (i : Nat) : Decidable (okAt l i) := by unfold okAt; infer_instance
def AscF (l : List ByteArray) (i : Nat) : Prop := ∀ j, j < l.length → i ≤ j → okAt l j
instance (l : List ByteArray) (i : Nat) : Decidable (AscF l i) := by unfold AscF; infer_instance
def AscP (l : List ByteArray) : Prop := ∀ j, j < l.length → okAt l j
instance (l : List ByteArray) : Decidable (AscP l) := by unfold AscP; infer_instance
def KeyP (w : ByteArray) : Prop := 1 ≤ w.size ∧ w.size ≤ 32
instance (w : ByteArray) : Decidable (KeyP w) := by unfold KeyP; infer_instance
theorem nb_t {p : Prop} [Decidable p] (h : p) : ¬ ((!decide p) = true) := by simp [h]
theorem nb_f {p : Prop} [Decidable p] (h : ¬ p) : (!decide p) = true := by simp [h]
theorem Xgt (w : ByteArray) : X7k w = some (decide (KeyP w)) := by
  unfold X7k; exact congrArg some (decide_eq_decide.2 (by unfold KeyP; omega))
theorem Xds (w : ByteArray) : X70 w = some (decide (KeyP w)) := by
  unfold X70; exact congrArg some (decide_eq_decide.2 (by unfold KeyP; omega))
theorem Xhe {l xs : List ByteArray} {x : ByteArray} {i : Nat} (h : l.drop i = x :: xs) : i < l.length ∧ x = gd l i := by
  have h1 := Xf h
  have h2 := X2 h
  rw [X26 .empty (by omega)] at h2
  exact ⟨by omega, (Option.some.inj h2).symm⟩
theorem Xo2 {z : List ByteArray} (hz : z.length ≤ 10000000) : ∀ (xs : List ByteArray) (i : Nat), z.drop i = xs → X2f z xs i = some (decide (AscF z i))
  | [], i, h => by
    have := X8 h
    show some true = _
    congr 1
    exact (decide_eq_true (fun j h1 h2 => by omega)).symm
  | x :: xs, i, h => by
    obtain ⟨hi, rfl⟩ := Xhe h
    show X4x z (X2f z xs (i + 1)) (gd z i) i = _
    unfold X4x
    rw [Xo2 hz xs (i + 1) (X3 h), Xgt]
    simp only [Option.bind_some]
    have e2 : (if (0 < (i : Int)) then ((lidx z (w64 ((i : Int) - 1))).bind fun u127 => some (decide (¬ sLt u127 (gd z i)))) else some false) = some (decide (i ≠ 0 ∧ ¬ sLt (gd z (i - 1)) (gd z i))) := by
      by_cases h0 : i = 0
      · rw [if_neg (by omega)]; simp [h0]
      · rw [if_pos (by omega), w64_id (by omega) (by omega), show ((i : Int) - 1) = ((i - 1 : Nat) : Int) by omega, X26 .empty (by omega)]
        simp [h0]
    rw [e2]
    simp only [Option.bind_some]
    have e3 : (if (!decide (KeyP (gd z i))) = true then some true else some (decide (i ≠ 0 ∧ ¬ sLt (gd z (i - 1)) (gd z i)))) = some (decide (¬ okAt z i)) := by
      by_cases hk : KeyP (gd z i)
      · rw [if_neg (nb_t hk)]
        congr 1
        rw [decide_eq_decide]
        unfold okAt
        constructor
        · rintro ⟨h1, h2⟩ ⟨_, h3 | h3⟩
          · exact h1 h3
          · exact h2 h3
        · intro h1
          exact ⟨fun h2 => h1 ⟨hk, .inl h2⟩, fun h2 => h1 ⟨hk, .inr h2⟩⟩
      · rw [if_pos (nb_f hk)]
        congr 1
        exact (decide_eq_true (p := ¬ okAt z i) (fun h1 => hk h1.1)).symm
    rw [e3]
    simp only [Option.bind_some]
    by_cases ok : okAt z i
    · rw [if_neg (by simp [ok])]
      congr 1
      rw [decide_eq_decide]
      constructor
      · intro h1 j h2 h3
        rcases Nat.eq_or_lt_of_le h3 with rfl | h4
        · exact ok
        · exact h1 j h2 h4
      · exact fun h1 j h2 h3 => h1 j h2 (by omega)
    · rw [if_pos (by simp [ok])]
      congr 1
      exact (decide_eq_false (fun h1 => ok (h1 i hi (Nat.le_refl _)))).symm
theorem Xcf {z : List ByteArray} (hz : z.length ≤ 10000000) : X6f z = some (decide (AscP z)) := by
  unfold X6f
  rw [Xo2 hz z 0 rfl]
  congr 1
  rw [decide_eq_decide]
  exact ⟨fun h j h1 => h j h1 (by omega), fun h j h1 _ => h j h1⟩
theorem Xly (z : List ByteArray) : ∀ (xs : List ByteArray) (i : Nat), X42 z xs i = X2f z xs i
  | [], _ => rfl
  | x :: xs, i => by
    show X86 z (X42 z xs (i + 1)) x i = X4x z (X2f z xs (i + 1)) x i
    rw [Xly z xs (i + 1)]
    rfl
theorem Xiq {z : List ByteArray} (hz : z.length ≤ 10000000) : Xa0 z = some (decide (AscP z)) := (Xly z z 0).trans (Xcf hz)
def FenP (f : Int × List ByteArray) : Prop := ((2 ≤ f.1 ∧ f.1 ≤ 8) ∧ 1 ≤ f.2.length ∧ f.2.length ≤ 256) ∧ AscP f.2
instance (f : Int × List ByteArray) : Decidable (FenP f) := by unfold FenP; infer_instance
theorem Xhr (f : Int × List ByteArray) : X8c f = some (if FenP f then 0 else 2) := by
  unfold X8c Xap
  simp only [Option.bind_some]
  by_cases h : (2 ≤ f.1 ∧ f.1 ≤ 8) ∧ 1 ≤ f.2.length ∧ f.2.length ≤ 256
  · rw [if_neg (by simp; omega), Xcf (by omega)]
    simp only [Option.bind_some]
    by_cases h2 : AscP f.2
    · rw [if_neg (nb_t h2), if_pos ⟨h, h2⟩]
    · rw [if_pos (nb_f h2), if_neg (fun h3 => h2 h3.2)]
  · rw [if_pos (by simp; omega), if_neg (fun h3 => h h3.1)]; rfl
theorem Xjh (f : Int × List ByteArray) : X9t f = some (if FenP f then 0 else 2) := by
  unfold X9t
  by_cases h : (2 ≤ f.1 ∧ f.1 ≤ 8) ∧ 1 ≤ f.2.length ∧ f.2.length ≤ 256
  · rw [if_neg (by omega), Xiq (by omega)]
    simp only [Option.bind_some]
    by_cases h2 : AscP f.2
    · rw [if_neg (nb_t h2), if_pos ⟨h, h2⟩]
    · rw [if_pos (nb_f h2), if_neg (fun h3 => h2 h3.2)]
  · rw [if_pos (by omega), if_neg (fun h3 => h h3.1)]; rfl
theorem Xeo {l : List ByteArray} (h : AscP l) : ∀ {j i : Nat}, i < j → j < l.length → sLt (gd l i) (gd l j)
  | 0, i, h0, _ => by omega
  | j + 1, i, h0, h1 => by
    rcases (h (j + 1) h1).2 with h2 | h2
    · omega
    · simp only [Nat.add_sub_cancel] at h2
      rcases Nat.lt_or_ge i j with h3 | h3
      · exact Xca (Xeo h h3 (by omega)) h2
      · obtain rfl : i = j := by omega
        exact h2
def lastN (l : List ByteArray) (w : ByteArray) : Nat → Nat
  | 0 => 0
  | q + 1 => if ¬ sLt w (gd l q) then q else lastN l w q
theorem Xd2 (l : List ByteArray) (w : ByteArray) : ∀ q, 1 ≤ q → lastN l w q < q
  | 0, h => by omega
  | q + 1, _ => by
    simp only [lastN]
    split
    · omega
    · rcases Nat.eq_zero_or_pos q with h | h
      · subst h; simp [lastN]
      · have := Xd2 l w q h; omega
theorem Xcg {l : List ByteArray} {w : ByteArray} {r : Nat} (h1 : ∀ k, k < r → ¬ sLt w (gd l k)) : ∀ n, r ≤ n → (∀ k, r ≤ k → k < n → sLt w (gd l k)) → lastN l w n = r - 1
  | 0, h, _ => by simp [lastN]; omega
  | n + 1, h, h2 => by
    simp only [lastN]
    rcases Nat.lt_or_ge n r with h3 | h3
    · rw [if_pos (h1 n h3)]; omega
    · rw [if_neg (fun hn => hn (h2 n h3 (by omega)))]
      exact Xcg h1 n h3 (fun k h4 h5 => h2 k h4 (by omega))
theorem partk {l : List ByteArray} (h : AscP l) (w : ByteArray) : ∀ n, n ≤ l.length → ∃ r, r ≤ n ∧ (∀ k, k < r → ¬ sLt w (gd l k)) ∧ ∀ k, r ≤ k → k < n → sLt w (gd l k)
  | 0, _ => ⟨0, by omega, fun k h => by omega, fun k _ h => by omega⟩
  | n + 1, hn => by
    by_cases hw : sLt w (gd l n)
    · obtain ⟨r, h1, h2, h3⟩ := partk h w n (by omega)
      refine ⟨r, by omega, h2, fun k h4 h5 => ?_⟩
      rcases Nat.lt_or_ge k n with h6 | h6
      · exact h3 k h4 h6
      · obtain rfl : k = n := by omega
        exact hw
    · refine ⟨n + 1, by omega, fun k h4 h5 => ?_, fun k h4 h5 => by omega⟩
      rcases Nat.lt_or_ge k n with h6 | h6
      · exact hw (Xca h5 (Xeo h h6 (by omega)))
      · obtain rfl : k = n := by omega
        exact hw h5
theorem Xfp {z : Int → Option Bool} {P : Int → Prop} [DecidablePred P] {n : Int} (hn : n ≤ 100000000) (hz : ∀ i, 0 ≤ i → i < n → z i = some (decide (P i))) (hm : ∀ i j, 0 ≤ i → i ≤ j → j < n → P i → P j) : ∀ (f : Nat) (i j : Int), 0 ≤ i → i ≤ j → j ≤ n → j - i < f → (∀ k, 0 ≤ k → k < i → ¬ P k) → (∀ k, j ≤ k → k < n → P k) →
    ∃ r, X5y z f i j = some r ∧ 0 ≤ r ∧ r ≤ n ∧ (∀ k, 0 ≤ k → k < r → ¬ P k) ∧ ∀ k, r ≤ k → k < n → P k
  | 0, i, j, h0, h1, h2, h3, _, _ => by omega
  | f + 1, i, j, h0, h1, h2, h3, h4, h5 => by
    show ∃ r, X7d z (X5y z f) i j = some r ∧ _
    unfold X7d
    split
    · rename_i hij
      have em : w64 (IntKind.u64.wrap (w64 (i + j)) / 2) = (i + j) / 2 := by
        rw [w64_id (x := i + j) (by omega) (by omega), IntWalk.u64_in _ (by constructor <;> omega), w64_id (by omega) (by omega)]
      rw [em, w64_id (x := (i + j) / 2 + 1) (by omega) (by omega), hz _ (by omega) (by omega)]
      simp only [Option.bind_some]
      by_cases hp : P ((i + j) / 2)
      · rw [if_neg (by simp [hp])]
        exact Xfp hn hz hm f _ _ (by omega) (by omega) (by omega) (by omega) h4 (fun k h6 h7 => hm _ _ (by omega) h6 h7 hp)
      · rw [if_pos (by simp [hp])]
        exact Xfp hn hz hm f _ _ (by omega) (by omega) (by omega) (by omega) (fun k h6 h7 h8 => hp (hm _ _ h6 (by omega) (by omega) h8)) h5
    · exact ⟨i, rfl, h0, by omega, h4, fun k h6 h7 => h5 k (by omega) h7⟩
theorem Xji {l : List ByteArray} (hl : l.length ≤ 10000000) (h : AscP l) (w : ByteArray) : ∃ r : Int, X91 l w = some r ∧ 0 ≤ r ∧ r ≤ l.length ∧ (∀ k : Int, 0 ≤ k → k < r → ¬ sLt w (gd l k.toNat)) ∧ ∀ k : Int, r ≤ k → k < l.length → sLt w (gd l k.toNat) := by
  obtain ⟨r, h1, h2⟩ := Xfp (z := fun y0 => X53 y0 l w) (P := fun k => sLt w (gd l k.toNat)) (n := l.length) (by omega)
    (fun i h0 h1 => by show X53 i l w = _; unfold X53; rw [X60 .empty h0 h1]; rfl)
    (fun i j h0 h1 h2 hk => by
      rcases Int.lt_or_eq_of_le h1 with h3 | rfl
      · exact Xca hk (Xeo h (by omega) (by omega))
      · exact hk) big 0 l.length (by omega) (by omega) (by omega) (by simp only [big]; omega) (fun k h0 h1 => by omega) (fun k h0 h1 => by omega)
  refine ⟨r, ?_, h2⟩
  unfold X91 Xas
  rw [h1]; rfl
theorem Xmx {l : List ByteArray} (hl : l.length ≤ 10000000) (h : AscP l) (w : ByteArray) : Xah l w = some (lastN l w l.length : Int) := by
  obtain ⟨r, e, h1, h2, h3, h4⟩ := Xji hl h w
  unfold Xah
  rw [e]
  simp only [Option.bind_some]
  rw [w64_id (by omega) (by omega), Xcg (r := r.toNat) (fun k hk => by have := h3 k (by omega) (by omega); simpa using this) l.length (by omega) (fun k h5 h6 => by have := h4 k (by omega) (by omega); simpa using this)]
  congr 1
  omega
theorem Xjj {z : List ByteArray} (w : ByteArray) : ∀ (xs : List ByteArray) (i : Nat), i ≤ z.length → z.drop i = xs → X5k w xs i (lastN z w i) = some (lastN z w z.length : Int)
  | [], i, hi, h => by
    have := X8 h
    obtain rfl : i = z.length := by omega
    rfl
  | x :: xs, i, hi, h => by
    obtain ⟨hi, rfl⟩ := Xhe h
    show X88 w (X5k w xs (i + 1)) (gd z i) i _ = _
    unfold X88
    have ih := Xjj w xs (i + 1) (by omega) (X3 h)
    split
    · rename_i hs
      rw [← ih]
      simp only [lastN]
      rw [if_pos hs]
    · rename_i hs
      rw [← ih]
      simp only [lastN]
      rw [if_neg hs]
theorem Xld (l : List ByteArray) (w : ByteArray) : Xbo l w = some (lastN l w l.length : Int) := Xjj w l 0 (by omega) rfl
end Go.Proofs.YtmfppphlhgneeaaGreat
end

section
namespace Go.Proofs.YtmfppphlhgneeaaGreat
theorem Xlz {l : List ByteArray} (h1 : ∀ i, i < l.length → KeyP (gd l i)) (h2 : ∀ i, i + 1 < l.length → sLt (gd l i) (gd l (i + 1))) : AscP l := fun j hj => by
  refine ⟨h1 j hj, ?_⟩
  cases j with
  | zero => exact .inl rfl
  | succ j => exact .inr (h2 j hj)
end Go.Proofs.YtmfppphlhgneeaaGreat
end

section
namespace Go.Proofs.YtmfppphlhgneeaaGreat
def chN (L n : Nat) : Nat := (L + n - 1) / n
theorem Xaa {L n k : Nat} (hn : 1 ≤ n) : k < chN L n ↔ k * n < L := by
  unfold chN
  rw [Nat.lt_iff_add_one_le, Nat.le_div_iff_mul_le (by omega), Nat.add_mul]
  omega
theorem Xm0 {L n : Nat} (hn : 1 ≤ n) : chN L n ≤ L := by
  rcases Nat.lt_or_ge L (chN L n) with h | h
  · have := (Xaa hn).1 h
    have := Nat.mul_le_mul_left L hn
    omega
  · exact h
theorem Xfq {L n : Nat} : ((chN L n : Nat) : Int) = ((L : Int) + n - 1) / n ∨ L + n = 0 := by
  rcases Nat.eq_zero_or_pos (L + n) with h | h
  · exact .inr h
  · left; unfold chN; rw [Int.natCast_ediv]; congr 1; omega
theorem Xhs {L n : Nat} (hn : 2 ≤ n) (h : n < L) : 1 ≤ chN L n ∧ chN L n < L := by
  have h1 := Xjf (n := L) (b := n) (by omega) (by omega)
  rcases Xfq (L := L) (n := n) with h2 | h2 <;> omega
def chunks (n : Nat) (l : List ByteArray) : List (List ByteArray) := (List.range (chN l.length n)).map fun k => (l.drop (k * n)).take n
def up (n : Nat) (l : List ByteArray) : List ByteArray := (List.range (chN l.length n)).map fun k => gd l (k * n)
theorem Xb5 (n : Nat) (l : List ByteArray) : (up n l).length = chN l.length n := by simp [up]
theorem Xjk {n : Nat} {l : List ByteArray} {k : Nat} (h : k < chN l.length n) : gd (up n l) k = gd l (k * n) := by
  show (up n l).getD k _ = _
  unfold up
  rw [List.getD_eq_getElem?_getD, List.getElem?_map, List.getElem?_range h]; rfl
theorem Xep {α : Type} (g : Nat → α) {c k : Nat} (h : k < c) : (List.range (c - k)).map (fun t => g (k + t)) = g k :: (List.range (c - (k + 1))).map fun t => g (k + 1 + t) := by
  rw [show c - k = (c - (k + 1)) + 1 by omega, List.range_succ_eq_map, List.map_cons, List.map_map]
  congr 1
  apply List.map_congr_left
  intro a _
  show g (k + (a + 1)) = g (k + 1 + a)
  congr 1; omega
theorem Xjl {n : Nat} (hn : 1 ≤ n ∧ n ≤ 1000) {l : List ByteArray} (hl : l.length ≤ 1000000) : ∀ (f k : Nat), k ≤ chN l.length n → chN l.length n - k < f →
    Xn l (n : Int) f ((k * n : Nat) : Int) = some ((List.range (chN l.length n - k)).map fun t => (l.drop ((k + t) * n)).take n)
  | 0, k, _, h => by omega
  | f + 1, k, h1, h2 => by
    show Xy l (n : Int) (Xn l (n : Int) f) _ = _
    unfold Xy
    have hi := Xaa (L := l.length) (k := k) hn.1
    split
    · have hk : k < chN l.length n := hi.2 (by omega)
      rw [Xa9 (by omega) (by omega) (by omega)]
      simp only [Option.bind_some]
      have e1 : ((l.drop ((k * n : Nat) : Int).toNat).take ((l.length : Int) - ((k * n : Nat) : Int)).toNat).length = l.length - k * n := by rw [Int.toNat_natCast]; simp; omega
      rw [e1]
      have e2 : ((k * n : Nat) : Int) + (n : Int) = (((k + 1) * n : Nat) : Int) := by rw [Nat.add_mul]; omega
      rw [w64_id (x := ((k * n : Nat) : Int) + min (n : Int) ((l.length - k * n : Nat) : Int)) (by omega) (by omega), w64_id (x := ((k * n : Nat) : Int) + (n : Int)) (by omega) (by omega), e2]
      unfold lsub3
      rw [if_pos (by omega), Xa9 (by omega) (by omega) (by omega)]
      simp only [Option.bind_some]
      rw [Xjl hn hl f (k + 1) (by omega) (by omega), Xep (fun t => (l.drop (t * n)).take n) hk]
      simp only [yc, Option.map_some]
      congr 2
      rw [Int.toNat_natCast]
      rcases Nat.le_total n (l.length - k * n) with h | h
      · rw [show ((k * n : Nat) : Int) + min (n : Int) ((l.length - k * n : Nat) : Int) - ((k * n : Nat) : Int) = (n : Int) by omega, Int.toNat_natCast]
      · rw [List.take_of_length_le (by simp; omega), List.take_of_length_le (by simp; omega)]
    · have hk : ¬ k < chN l.length n := fun h => by have := hi.1 h; omega
      rw [show chN l.length n - k = 0 by omega]; rfl
theorem Xle {n : Nat} (hn : 1 ≤ n ∧ n ≤ 1000) {l : List ByteArray} (hl : l.length ≤ 1000000) : X1t l (n : Int) = some (chunks n l) := by
  unfold X1t X23 X22
  rw [if_neg (by omega)]
  have := Xjl hn hl big 0 (by omega) (by have := Xm0 (L := l.length) hn.1; simp only [big]; omega)
  rw [Nat.zero_mul] at this
  rw [show (0 : Int) = ((0 : Nat) : Int) from rfl, this]
  simp only [Option.bind_some, Nat.sub_zero, Nat.zero_add]
  rfl
theorem Xht (kx : List ByteArray → Option (List (List ByteArray))) : ∀ (cs : List (List ByteArray)) (acc : List ByteArray), (∀ c ∈ cs, c ≠ []) → acc.length + cs.length ≤ 1000000 →
    X2x kx cs acc = kx (acc ++ cs.map fun c => gd c 0)
  | [], acc, _, _ => by simp [X2x]
  | c :: cs, acc, h, hl => by
    simp only [List.length_cons] at hl
    show X6g kx (X2x kx cs) c acc = _
    unfold X6g
    have hc := List.length_pos_iff.2 (h c (List.mem_cons_self ..))
    rw [X60 .empty (by omega) (by omega)]
    simp only [Option.bind_some]
    rw [Xs (by simp; omega)]
    simp only [Option.bind_some]
    rw [Xht kx cs _ (fun c hc => h c (List.mem_cons_of_mem _ hc)) (by simp; omega)]
    simp
theorem Xjm {n : Nat} (hn : 1 ≤ n) (l : List ByteArray) : (∀ c ∈ chunks n l, c ≠ []) ∧ (chunks n l).map (fun c => gd c 0) = up n l := by
  constructor
  · intro c hc
    obtain ⟨k, hk, rfl⟩ := List.mem_map.1 hc
    have := (Xaa hn).1 (List.mem_range.1 hk)
    intro h
    have := congrArg List.length h
    simp at this; omega
  · unfold chunks up
    rw [List.map_map]
    apply List.map_congr_left
    intro k hk
    have := (Xaa hn).1 (List.mem_range.1 hk)
    show gd ((l.drop (k * n)).take n) 0 = gd l (k * n)
    simp [gd, List.getD_eq_getElem?_getD, List.getElem?_take_of_lt hn]
def lvs (n : Nat) : Nat → List ByteArray → List (List ByteArray)
  | 0, _ => []
  | k + 1, l => if l.length ≤ n then [] else up n l :: lvs n k (up n l)
theorem Xjn {n : Nat} (hn : 2 ≤ n) : ∀ (k : Nat) (l : List ByteArray), (lvs n k l).length + 1 = stp n k l.length
  | 0, l => rfl
  | k + 1, l => by
    simp only [lvs, stp]
    by_cases h : l.length ≤ n
    · rw [if_pos h, if_pos (by omega)]; rfl
    · rw [if_neg h, if_neg (by omega), List.length_cons, Xjn hn k, Xb5]
      rcases Xfq (L := l.length) (n := n) with h2 | h2
      · rw [h2]; omega
      · omega
theorem Xhu {n : Nat} (hn : 2 ≤ n ∧ n ≤ 8) : ∀ (f k : Nat) (l : List ByteArray) (acc : List (List ByteArray)), l.length ≤ k → l.length < f → acc.length + l.length ≤ 100000 →
    X1z (n : Int) f acc l = some (acc ++ lvs n k l)
  | 0, k, l, acc, h1, h2, h3 => by omega
  | f + 1, k, l, acc, h1, h2, h3 => by
    show X6h (n : Int) (X1z (n : Int) f) acc l = _
    unfold X6h
    split
    · rename_i h
      cases k with
      | zero => omega
      | succ k =>
        have hc := Xhs hn.1 (by omega : n < l.length)
        obtain ⟨c1, c2⟩ := Xjm (n := n) (by omega) l
        rw [Xle ⟨by omega, by omega⟩ (by omega)]
        simp only [Option.bind_some]
        rw [Xht _ _ _ c1 (by simp [chunks]; omega), c2, List.nil_append]
        unfold X3w
        rw [Xs (by simp; omega)]
        simp only [Option.bind_some]
        rw [Xhu hn f k (up n l) (acc ++ [up n l]) (by rw [Xb5]; omega) (by rw [Xb5]; omega) (by simp [Xb5]; omega)]
        simp only [lvs]
        rw [if_neg (by omega)]
        simp
    · cases k with
      | zero => simp [lvs]
      | succ k => simp only [lvs]; rw [if_pos (by omega)]; simp
theorem Xgu {n : Nat} (hn : 2 ≤ n ∧ n ≤ 8) {l : List ByteArray} (hl : l.length ≤ 256) : X7l ((n : Int), l) = some (l :: lvs n 256 l) := by
  unfold X7l X2m
  dsimp only
  rw [Xs (by simp; omega)]
  simp only [Option.bind_some, List.nil_append]
  rw [Xhu hn big 256 l _ hl (by simp only [big]; omega) (by simp; omega)]
  rfl
def tow (n : Nat) (l : List ByteArray) : List (List ByteArray) := l :: lvs n 256 l
abbrev gl (L : List (List ByteArray)) (i : Nat) : List ByteArray := L.getD i []
theorem Xhv {n : Nat} (hn : 2 ≤ n) : ∀ (k : Nat) (l : List ByteArray), l.length ≤ k → (∀ i, i + 1 < (l :: lvs n k l).length → n < (gl (l :: lvs n k l) i).length ∧ gl (l :: lvs n k l) (i + 1) = up n (gl (l :: lvs n k l) i)) ∧ (gl (l :: lvs n k l) ((l :: lvs n k l).length - 1)).length ≤ n
  | 0, l, h => ⟨fun i hi => by simp [lvs] at hi, by simp [lvs, gl]; omega⟩
  | k + 1, l, h => by
    simp only [lvs]
    split
    · exact ⟨fun i hi => by simp at hi, by simpa [gl]⟩
    · rename_i h1
      have hc := Xhs hn (by omega : n < l.length)
      obtain ⟨i1, i2⟩ := Xhv hn k (up n l) (by rw [Xb5]; omega)
      refine ⟨fun i hi => ?_, ?_⟩
      · cases i with
        | zero => exact ⟨by simp only [gl, List.getD_cons_zero]; omega, rfl⟩
        | succ i =>
          have := i1 i (by simpa using hi)
          simpa [gl] using this
      · simpa [gl] using i2
theorem Xm1 {n : Nat} (hn : 1 ≤ n) {l : List ByteArray} (h : AscP l) : AscP (up n l) := by
  refine Xlz (fun i hi => ?_) (fun i hi => ?_)
  · rw [Xb5] at hi
    rw [Xjk hi]
    exact (h _ ((Xaa hn).1 hi)).1
  · rw [Xb5] at hi
    rw [Xjk (by omega), Xjk hi]
    exact Xeo h (by rw [Nat.add_mul]; omega) ((Xaa hn).1 hi)
theorem Xmy {n : Nat} (hn : 2 ≤ n) (l : List ByteArray) : (tow n l).length = st n l.length := by
  unfold tow st; rw [List.length_cons, Xjn hn]
theorem Xjo {n : Nat} (hn : 2 ≤ n) {l : List ByteArray} (hl : 1 ≤ l.length ∧ l.length ≤ 256) (h : AscP l) : ∀ i, i < (tow n l).length → AscP (gl (tow n l) i) ∧ 1 ≤ (gl (tow n l) i).length ∧ (gl (tow n l) i).length ≤ 256
  | 0, _ => ⟨h, hl⟩
  | i + 1, hi => by
    obtain ⟨h1, h2, h3⟩ := Xjo hn hl h i (by omega)
    obtain ⟨h4, h5⟩ := (Xhv hn 256 l hl.2).1 i hi
    have hc := Xhs hn h4
    unfold tow
    rw [h5]
    refine ⟨Xm1 (by omega) h1, ?_⟩
    rw [Xb5]
    unfold tow at h3
    omega
def levelsI (f : Int × List ByteArray) : List (List ByteArray) × Int := if FenP f then (tow f.1.toNat f.2, 0) else ([], 2)
theorem Xeq (f : Int × List ByteArray) : X8x f = some (levelsI f) := by
  unfold X8x levelsI
  rw [Xhr]
  simp only [Option.bind_some]
  by_cases hf : FenP f
  · rw [if_pos hf, if_neg (show ¬ ((0 : Int) ≠ 0) by decide), if_pos hf]
    have hb := hf.1
    have := Xgu (n := f.1.toNat) (by omega) hb.2.2
    rw [show ((f.1.toNat : Nat) : Int) = f.1 by omega] at this
    rw [show f = (f.1, f.2) from rfl, this]; rfl
  · rw [if_neg hf, if_pos (show (2 : Int) ≠ 0 by decide), if_neg hf]
end Go.Proofs.YtmfppphlhgneeaaGreat
end

section
namespace Go.Proofs.YtmfppphlhgneeaaGreat
def blk (n : Nat) (l : List ByteArray) (t : Nat) : List ByteArray := (l.drop (t * n)).take n
theorem Xjp {n : Nat} {l : List ByteArray} {t : Nat} (hn : n ≤ 8) (hl : l.length ≤ 1000) (ht : t * n ≤ l.length) (ht2 : t ≤ 1000) : lsub l (w64 ((t : Int) * (n : Int))) (min (w64 (w64 ((t : Int) + 1) * (n : Int))) (l.length : Int)) = some (blk n l t) := by
  have e1 : (t : Int) * (n : Int) = ((t * n : Nat) : Int) := by simp
  have e2 : ((t : Int) + 1) * (n : Int) = ((t * n + n : Nat) : Int) := by rw [Int.add_mul]; simp
  rw [e1, w64_id (x := ((t * n : Nat) : Int)) (by omega) (by omega), w64_id (x := (t : Int) + 1) (by omega) (by omega), e2, w64_id (x := ((t * n + n : Nat) : Int)) (by omega) (by omega), Xa9 (by omega) (by omega) (by omega)]
  congr 1
  unfold blk
  rw [Int.toNat_natCast]
  rcases Nat.le_total (t * n + n) l.length with h | h
  · congr 1; omega
  · rw [List.take_of_length_le (by simp; omega), List.take_of_length_le (by simp; omega)]
theorem Xlf {n : Nat} {l : List ByteArray} {t : Nat} (hn : n ≤ 8) (hl : l.length ≤ 1000) (ht : t * n ≤ l.length) (ht2 : t ≤ 1000) : lsub l (w64 ((t : Int) * (n : Int))) (min (l.length : Int) (w64 (w64 ((t : Int) + 1) * (n : Int)))) = some (blk n l t) := by
  rw [Int.min_comm]; exact Xjp hn hl ht ht2
theorem Xdt (n : Nat) (l : List ByteArray) (t : Nat) : (blk n l t).length = min n (l.length - t * n) := by simp [blk]
theorem Xgv {n : Nat} {l : List ByteArray} {t j : Nat} (h : j < n) : gd (blk n l t) j = gd l (t * n + j) := by
  simp [blk, gd, List.getD_eq_getElem?_getD, List.getElem?_take_of_lt h]
theorem Xmz {n : Nat} {l : List ByteArray} (h : AscP l) (t : Nat) : AscP (blk n l t) := by
  refine Xlz (fun i hi => ?_) (fun i hi => ?_)
  · rw [Xdt] at hi
    rw [Xgv (by omega)]
    exact (h _ (by omega)).1
  · rw [Xdt] at hi
    rw [Xgv (by omega), Xgv (by omega)]
    exact Xeo h (by omega) (by omega)
theorem Xn0 {n : Nat} {l : List ByteArray} (h : l.length ≤ n) : blk n l 0 = l := by
  unfold blk
  rw [Nat.zero_mul, List.drop_zero, List.take_of_length_le h]
theorem Xo3 {n : Nat} (hn : 1 ≤ n) {l : List ByteArray} (h : AscP l) (hl : 1 ≤ l.length) (w : ByteArray) : lastN (up n l) w (up n l).length * n < l.length ∧
    lastN (up n l) w (up n l).length * n + lastN (blk n l (lastN (up n l) w (up n l).length)) w (blk n l (lastN (up n l) w (up n l).length)).length = lastN l w l.length := by
  obtain ⟨r, h1, h2, h3⟩ := partk h w l.length (Nat.le_refl _)
  obtain ⟨q, g1, g2, g3⟩ := partk (Xm1 hn h) w (up n l).length (Nat.le_refl _)
  rw [Xcg h2 _ h1 h3, Xcg g2 _ g1 g3]
  rw [Xb5] at g1 g3
  have hc0 : 0 < chN l.length n := (Xaa hn).2 (by omega)
  have a1 : q ≠ 0 → (q - 1) * n < r := fun hq => by
    have h4 := g2 (q - 1) (by omega)
    rw [Xjk (by omega)] at h4
    rcases Nat.lt_or_ge ((q - 1) * n) r with h5 | h5
    · exact h5
    · exact absurd (h3 _ h5 ((Xaa hn).1 (by omega))) h4
  have a2 : r ≤ q * n := by
    rcases Nat.lt_or_ge q (chN l.length n) with h4 | h4
    · have h5 := g3 q (Nat.le_refl _) h4
      rw [Xjk h4] at h5
      rcases Nat.lt_or_ge (q * n) r with h6 | h6
      · exact absurd h5 (h2 _ h6)
      · exact h6
    · have : ¬ q * n < l.length := fun h5 => by have := (Xaa hn).2 h5; omega
      omega
  have a3 : q ≠ 0 → q * n = (q - 1) * n + n := fun hq => by
    obtain ⟨p, rfl⟩ : ∃ p, q = p + 1 := ⟨q - 1, by omega⟩
    rw [Nat.add_sub_cancel, Nat.add_mul, Nat.one_mul]
  have a4 : q = 0 → r = 0 := fun hq => by rw [hq, Nat.zero_mul] at a2; omega
  have a5 : q = 0 → (q - 1) * n = 0 := fun hq => by rw [hq]; simp
  refine ⟨by by_cases hq : q = 0
             · have := a5 hq; omega
             · have := a1 hq; omega, ?_⟩
  have e := Xcg (l := blk n l (q - 1)) (w := w) (r := r - (q - 1) * n) (fun k hk => by
      have hk2 : k < n := by by_cases hq : q = 0
                             · have := a4 hq; omega
                             · have := a3 hq; omega
      rw [Xgv hk2]; exact h2 _ (by omega)) (blk n l (q - 1)).length (by
      rw [Xdt]
      by_cases hq : q = 0
      · have := a4 hq; omega
      · have := a3 hq; omega) (fun k hk hk2 => by
      rw [Xdt] at hk2
      rw [Xgv (by omega)]; exact h3 _ (by omega) (by omega))
  rw [e]
  by_cases hq : q = 0
  · have := a4 hq; have := a5 hq; omega
  · have := a1 hq; omega
def pos (L : List (List ByteArray)) (w : ByteArray) (m : Nat) : Nat := if L.length ≤ m then 0 else lastN (gl L m) w (gl L m).length
def trl (L : List (List ByteArray)) (w : ByteArray) : Nat → List Int
  | 0 => []
  | m + 1 => (pos L w (m + 1) : Int) :: trl L w m
theorem Xhf (L : List (List ByteArray)) (w : ByteArray) : ∀ m, (trl L w m).length = m
  | 0 => rfl
  | m + 1 => by simp [trl, Xhf L w m]
structure Twr (n : Nat) (L : List (List ByteArray)) : Prop where
  n2 : 2 ≤ n
  n8 : n ≤ 8
  len : 1 ≤ L.length ∧ L.length ≤ 300
  step : ∀ i, i + 1 < L.length → n < (gl L i).length ∧ gl L (i + 1) = up n (gl L i)
  top : (gl L (L.length - 1)).length ≤ n
  asc : ∀ i, i < L.length → AscP (gl L i) ∧ 1 ≤ (gl L i).length ∧ (gl L i).length ≤ 256
theorem Xo4 {n : Nat} (hn : 2 ≤ n) {x : Int} (hx : x ≤ 256) : st n x ≤ 256 := (Xov (b := n) (n := x) (by omega) hx 256 (by omega)).2 (by
  have e : ∀ j : Nat, (2 : Int) ^ j ≤ (n : Int) ^ j := fun j => by
    induction j with
    | zero => simp
    | succ j ih =>
      rw [Int.pow_succ, Int.pow_succ]
      have p1 : 0 < (2 : Int) ^ j := Int.pow_pos (by omega)
      exact Int.mul_le_mul ih (by omega) (by omega) (by omega)
  have := e 256
  have : (256 : Int) ≤ 2 ^ 256 := by decide
  omega)
theorem twr {n : Nat} (hn : 2 ≤ n ∧ n ≤ 8) {l : List ByteArray} (hl : 1 ≤ l.length ∧ l.length ≤ 256) (h : AscP l) : Twr n (tow n l) :=
  ⟨hn.1, hn.2, by rw [Xmy hn.1]; have := Xo4 hn.1 (x := l.length) (by omega); have := Xo1 n l.length; omega, (Xhv hn.1 256 l hl.2).1, (Xhv hn.1 256 l hl.2).2, Xjo hn.1 hl h⟩
theorem Xhw {n : Nat} {L : List (List ByteArray)} (h : Twr n L) (w : ByteArray) {m : Nat} (hm : m < L.length) : pos L w (m + 1) * n < (gl L m).length ∧ pos L w (m + 1) * n + lastN (blk n (gl L m) (pos L w (m + 1))) w (blk n (gl L m) (pos L w (m + 1))).length = pos L w m ∧ pos L w (m + 1) ≤ 256 := by
  have ha := h.asc m hm
  unfold pos
  rw [if_neg (by omega : ¬ L.length ≤ m)]
  by_cases h1 : L.length ≤ m + 1
  · rw [if_pos h1]
    have ht := h.top
    rw [show L.length - 1 = m by omega] at ht
    rw [Xn0 ht, Nat.zero_mul]
    exact ⟨by omega, by omega, by omega⟩
  · rw [if_neg h1, (h.step m (by omega)).2]
    obtain ⟨b1, b2⟩ := Xo3 (by have := h.n2; omega : 1 ≤ n) ha.1 ha.2.1 w
    refine ⟨b1, b2, ?_⟩
    have hn := h.n2
    have := Nat.mul_le_mul_left (lastN (up n (gl L m)) w (up n (gl L m)).length) hn
    omega
theorem Xhx {n : Nat} {L : List (List ByteArray)} (h : Twr n L) (w : ByteArray) (m : Nat) : pos L w m ≤ 256 := by
  unfold pos
  split
  · omega
  · have ha := h.asc m (by omega)
    have := Xd2 (gl L m) w _ ha.2.1
    omega
def bk (L : List (List ByteArray)) : Nat → List (Int × List ByteArray)
  | 0 => []
  | m + 1 => ((m : Int), gl L m) :: bk L m
theorem Xo5 (L : List (List ByteArray)) (hL : L.length ≤ 100000) : ∀ (f m : Nat), m ≤ L.length → m < f → Xe L f ((m : Int) - 1) = some (bk L m)
  | 0, m, _, h => by omega
  | f + 1, m, h1, h2 => by
    show Xk L (Xe L f) _ = _
    unfold Xk
    cases m with
    | zero => rw [if_neg (by omega)]; rfl
    | succ m =>
      rw [if_pos (by omega), show (((m + 1 : Nat) : Int) - 1) = (m : Int) by omega, X26 [] (by omega)]
      simp only [Option.bind_some]
      rw [w64_id (by omega) (by omega), Xo5 L hL f m (by omega) (by omega)]
      rfl
theorem Xn1 (L : List (List ByteArray)) (hL : L.length ≤ 100000) : X13 L = some (bk L L.length) := by
  unfold X13 X1b
  rw [w64_id (by omega) (by omega), Xo5 L hL big L.length (Nat.le_refl _) (by simp only [big]; omega)]; rfl
theorem Xjq {n : Nat} {L : List (List ByteArray)} (h : Twr n L) (w : ByteArray) (kx : List Int → Int → Option ((List Int) × Int × Bool × Int)) : ∀ (m : Nat) (acc : List Int), m ≤ L.length → acc.length + m ≤ 1000 →
    X3q kx (n : Int) w (bk L m) acc (pos L w m : Int) = kx (acc ++ trl L w m) (pos L w 0 : Int)
  | 0, acc, _, _ => by simp [bk, trl, X3q]
  | m + 1, acc, h1, h2 => by
    show X7e kx (n : Int) w (X3q kx (n : Int) w (bk L m)) ((m : Int), gl L m) acc _ = _
    unfold X7e X96
    obtain ⟨p1, p2, p3⟩ := Xhw h w (by omega : m < L.length)
    have ha := h.asc m (by omega)
    have hn8 := h.n8
    rw [Xs (by simp; omega)]
    dsimp only
    rw [Xjp hn8 (by omega) (by omega) (by omega)]
    simp only [Option.bind_some]
    rw [Xmx (by rw [Xdt]; omega) (Xmz ha.1 _)]
    simp only [Option.bind_some]
    have e1 : (pos L w (m + 1) : Int) * (n : Int) = ((pos L w (m + 1) * n : Nat) : Int) := by simp
    have e2 := Xhx h w m
    rw [e1, w64_id (x := ((pos L w (m + 1) * n : Nat) : Int)) (by omega) (by omega), w64_id (by omega) (by omega), show ((pos L w (m + 1) * n : Nat) : Int) + (lastN (blk n (gl L m) (pos L w (m + 1))) w (blk n (gl L m) (pos L w (m + 1))).length : Int) = (pos L w m : Int) by omega]
    rw [Xjq h w kx m _ (by omega) (by simp; omega)]
    simp [trl]
def probeI (f : Int × List ByteArray) (w : ByteArray) : List Int × Int × Bool × Int :=
  if ¬ FenP f then ([], 0, false, 2) else if ¬ KeyP w then ([], 0, false, 1)
  else (trl (tow f.1.toNat f.2) w (tow f.1.toNat f.2).length, lastN f.2 w f.2.length, decide (gd f.2 (lastN f.2 w f.2.length) = w), 0)
theorem Xd3 {f : Int × List ByteArray} {w : ByteArray} (h : ¬ FenP f) : probeI f w = ([], 0, false, 2) := by unfold probeI; rw [if_pos h]
theorem Xd4 {f : Int × List ByteArray} {w : ByteArray} (h : FenP f) (h2 : ¬ KeyP w) : probeI f w = ([], 0, false, 1) := by unfold probeI; rw [if_neg (fun h3 => h3 h), if_pos h2]
theorem Xd5 {f : Int × List ByteArray} {w : ByteArray} (h : FenP f) (h2 : KeyP w) : probeI f w = (trl (tow f.1.toNat f.2) w (tow f.1.toNat f.2).length, (lastN f.2 w f.2.length : Int), decide (gd f.2 (lastN f.2 w f.2.length) = w), 0) := by unfold probeI; rw [if_neg (fun h3 => h3 h), if_neg (fun h3 => h3 h2)]
theorem Xo6 (n : Nat) (l : List ByteArray) (w : ByteArray) : pos (tow n l) w 0 = lastN l w l.length := by
  unfold pos; rw [if_neg (by unfold tow; simp)]; rfl
theorem Xjr (L : List (List ByteArray)) (w : ByteArray) : pos L w L.length = 0 := by unfold pos; rw [if_pos (Nat.le_refl _)]
theorem Xdu (f : Int × List ByteArray) (w : ByteArray) : X9u f w = some (probeI f w) := by
  unfold X9u
  rw [Xhr, Xgt]
  simp only [Option.bind_some]
  by_cases hf : FenP f
  · rw [if_pos hf, if_neg (show ¬ ((0 : Int) ≠ 0) by decide)]
    by_cases hk : KeyP w
    · rw [if_neg (nb_t hk), Xd5 hf hk]
      have hb := hf.1
      obtain ⟨b, l⟩ := f
      dsimp only at hb ⊢
      obtain ⟨n, rfl⟩ : ∃ n : Nat, b = n := ⟨b.toNat, by omega⟩
      rw [Int.toNat_natCast, Xgu (by omega) hb.2.2]
      simp only [Option.bind_some]
      have T := twr (n := n) (by omega) hb.2 hf.2
      rw [show l :: lvs n 256 l = tow n l from rfl, Xn1 _ (by have := T.len; omega)]
      simp only [Option.bind_some]
      have hP := Xjq T w (X3p w l) (tow n l).length [] (Nat.le_refl _) (by have := T.len; simp; omega)
      rw [Xjr, Xo6] at hP
      rw [show (0 : Int) = ((0 : Nat) : Int) from rfl, hP]
      unfold X3p
      have := Xd2 l w _ hb.2.1
      rw [X26 .empty (by omega)]
      rfl
    · rw [if_pos (nb_f hk), Xd4 hf hk]
  · rw [if_neg hf, if_pos (show (2 : Int) ≠ 0 by decide), Xd3 hf]
end Go.Proofs.YtmfppphlhgneeaaGreat
end

section
namespace Go.Proofs.YtmfppphlhgneeaaGreat
theorem Xo7 {n : Nat} (hn : 2 ≤ n ∧ n ≤ 8) (kx : List ByteArray → Int → Option ((List (List ByteArray)) × Int)) {l : List ByteArray} (hl : l.length ≤ 1000) : ∀ (f k : Nat) (acc : List ByteArray), k ≤ chN l.length n → chN l.length n - k < f → acc.length + (chN l.length n - k) ≤ 10000 →
    X52 kx l (n : Int) f acc ((k * n : Nat) : Int) = kx (acc ++ (List.range (chN l.length n - k)).map fun t => gd l ((k + t) * n)) n
  | 0, k, _, _, h, _ => by omega
  | f + 1, k, acc, h1, h2, h3 => by
    show X6m kx l (n : Int) (X52 kx l (n : Int) f) acc _ = _
    unfold X6m
    have hi := Xaa (L := l.length) (k := k) (n := n) (by omega)
    split
    · have hk : k < chN l.length n := hi.2 (by omega)
      rw [X26 .empty (by omega)]
      simp only [Option.bind_some]
      rw [Xs (by simp; omega)]
      simp only [Option.bind_some]
      have e2 : ((k * n : Nat) : Int) + (n : Int) = (((k + 1) * n : Nat) : Int) := by rw [Nat.add_mul]; omega
      rw [w64_id (by omega) (by omega), e2, Xo7 hn kx hl f (k + 1) _ (by omega) (by omega) (by simp; omega), Xep (fun t => gd l (t * n)) hk]
      simp
    · have hk : ¬ k < chN l.length n := fun h => by have := hi.1 h; omega
      rw [show chN l.length n - k = 0 by omega]; simp
theorem Xgw {n : Nat} (hn : 2 ≤ n ∧ n ≤ 8) : ∀ (f k : Nat) (l : List ByteArray) (acc : List (List ByteArray)), l.length ≤ k → l.length < f → acc.length + l.length ≤ 1000 →
    X1j f l acc (n : Int) = some (acc ++ lvs n k l, 0)
  | 0, k, l, acc, h1, h2, h3 => by omega
  | f + 1, k, l, acc, h1, h2, h3 => by
    show X6n (X1j f) l acc (n : Int) = _
    unfold X6n
    split
    · rename_i h
      cases k with
      | zero => omega
      | succ k =>
        have hc := Xhs hn.1 (by omega : n < l.length)
        have := Xo7 hn (X2z (X1j f) acc) (l := l) (by omega) big 0 [] (by omega) (by simp only [big]; omega) (by simp; omega)
        rw [Nat.zero_mul] at this
        rw [show (0 : Int) = ((0 : Nat) : Int) from rfl, this]
        unfold X2z
        simp only [List.nil_append, Nat.sub_zero, Nat.zero_add]
        rw [show ((List.range (chN l.length n)).map fun t => gd l (t * n)) = up n l from rfl, Xs (by simp; omega)]
        simp only [Option.bind_some]
        rw [Xgw hn f k (up n l) (acc ++ [up n l]) (by rw [Xb5]; omega) (by rw [Xb5]; omega) (by simp [Xb5]; omega)]
        simp only [lvs]
        rw [if_neg (by omega)]
        simp
    · cases k with
      | zero => simp [lvs]
      | succ k => simp only [lvs]; rw [if_pos (by omega)]; simp
theorem Xcm (f : Int × List ByteArray) : X7m f = some (levelsI f) := by
  unfold X7m levelsI
  rw [Xjh]
  simp only [Option.bind_some]
  by_cases hf : FenP f
  · rw [if_pos hf, if_neg (show ¬ ((0 : Int) ≠ 0) by decide), if_pos hf]
    have hb := hf.1
    rw [Xs (by simp; omega)]
    simp only [Option.bind_some, List.nil_append]
    have := Xgw (n := f.1.toNat) (by omega) big 256 f.2 [f.2] hb.2.2 (by simp only [big]; omega) (by simp; omega)
    rw [show ((f.1.toNat : Nat) : Int) = f.1 by omega] at this
    rw [this]; rfl
  · rw [if_neg hf, if_pos (show (2 : Int) ≠ 0 by decide), if_neg hf]
theorem Xhy {n : Nat} {L : List (List ByteArray)} (h : Twr n L) (w : ByteArray) (kx : List Int → Int → Int → Option ((List Int) × Int × Bool × Int)) : ∀ (f m : Nat) (acc : List Int), m ≤ L.length → acc.length + m ≤ 1000 → m < f →
    X5z kx w (n : Int) L f acc (pos L w m : Int) ((m : Int) - 1) = kx (acc ++ trl L w m) (pos L w 0 : Int) n
  | 0, m, _, _, _, h => by omega
  | f + 1, m, acc, h1, h2, h3 => by
    show X7g kx w (n : Int) L (X5z kx w (n : Int) L f) acc _ _ = _
    unfold X7g
    cases m with
    | zero => rw [if_neg (by omega)]; simp [trl]
    | succ m =>
      obtain ⟨p1, p2, p3⟩ := Xhw h w (by omega : m < L.length)
      have ha := h.asc m (by omega)
      have hn8 := h.n8
      rw [if_pos (by omega), Xs (by simp; omega), show (((m + 1 : Nat) : Int) - 1) = (m : Int) by omega, X26 [] (by omega)]
      simp only [Option.bind_some]
      rw [Xlf (l := gl L m) hn8 (by omega) (by omega) (by omega)]
      simp only [Option.bind_some]
      rw [Xld]
      simp only [Option.bind_some]
      have e1 : (pos L w (m + 1) : Int) * (n : Int) = ((pos L w (m + 1) * n : Nat) : Int) := by simp
      have e2 := Xhx h w m
      rw [e1, w64_id (x := ((pos L w (m + 1) * n : Nat) : Int)) (by omega) (by omega), w64_id (x := ((pos L w (m + 1) * n : Nat) : Int) + _) (by omega) (by omega), show ((pos L w (m + 1) * n : Nat) : Int) + (lastN (blk n (gl L m) (pos L w (m + 1))) w (blk n (gl L m) (pos L w (m + 1))).length : Int) = (pos L w m : Int) by omega]
      rw [w64_id (by omega) (by omega), Xhy h w kx f m _ (by omega) (by simp; omega) (by omega)]
      simp [trl]
theorem Xdv (f : Int × List ByteArray) (w : ByteArray) : X9v f w = some (probeI f w) := by
  unfold X9v
  rw [Xcm, Xds]
  simp only [Option.bind_some, levelsI]
  by_cases hf : FenP f
  · rw [if_pos hf, if_neg (fun h => h rfl)]
    by_cases hk : KeyP w
    · rw [if_neg (nb_t hk), Xd5 hf hk]
      have hb := hf.1
      obtain ⟨b, l⟩ := f
      dsimp only at hb ⊢
      obtain ⟨n, rfl⟩ : ∃ n : Nat, b = n := ⟨b.toNat, by omega⟩
      rw [Int.toNat_natCast]
      have T := twr (n := n) (by omega) hb.2 hf.2
      have hL := T.len
      have hP := Xhy T w (X3r w l) big (tow n l).length [] (Nat.le_refl _) (by simp; omega) (by simp only [big]; omega)
      rw [Xjr, Xo6] at hP
      rw [w64_id (by omega) (by omega), show (0 : Int) = ((0 : Nat) : Int) from rfl, hP]
      unfold X3r
      have := Xd2 l w _ hb.2.1
      rw [X26 .empty (by omega)]
      rfl
    · rw [if_pos (nb_f hk), Xd4 hf hk]
  · rw [if_neg hf, if_pos (show (2 : Int) ≠ 0 by decide), Xd3 hf]
end Go.Proofs.YtmfppphlhgneeaaGreat
end

section
namespace Go.Proofs.YtmfppphlhgneeaaGreat
set_option linter.unusedVariables false
def DiceOK (d : List Int × Int) : Prop := 0 ≤ d.2 ∧ d.2 ≤ 1000 ∧ d.1.length ≤ 300 ∧ ∀ x ∈ d.1, 0 ≤ x ∧ x ≤ 255
theorem dpick {d : List Int × Int} (hd : DiceOK d) {n : Int} (hn : 1 ≤ n) : ∃ v e, Xp d n = some (v, e) ∧ 0 ≤ v ∧ v < n ∧ DiceOK e := by
  obtain ⟨h1, h2, h3, h4⟩ := hd
  unfold Xp
  by_cases hl : (d.1.length : Int) ≤ d.2
  · rw [if_pos hl]; exact ⟨0, d, rfl, by omega, by omega, h1, h2, h3, h4⟩
  · rw [if_neg hl, w64_id (x := d.2 + 1) (by omega) (by omega), show d.2 + 1 - 1 = d.2 from by omega, w64_id (x := d.2) (by omega) (by omega), X60 0 h1 (by omega), Option.bind_some, Xmw (by omega), Option.bind_some]
    generalize hx : d.1.getD d.2.toNat 0 = x
    have hm : x ∈ d.1 := by
      rw [← hx, List.getD_eq_getElem?_getD, List.getElem?_eq_getElem (by omega)]
      exact List.getElem_mem _
    have hxr := h4 x hm
    rw [w64_id (x := x) (by omega) (by omega)]
    exact ⟨_, _, rfl, Int.tmod_nonneg _ (by omega), Int.tmod_lt_of_pos _ (by omega), by dsimp only; omega, by dsimp only; omega, h3, h4⟩
theorem dnew {t : List Int} (ht : ∀ x ∈ t, 0 ≤ x ∧ x ≤ 255) : ∃ d, Xcb t = some d ∧ DiceOK d := by
  unfold Xcb X9m
  by_cases hl : 300 < (t.length : Int)
  · rw [if_pos hl, Xa9 (by omega) (by omega) (by omega), Option.bind_some]
    refine ⟨_, rfl, by dsimp only; omega, by dsimp only; omega, ?_, fun x hx => ht x ?_⟩
    · simp; omega
    · simp only [Int.toNat_zero, List.drop_zero] at hx
      exact List.mem_of_mem_take hx
  · rw [if_neg hl]
    exact ⟨_, rfl, by dsimp only; omega, by dsimp only; omega, by dsimp only; omega, ht⟩
end Go.Proofs.YtmfppphlhgneeaaGreat
end

section
namespace Go.Proofs.YtmfppphlhgneeaaGreat
set_option linter.unusedVariables false
set_option maxRecDepth 100000
theorem Xbi {α : Type} {n : Int} {z : α} (h0 : 0 ≤ n) (h1 : n ≤ 16777216) : lmk n z = some (List.replicate n.toNat z) := by unfold lmk; rw [if_pos ⟨h0, h1⟩]
theorem sane35 : Xbm = some true := by kernel_rfl
def kys : Nat → List ByteArray
  | 0 => []
  | i + 1 => kys i ++ [(ofB ([(wu8 (97 + (wu8 (w64 (2 * (i : Int))))))] : List Int))]
theorem Xcn : ∀ n, (kys n).length = n
  | 0 => rfl
  | n + 1 => by simp [kys, Xcn n]
theorem Xlg : ((List.range 13).all fun n => (X6f (kys n)) == some true) = true := by kernel_rfl
theorem Xn2 {n : Nat} (hn : n ≤ 12) : AscP (kys n) := by
  have h := List.all_eq_true.1 Xlg n (List.mem_range.2 (by omega))
  rw [Xcf (by rw [Xcn]; omega)] at h
  have h2 : decide (AscP (kys n)) = true := by simpa using h
  exact of_decide_eq_true h2
theorem Xm2 (z : Int) : ∀ (m fuel : Nat) (d : List Int × Int) (i : Nat), i + m = 12 → m < fuel → DiceOK d →
    ∃ n e, X5x X4o z fuel (i : Int) (kys i) d.1 d.2 = some ((z, kys n), e) ∧ i ≤ n ∧ n ≤ 12 ∧ (i = 0 → 1 ≤ n) ∧ DiceOK e
  | m, 0, _, _, _, h, _ => by omega
  | m, fuel + 1, d, i, hi, hf, hd => by
    rw [X5x]
    unfold X8q
    obtain ⟨v, e1, h1, a1, b1, c1⟩ := dpick (d := (d.1, d.2)) hd (n := 12) (by omega)
    rw [h1, Option.bind_some]
    dsimp only
    rw [w64_id (x := 1 + v) (by omega) (by omega)]
    split
    · rename_i hlt
      rw [Xs (by simp [Xcn]; omega), Option.bind_some, w64_id (x := (i : Int) + 1) (by omega) (by omega)]
      cases m with
      | zero => omega
      | succ m =>
        obtain ⟨n, e, k1, k2, k3, k4, k5⟩ := Xm2 z m fuel e1 (i + 1) (by omega) (by omega) c1
        exact ⟨n, e, k1, by omega, k3, fun _ => by omega, k5⟩
    · rename_i hlt
      exact ⟨i, e1, rfl, by omega, by omega, fun h => by omega, c1⟩
theorem dfen {d : List Int × Int} (hd : DiceOK d) : ∃ f e, X9s d = some (f, e) ∧ FenP f ∧ f.2.length ≤ 12 ∧ DiceOK e := by
  unfold X9s
  obtain ⟨v, e1, h1, a1, b1, c1⟩ := dpick hd (n := 3) (by omega)
  rw [h1, Option.bind_some]
  dsimp only
  rw [w64_id (x := 2 + v) (by omega) (by omega)]
  obtain ⟨n, e, k1, k2, k3, k4, k5⟩ := Xm2 (2 + v) 12 big e1 0 rfl (by simp only [big]; omega) c1
  have h0 := k4 rfl
  refine ⟨_, e, k1, ⟨⟨by dsimp only; omega, by dsimp only; rw [Xcn]; omega, by dsimp only; rw [Xcn]; omega⟩, Xn2 k3⟩, by dsimp only; rw [Xcn]; omega, k5⟩
def sN (n : Nat) : List (List ByteArray) → Nat
  | [] => 0
  | x :: xs => chN x.length n + sN n xs
theorem Xjs {n : Nat} {L : List (List ByteArray)} {i : Nat} (h : i < L.length) : sN n (L.drop i) = chN (gl L i).length n + sN n (L.drop (i + 1)) := by
  rw [List.drop_eq_getElem_cons h]
  show chN _ n + _ = _
  rw [show gl L i = L[i] by unfold gl; rw [List.getD_eq_getElem?_getD, List.getElem?_eq_getElem h]; rfl]
theorem Xo8 {n : Nat} (hn : 1 ≤ n) : ∀ (L : List (List ByteArray)), (∀ x ∈ L, x.length ≤ 256) → sN n L ≤ 256 * L.length
  | [], _ => by simp [sN]
  | x :: xs, h => by
    have h1 := Xo8 hn xs fun y hy => h y (List.mem_cons_of_mem _ hy)
    have h2 := h x List.mem_cons_self
    have h3 := Xm0 (L := x.length) hn
    simp only [sN, List.length_cons]
    omega
theorem Xo9 {L : List (List ByteArray)} {x : List ByteArray} (h : x ∈ L) : ∃ i, i < L.length ∧ gl L i = x := by
  obtain ⟨i, h1, h2⟩ := List.mem_iff_getElem.1 h
  exact ⟨i, h1, by unfold gl; rw [List.getD_eq_getElem?_getD, List.getElem?_eq_getElem h1]; exact h2⟩
theorem Xer {n : Nat} {L : List (List ByteArray)} (h : Twr n L) (i : Nat) : sN n (L.drop i) ≤ 76800 := by
  have h1 := Xo8 (n := n) (by have := h.n2; omega) (L.drop i) fun x hx => by
    obtain ⟨j, h1, h2⟩ := Xo9 (List.mem_of_mem_drop hx)
    rw [← h2]
    exact (h.asc j h1).2.2
  have h2 := h.len
  rw [List.length_drop] at h1
  omega
theorem Xjt {n : Nat} {L : List (List ByteArray)} (h : Twr n L) : ∀ (m fuel : Nat) (v : List Int), m ≤ L.length → m < fuel → v.length = L.length → (∀ i, m ≤ i → i < L.length → v.getD i 0 = sN n (L.drop (i + 1))) →
    ∃ r, X36 L (n : Int) fuel (sN n (L.drop m) : Int) ((m : Int) - 1) v = some r ∧ r.length = L.length ∧ ∀ i, i < L.length → r.getD i 0 = sN n (L.drop (i + 1))
  | m, 0, _, _, h, _, _ => by omega
  | 0, fuel + 1, v, hm, hf, hv, hg => by
    rw [X36]
    unfold X5r
    rw [if_neg (by omega)]
    exact ⟨v, rfl, hv, fun i hi => hg i (by omega) hi⟩
  | m + 1, fuel + 1, v, hm, hf, hv, hg => by
    rw [X36]
    unfold X5r
    have h2 := h.n2
    have h8 := h.n8
    have hl := h.len
    have ha := h.asc m (by omega)
    have hs := Xer h m
    have hs' := Xer h (m + 1)
    have hd := Xjs (n := n) (L := L) (i := m) (by omega)
    rw [show ((m + 1 : Nat) : Int) - 1 = (m : Int) from by omega, if_pos (by omega), X26 0 (by omega), Option.bind_some, X1s (by omega) (by omega), Option.bind_some, X26 [] (by omega), Option.bind_some, Xmv (by omega), Option.bind_some]
    rw [show L.getD m [] = gl L m from rfl, w64_ceil (by omega) (by omega) (by omega) (by omega)]
    have hc : ((gl L m).length + (n : Int) - 1) / (n : Int) = (chN (gl L m).length n : Int) := by
      rcases Xfq (L := (gl L m).length) (n := n) with h3 | h3
      · exact h3.symm
      · omega
    rw [hc, w64_id (x := (m : Int) - 1) (by omega) (by omega), w64_id (by omega) (by omega), show ((sN n (L.drop (m + 1)) : Nat) : Int) + (chN (gl L m).length n : Int) = (sN n (L.drop m) : Int) from by omega]
    refine Xjt h m fuel _ (by omega) (by omega) (by simp [hv]) fun i h3 h4 => ?_
    rw [Int.toNat_natCast, List.getD_eq_getElem?_getD, List.getElem?_set]
    by_cases he : m = i
    · subst he; rw [if_pos rfl, if_pos (by omega)]; rfl
    · rw [if_neg he, ← List.getD_eq_getElem?_getD]
      exact hg i (by omega) h4
theorem firsts35 {n : Nat} {L : List (List ByteArray)} (h : Twr n L) : ∃ r, X7v L (n : Int) = some r ∧ r.length = L.length ∧ ∀ i, i < L.length → r.getD i 0 = sN n (L.drop (i + 1)) := by
  unfold X7v
  have hl := h.len
  rw [Xbi (by omega) (by omega), Option.bind_some, w64_id (by omega) (by omega)]
  have e : (0 : Int) = ((sN n (L.drop L.length) : Nat) : Int) := by rw [List.drop_length]; rfl
  have := Xjt h L.length big (List.replicate (L.length : Int).toNat 0) (Nat.le_refl _) (by simp only [big]; omega) (by simp) (fun i h1 h2 => by omega)
  rw [← e] at this
  exact this
theorem Xoa : ∀ (m fuel : Nat) (v : List Int) (i : Nat) (j : Int), j + 1 - i ≤ m → m < fuel → v.length ≤ 100000 → (i : Int) + j + 1 = v.length → 
    ∃ r, X1c fuel (i : Int) j v = some r ∧ r.length = v.length ∧ ∀ k, k < v.length → r.getD k 0 = if i ≤ k ∧ (k : Int) ≤ j then v.getD (v.length - 1 - k) 0 else v.getD k 0
  | m, 0, _, _, _, _, h, _, _ => by omega
  | m, fuel + 1, v, i, j, hm, hf, hv, hij => by
    rw [X1c]
    unfold X2s
    split
    · rename_i hlt
      obtain ⟨q, rfl⟩ : ∃ q : Nat, j = (q : Int) := ⟨j.toNat, by omega⟩
      rw [X26 0 (by omega), Option.bind_some, X26 0 (by omega), Option.bind_some, Option.bind_some, X1s (by omega) (by omega), Option.bind_some, X26 0 (by simp; omega), Option.bind_some, X1s (by omega) (by simp; omega), Option.bind_some, w64_id (by omega) (by omega), w64_id (by omega) (by omega), Int.toNat_natCast, Int.toNat_natCast]
      have e1 : (i : Int) + 1 = ((i + 1 : Nat) : Int) := by omega
      rw [e1]
      cases m with
      | zero => omega
      | succ m =>
      obtain ⟨r, h1, h2, h3⟩ := Xoa m fuel ((v.set i (v.getD q 0)).set q (v.getD i 0)) (i + 1) ((q : Int) - 1) (by omega) (by omega) (by simp; omega) (by simp; omega)
      refine ⟨r, h1, by rw [h2]; simp, fun k hk => ?_⟩
      rw [h3 k (by simpa using hk)]
      have hset : ∀ t, t < v.length → ((v.set i (v.getD q 0)).set q (v.getD i 0)).getD t 0 = if t = q then v.getD i 0 else if t = i then v.getD q 0 else v.getD t 0 := fun t ht => by
        rw [List.getD_eq_getElem?_getD (l := (v.set i (v.getD q 0)).set q (v.getD i 0)), List.getElem?_set]
        by_cases h4 : q = t
        · rw [if_pos h4, if_pos (by rw [List.length_set]; omega), if_pos h4.symm]; rfl
        · have h4' : ¬ t = q := fun h => h4 h.symm
          rw [if_neg h4, List.getElem?_set, if_neg h4']
          by_cases h5 : i = t
          · rw [if_pos h5, if_pos (by omega), if_pos h5.symm]; rfl
          · have h5' : ¬ t = i := fun h => h5 h.symm
            rw [if_neg h5, if_neg h5', ← List.getD_eq_getElem?_getD]
      simp only [List.length_set]
      by_cases c1 : i + 1 ≤ k ∧ (k : Int) ≤ (q : Int) - 1
      · rw [if_pos c1, if_pos (by omega), hset _ (by omega), if_neg (by omega), if_neg (by omega)]
      · rw [if_neg c1, hset _ hk]
        by_cases c2 : k = q
        · rw [if_pos c2, if_pos (by omega), show v.length - 1 - k = i by omega]
        · rw [if_neg c2]
          by_cases c3 : k = i
          · rw [if_pos c3, if_pos (by omega), show v.length - 1 - k = q by omega]
          · rw [if_neg c3, if_neg (by omega)]
    · rename_i hlt
      refine ⟨v, rfl, rfl, fun k hk => ?_⟩
      split
      · rename_i h
        rw [show v.length - 1 - k = k by omega]
      · rfl
theorem rev35 {v : List Int} (hv : v.length ≤ 100000) : ∃ r, X2n v = some r ∧ r.length = v.length ∧ ∀ k, k < v.length → r.getD k 0 = v.getD (v.length - 1 - k) 0 := by
  unfold X2n
  rw [w64_id (by omega) (by omega)]
  obtain ⟨r, h1, h2, h3⟩ := Xoa v.length big v 0 ((v.length : Int) - 1) (by omega) (by simp only [big]; omega) hv (by omega)
  exact ⟨r, h1, h2, fun k hk => by rw [h3 k hk, if_pos (by omega)]⟩
abbrev tw (f : Int × List ByteArray) : List (List ByteArray) := tow f.1.toNat f.2
theorem twF {f : Int × List ByteArray} (h : FenP f) : Twr f.1.toNat (tw f) := by
  have hb := h.1
  exact twr (by omega) hb.2 h.2
theorem Xju {f : Int × List ByteArray} (h : FenP f) : ∃ r, X3x f = some (r, 0) ∧ r.length = (tw f).length ∧ ∀ k, k < (tw f).length → r.getD k 0 = sN f.1.toNat ((tw f).drop ((tw f).length - k)) := by
  unfold X3x
  have hT := twF h
  have hb := h.1
  rw [Xeq, Option.bind_some, show levelsI f = (tw f, 0) by unfold levelsI; rw [if_pos h]]
  dsimp only
  rw [if_neg (by omega)]
  obtain ⟨r, h1, h2, h3⟩ := firsts35 hT
  rw [show ((f.1.toNat : Nat) : Int) = f.1 by omega] at h1
  have hl := hT.len
  obtain ⟨q, k1, k2, k3⟩ := rev35 (v := r) (by omega)
  rw [h1, Option.bind_some, k1, Option.bind_some]
  refine ⟨q, rfl, by omega, fun k hk => ?_⟩
  rw [k3 k (by omega), h3 _ (by omega), show r.length - 1 - k + 1 = (tw f).length - k by omega]
theorem Xlh {f : Int × List ByteArray} (h : ¬ FenP f) : X3x f = some ([], 2) := by
  unfold X3x
  rw [Xeq, Option.bind_some, show levelsI f = ([], 2) by unfold levelsI; rw [if_neg h]]
  dsimp only
  rw [if_pos (by omega)]
theorem Xdw (L : List (List ByteArray)) (w : ByteArray) : ∀ (m k : Nat), k < m → (trl L w m).getD k 0 = pos L w (m - k)
  | 0, k, h => by omega
  | m + 1, 0, _ => rfl
  | m + 1, k + 1, h => by
    show (trl L w m).getD k 0 = _
    rw [Xdw L w m k (by omega), show m + 1 - (k + 1) = m - k by omega]
theorem Xm3 (z1 : Int) (z2 : Bool) (a c : List Int) (hl : a.length = c.length) (hx : ∀ k, k < a.length → 0 ≤ a.getD k 0 ∧ a.getD k 0 ≤ 1000000 ∧ 0 ≤ c.getD k 0 ∧ c.getD k 0 ≤ 1000000) : ∀ (xs : List Int) (i : Nat) (v : List Int), c.drop i = xs → v.length = c.length → i ≤ c.length → (∀ k, k < c.length → v.getD k 0 = if k < i then c.getD k 0 + a.getD k 0 else c.getD k 0) →
    ∃ r, X4p z1 z2 a xs i v = some (r, z1, z2, 0) ∧ r.length = c.length ∧ ∀ k, k < c.length → r.getD k 0 = c.getD k 0 + a.getD k 0
  | [], i, v, hd, hv, hi, hg => by
    have : c.length ≤ i := List.drop_eq_nil_iff.1 hd
    exact ⟨v, rfl, hv, fun k hk => by rw [hg k hk, if_pos (by omega)]⟩
  | x :: xs, i, v, hd, hv, hi, hg => by
    have hlt : i < c.length := by
      rcases Nat.lt_or_ge i c.length with h | h
      · exact h
      · rw [List.drop_eq_nil_iff.2 h] at hd; cases hd
    show ∃ r, X7f z1 z2 a (X4p z1 z2 a xs (i + 1)) x i v = _ ∧ _
    unfold X7f
    have hb := hx i (by omega)
    rw [X26 0 (by omega), Option.bind_some, X26 0 (by omega), Option.bind_some, Option.bind_some, X1s (by omega) (by omega), Option.bind_some, Int.toNat_natCast, hg i hlt, if_neg (by omega), w64_id (by omega) (by omega)]
    refine Xm3 z1 z2 a c hl hx xs (i + 1) _ (by rw [← List.drop_drop, hd]; rfl) (by simp [hv]) (by omega) fun k hk => ?_
    rw [List.getD_eq_getElem?_getD, List.getElem?_set]
    by_cases h4 : i = k
    · subst h4; rw [if_pos rfl, if_pos (by omega), if_pos (by omega)]; rfl
    · rw [if_neg h4, ← List.getD_eq_getElem?_getD, hg k hk]
      by_cases h5 : k < i
      · rw [if_pos h5, if_pos (by omega)]
      · rw [if_neg h5, if_neg (by omega)]
theorem Xn3 {f : Int × List ByteArray} (h : FenP f) {w : ByteArray} (hw : KeyP w) :
    ∃ r, X6o f w = some (r, (lastN f.2 w f.2.length : Int), decide (gd f.2 (lastN f.2 w f.2.length) = w), 0) ∧ r.length = (tw f).length ∧
      ∀ k, k < (tw f).length → r.getD k 0 = (pos (tw f) w ((tw f).length - k) : Int) + sN f.1.toNat ((tw f).drop ((tw f).length - k)) := by
  unfold X6o
  have hT := twF h
  have hl := hT.len
  rw [Xdu, Option.bind_some, Xd5 h hw]
  dsimp only
  rw [if_neg (by omega)]
  obtain ⟨r, h1, h2, h3⟩ := Xju h
  rw [h1, Option.bind_some]
  dsimp only
  rw [if_neg (by omega)]
  have h4 : (trl (tw f) w (tw f).length).length = (tw f).length := Xhf ..
  unfold X2i
  rw [Xs (by rw [List.length_nil, h4]; omega), Option.bind_some, Option.bind_some, List.nil_append]
  obtain ⟨q, k1, k2, k3⟩ := Xm3 (lastN f.2 w f.2.length : Int) (decide (gd f.2 (lastN f.2 w f.2.length) = w)) r (trl (tw f) w (tw f).length) (by omega) (fun k hk => by
    rw [Xdw _ _ _ _ (by omega), h3 k (by omega)]
    have := Xhx hT w ((tw f).length - k)
    have := Xer hT ((tw f).length - k)
    omega) (trl (tw f) w (tw f).length) 0 (trl (tw f) w (tw f).length) rfl rfl (by omega) (fun k hk => by rw [if_neg (by omega)])
  refine ⟨q, k1, by omega, fun k hk => ?_⟩
  rw [k3 k (by omega), Xdw _ _ _ _ (by omega), h3 k hk]
end Go.Proofs.YtmfppphlhgneeaaGreat
end

section
namespace Go.Proofs.YtmfppphlhgneeaaGreat
set_option linter.unusedVariables false
def at' {α : Type} (d : α) (l : List α) (b : Int) : α := l.getD b.toNat d
theorem X54 {α : Type} (d : α) {l : List α} {b : Int} (h0 : 0 ≤ b) (h1 : b < l.length) : lidx l b = some (at' d l b) := X60 d h0 h1
theorem X43 {α : Type} (d : α) {l : List α} {b c : Int} {y : α} (h0 : 0 ≤ b) (h1 : b < l.length) (hc : 0 ≤ c) : at' d (l.set b.toNat y) c = if c = b then y else at' d l c := by
  unfold at'
  rw [List.getD_eq_getElem?_getD, List.getElem?_set]
  by_cases h : c = b
  · subst h; rw [if_pos rfl, if_pos rfl, if_pos (by omega)]; rfl
  · rw [if_neg (by omega), if_neg h, List.getD_eq_getElem?_getD]
theorem X7i {α : Type} (d : α) {l : List α} {b : Int} (h0 : 0 ≤ b) (h1 : b < l.length) : at' d l b ∈ l := by
  unfold at'
  rw [List.getD_eq_getElem?_getD, List.getElem?_eq_getElem (by omega)]
  exact List.getElem_mem _
theorem Xdx {α : Type} (d : α) {l : List α} {x : α} (h : x ∈ l) : ∃ b : Int, 0 ≤ b ∧ b < l.length ∧ at' d l b = x := by
  obtain ⟨i, hi, rfl⟩ := List.getElem_of_mem h
  refine ⟨i, by omega, by omega, ?_⟩
  unfold at'
  rw [Int.toNat_natCast, List.getD_eq_getElem?_getD, List.getElem?_eq_getElem hi]; rfl
theorem Xes {α : Type} [DecidableEq α] (d j y : α) : ∀ (l : List α) (n : Nat), n < l.length → (l.set n y).count j + (if l.getD n d = j then 1 else 0) = l.count j + (if y = j then 1 else 0)
  | [], n, h => by simp at h
  | x :: l, 0, h => by
    simp only [List.set_cons_zero, List.getD_cons_zero, List.count_cons, beq_iff_eq]
    omega
  | x :: l, n + 1, h => by
    have := Xes d j y l n (by simpa using h)
    simp only [List.set_cons_succ, List.getD_cons_succ, List.count_cons]
    omega
theorem Xak {α : Type} [DecidableEq α] (d : α) (j y : α) {l : List α} {b : Int} (h0 : 0 ≤ b) (h1 : b < l.length) : (l.set b.toNat y).count j + (if at' d l b = j then 1 else 0) = l.count j + (if y = j then 1 else 0) :=
  Xes d j y l b.toNat (by omega)
theorem X8s {l : List Bool} {b : Int} (h0 : 0 ≤ b) (h1 : b < l.length) (h : at' false l b = false) : (l.set b.toNat true).count false + 1 = l.count false := by
  have := Xak false false true h0 h1
  rw [h] at this
  simpa using this
theorem Xc7 {s t : List Bool} (hl : s.length = t.length) (h : ∀ b : Int, 0 ≤ b → b < s.length → at' false s b = true → at' false t b = true) : t.count false ≤ s.count false := by
  induction s generalizing t with
  | nil => cases t with
    | nil => simp
    | cons _ _ => simp at hl
  | cons x s ih =>
    cases t with
    | nil => simp at hl
    | cons y t =>
      simp only [List.length_cons, Nat.add_right_cancel_iff] at hl
      have h1 := ih hl fun b h0 hb ht => by
        have := h (b + 1) (by omega) (by simp; omega)
        have e : (b + 1).toNat = b.toNat + 1 := by omega
        simp only [at', e, List.getD_cons_succ] at this
        exact this ht
      have h2 := h 0 (by omega) (by simp only [List.length_cons]; omega)
      simp only [at', Int.toNat_zero, List.getD_cons_zero] at h2
      simp only [List.count_cons]
      cases x <;> cases y
      · simp; omega
      · simp; omega
      · exact absurd (h2 rfl) (by simp)
      · simp; omega
def HomesOK (B : Int) (homes : List (List Int)) : Prop := ∀ l ∈ homes, ∀ b ∈ l, 0 ≤ b ∧ b < B
def BkOK (B : Int) (homes : List (List Int)) (bk : List Int) : Prop := (bk.length : Int) = B ∧ ∀ v ∈ bk, -1 ≤ v ∧ v < homes.length
abbrev Bk := List Int
structure Won (B : Int) (homes : List (List Int)) (fixed seen : List Bool) (i : Int) (bk bk' : Bk) : Prop where
  ok : BkOK B homes bk'
  still : ∀ b, 0 ≤ b → b < B → (at' false seen b = true ∨ at' false fixed b = true) → at' (-1) bk' b = at' (-1) bk b
  kept : ∀ b, 0 ≤ b → b < B → 0 ≤ at' (-1) bk b → 0 ≤ at' (-1) bk' b
  edge : ∀ b, 0 ≤ b → b < B → at' (-1) bk' b = at' (-1) bk b ∨ (0 ≤ at' (-1) bk' b ∧ b ∈ at' [] homes (at' (-1) bk' b))
  count : ∀ j, 0 ≤ j → bk'.count j = bk.count j + if i = j then 1 else 0
structure Lost (B : Int) (homes : List (List Int)) (fixed seen seen' : List Bool) (hs : List Int) (bk : Bk) : Prop where
  all : ∀ b ∈ hs, at' false fixed b = true ∨ at' false seen' b = true
  closed : ∀ b, 0 ≤ b → b < B → at' false seen' b = true → at' false seen b = false → 0 ≤ at' (-1) bk b ∧ at' false fixed b = false ∧ ∀ c ∈ at' [] homes (at' (-1) bk b), at' false fixed c = true ∨ at' false seen' c = true
def SeenLe (B : Int) (s t : List Bool) : Prop := ∀ b, 0 ≤ b → b < B → at' false s b = true → at' false t b = true
theorem Xet (B : Int) (homes : List (List Int)) (fixed : List Bool) (hh : HomesOK B homes) (hf : (fixed.length : Int) = B) (i : Int) (hi : 0 ≤ i ∧ i < homes.length) (m : Nat)
    (ih : ∀ (i : Int) (seen : List Bool) (bk : Bk), 0 ≤ i → i < homes.length → (seen.length : Int) = B → BkOK B homes bk → seen.count false < m → ∃ r bk' seen', Xh m (homes, bk, fixed) i seen = some (r, bk', seen') ∧ (seen'.length : Int) = B ∧ SeenLe B seen seen' ∧
      (r = true → Won B homes fixed seen i bk bk') ∧ (r = false → bk' = bk ∧ Lost B homes fixed seen seen' (at' [] homes i) bk)) :
    ∀ (hs : List Int) (seen : List Bool) (bk : Bk), (∀ b ∈ hs, b ∈ at' [] homes i) → (seen.length : Int) = B → BkOK B homes bk → seen.count false < m + 1 →
      ∃ r bk' seen', Xo (Xh m) i homes fixed hs seen bk = some (r, bk', seen') ∧ (seen'.length : Int) = B ∧ SeenLe B seen seen' ∧
        (r = true → Won B homes fixed seen i bk bk') ∧ (r = false → bk' = bk ∧ Lost B homes fixed seen seen' hs bk)
  | [], seen, bk, _, hs, hb, _ => ⟨false, bk, seen, rfl, hs, fun _ _ _ h => h, by simp, fun _ => ⟨rfl, by simp, fun b _ _ h1 h2 => by rw [h1] at h2; cases h2⟩⟩
  | b :: hs, seen, bk, hm, hs', hb, hc => by
    have hbi : b ∈ at' [] homes i := hm b List.mem_cons_self
    obtain ⟨b0, bB⟩ := hh _ (X7i [] hi.1 hi.2) b hbi
    have ih2 := fun seen bk => Xet B homes fixed hh hf i hi m ih hs seen bk (fun c h => hm c (List.mem_cons_of_mem _ h))
    rw [Xo]
    unfold X5m
    rw [X54 false b0 (by omega), X54 false b0 (by omega)]
    simp only [Option.bind_some]
    have hskip : (at' false seen b = true ∨ at' false fixed b = true) → ∃ r bk' seen', Xo (Xh m) i homes fixed hs seen bk = some (r, bk', seen') ∧ (seen'.length : Int) = B ∧ SeenLe B seen seen' ∧
        (r = true → Won B homes fixed seen i bk bk') ∧ (r = false → bk' = bk ∧ Lost B homes fixed seen seen' (b :: hs) bk) := fun hsf => by
      obtain ⟨r, bk', seen', e, h1, h2, h3, h4⟩ := ih2 seen bk hs' hb hc
      refine ⟨r, bk', seen', e, h1, h2, h3, fun hr => ⟨(h4 hr).1, fun c hc' => ?_, (h4 hr).2.closed⟩⟩
      rcases List.mem_cons.1 hc' with rfl | hc'
      · rcases hsf with h | h
        · exact .inr (h2 _ b0 bB h)
        · exact .inl h
      · exact (h4 hr).2.all c hc'
    by_cases h1 : at' false seen b = true
    · rw [if_pos h1]; simp only [Option.bind_some, if_true]; exact hskip (.inl h1)
    · rw [if_neg h1]
      simp only [Option.bind_some]
      by_cases h2 : at' false fixed b = true
      · rw [if_pos h2]; exact hskip (.inr h2)
      · rw [if_neg h2, X54 (-1) b0 (by rw [hb.1]; exact bB)]
        simp only [Option.bind_some]
        have h1' : at' false seen b = false := by simpa using h1
        have h2' : at' false fixed b = false := by simpa using h2
        have hbl : b < bk.length := by rw [hb.1]; exact bB
        by_cases h3 : at' (-1) bk b < 0
        · rw [if_pos h3, X1s b0 hbl]
          simp only [Option.bind_some]
          refine ⟨true, _, seen, rfl, hs', fun _ _ _ h => h, fun _ => ⟨⟨by simpa using hb.1, fun v hv => ?_⟩, fun c c0 cB hc' => ?_, fun c c0 cB hc' => ?_, fun c c0 cB => ?_, fun j hj => ?_⟩, by simp⟩
          · rcases List.mem_or_eq_of_mem_set hv with h | rfl
            · exact hb.2 v h
            · omega
          · rw [X43 (-1) b0 hbl c0]
            split
            · rename_i e; subst e; rcases hc' with h | h
              · rw [h1'] at h; cases h
              · rw [h2'] at h; cases h
            · rfl
          · rw [X43 (-1) b0 hbl c0]; split
            · exact hi.1
            · exact hc'
          · rw [X43 (-1) b0 hbl c0]; split
            · rename_i e; subst e; exact .inr ⟨hi.1, hbi⟩
            · exact .inl rfl
          · have := Xak (-1) j i b0 hbl
            rw [if_neg (by omega : ¬ at' (-1) bk b = j)] at this
            simpa using this
        · rw [if_neg h3, X1s b0 (by omega)]
          simp only [Option.bind_some]
          have hlt : b < seen.length := by omega
          have ho := hb.2 _ (X7i (-1) b0 hbl)
          obtain ⟨r, bk1, seen1, e1, l1, m1, w1, f1⟩ := ih (at' (-1) bk b) (seen.set b.toNat true) bk (by omega) ho.2 (by simpa using hs') hb (by have := X8s b0 hlt h1'; omega)
          rw [e1]
          simp only [Option.bind_some]
          have hsb : at' false (seen.set b.toNat true) b = true := by rw [X43 false b0 hlt b0, if_pos rfl]
          have hle : SeenLe B seen (seen.set b.toNat true) := fun c c0 cB h => by rw [X43 false b0 hlt c0]; split; rfl; exact h
          cases r with
          | true =>
            have hw := w1 rfl
            have hb1 : b < bk1.length := by rw [hw.ok.1]; exact bB
            rw [if_pos rfl, X54 (-1) b0 hb1]
            simp only [Option.bind_some]
            rw [X1s b0 hb1]
            simp only [Option.bind_some]
            have hst : at' (-1) bk1 b = at' (-1) bk b := hw.still b b0 bB (.inl hsb)
            refine ⟨true, _, seen1, rfl, l1, fun c c0 cB h => m1 c c0 cB (hle c c0 cB h), fun _ => ⟨⟨by simpa using hw.ok.1, fun v hv => ?_⟩, fun c c0 cB hc' => ?_, fun c c0 cB hc' => ?_, fun c c0 cB => ?_, fun j hj => ?_⟩, by simp⟩
            · rcases List.mem_or_eq_of_mem_set hv with h | rfl
              · exact hw.ok.2 v h
              · omega
            · rw [X43 (-1) b0 hb1 c0]
              split
              · rename_i e; subst e; rcases hc' with h | h
                · rw [h1'] at h; cases h
                · rw [h2'] at h; cases h
              · exact hw.still c c0 cB (hc'.imp (hle c c0 cB) id)
            · rw [X43 (-1) b0 hb1 c0]; split
              · exact hi.1
              · exact hw.kept c c0 cB hc'
            · rw [X43 (-1) b0 hb1 c0]; split
              · rename_i e; subst e; exact .inr ⟨hi.1, hbi⟩
              · exact hw.edge c c0 cB
            · have h5 := Xak (-1) j i b0 hb1
              have h6 := hw.count j hj
              rw [hst] at h5
              omega
          | false =>
            rw [if_neg (by simp)]
            obtain ⟨rfl, hlost⟩ := f1 rfl
            have hcle := Xc7 (s := seen.set b.toNat true) (t := seen1) (by rw [List.length_set]; omega) (fun c c0 cl h => m1 c c0 (by simp at cl; omega) h)
            have hcl := X8s b0 hlt h1'
            obtain ⟨r, bk2, seen2, e2, l2, m2, w2, f2⟩ := ih2 seen1 bk1 l1 hb (by omega)
            refine ⟨r, bk2, seen2, e2, l2, fun c c0 cB h => m2 c c0 cB (m1 c c0 cB (hle c c0 cB h)), fun hr => ?_, fun hr => ?_⟩
            · have hw := w2 hr
              exact ⟨hw.ok, fun c c0 cB hc' => hw.still c c0 cB (hc'.imp (fun h => m1 c c0 cB (hle c c0 cB h)) id), hw.kept, hw.edge, hw.count⟩
            · obtain ⟨rfl, hl2⟩ := f2 hr
              refine ⟨rfl, fun c hc' => ?_, fun c c0 cB hs2 hs0 => ?_⟩
              · rcases List.mem_cons.1 hc' with rfl | hc'
                · exact .inr (m2 _ b0 bB (m1 _ b0 bB hsb))
                · exact hl2.all c hc'
              · have hup : ∀ x ∈ at' [] homes (at' (-1) bk2 c), 0 ≤ at' (-1) bk2 c → (at' false fixed x = true ∨ at' false seen1 x = true) → at' false fixed x = true ∨ at' false seen2 x = true := fun x hx h0 h => by
                  have hv := hb.2 _ (X7i (-1) c0 (by rw [hb.1]; exact cB))
                  obtain ⟨x0, xB⟩ := hh _ (X7i [] h0 hv.2) x hx
                  exact h.imp id (m2 x x0 xB)
                by_cases hs1 : at' false seen1 c = true
                · by_cases hcb : c = b
                  · subst hcb
                    refine ⟨by omega, h2', fun x hx => hup x hx (by omega) (hlost.all x hx)⟩
                  · have hs3 : at' false (seen.set b.toNat true) c = false := by rw [X43 false b0 hlt c0, if_neg hcb]; exact hs0
                    obtain ⟨g1, g2, g3⟩ := hlost.closed c c0 cB hs1 hs3
                    exact ⟨g1, g2, fun x hx => hup x hx g1 (g3 x hx)⟩
                · exact hl2.closed c c0 cB hs2 (by simpa using hs1)
theorem Xfr (B : Int) (homes : List (List Int)) (fixed : List Bool) (hh : HomesOK B homes) (hf : (fixed.length : Int) = B) : ∀ (m : Nat) (i : Int) (seen : List Bool) (bk : Bk), 0 ≤ i → i < homes.length → (seen.length : Int) = B → BkOK B homes bk → seen.count false < m →
    ∃ r bk' seen', Xh m (homes, bk, fixed) i seen = some (r, bk', seen') ∧ (seen'.length : Int) = B ∧ SeenLe B seen seen' ∧ (r = true → Won B homes fixed seen i bk bk') ∧ (r = false → bk' = bk ∧ Lost B homes fixed seen seen' (at' [] homes i) bk)
  | 0, i, seen, bk, _, _, _, _, h => by omega
  | m + 1, i, seen, bk, h0, h1, hs, hb, hc => by
    rw [Xh]
    unfold X5n
    rw [X54 [] h0 h1]
    simp only [Option.bind_some]
    exact Xet B homes fixed hh hf i ⟨h0, h1⟩ m (Xfr B homes fixed hh hf m) _ seen bk (fun _ h => h) hs hb hc
end Go.Proofs.YtmfppphlhgneeaaGreat
namespace Go.Proofs.YtmfppphlhgneeaaGreat
set_option linter.unusedVariables false
theorem pig : ∀ {l m : List Int}, l.Nodup → (∀ x ∈ l, x ∈ m) → l.length ≤ m.length
  | [], m, _, _ => by simp
  | x :: l, m, hn, hs => by
    obtain ⟨h1, h2⟩ := List.nodup_cons.1 hn
    have hx := hs x List.mem_cons_self
    have h3 := pig (l := l) (m := m.erase x) h2 fun y hy => by
      have hne : y ≠ x := fun e => h1 (e ▸ hy)
      exact (List.mem_erase_of_ne hne).2 (hs y (List.mem_cons_of_mem _ hy))
    have h4 := List.length_erase_of_mem hx
    have h5 : 0 < m.length := List.length_pos_of_mem hx
    simp only [List.length_cons]; omega
theorem Xbj {α β : Type} {f : α → β} : ∀ {l : List α}, l.Nodup → (∀ x ∈ l, ∀ y ∈ l, f x = f y → x = y) → (l.map f).Nodup
  | [], _, _ => by simp
  | x :: l, hn, hi => by
    obtain ⟨h1, h2⟩ := List.nodup_cons.1 hn
    rw [List.map_cons, List.nodup_cons]
    refine ⟨fun hm => ?_, Xbj h2 fun a ha b hb => hi a (List.mem_cons_of_mem _ ha) b (List.mem_cons_of_mem _ hb)⟩
    obtain ⟨y, hy, e⟩ := List.mem_map.1 hm
    have := hi y (List.mem_cons_of_mem _ hy) x List.mem_cons_self e
    exact h1 (this ▸ hy)
theorem Xfs {l : List Int} {b c j : Int} (hb : 0 ≤ b ∧ b < l.length) (hc : 0 ≤ c ∧ c < l.length) (h1 : at' (-1) l b = j) (h2 : at' (-1) l c = j) (hne : b ≠ c) : 2 ≤ l.count j := by
  have h3 := Xak (-1) j (j + 1) hb.1 hb.2
  rw [if_pos h1, if_neg (by omega)] at h3
  have h4 : at' (-1) (l.set b.toNat (j + 1)) c = j := by rw [X43 (-1) hb.1 hb.2 hc.1, if_neg (fun e => hne e.symm)]; exact h2
  have h5 := X7i (-1) (l := l.set b.toNat (j + 1)) hc.1 (by simpa using hc.2)
  rw [h4] at h5
  have := List.count_pos_iff.2 h5
  omega
theorem Xgx {l : List Int} {b j : Int} (hb : 0 ≤ b ∧ b < l.length) (h1 : at' (-1) l b = j) : 1 ≤ l.count j := List.count_pos_iff.2 (h1 ▸ X7i (-1) hb.1 hb.2)
def Places (homes : List (List Int)) (fixed : List Bool) (a : Int) (f : Int → Int) : Prop :=
  (∀ j, a ≤ j → j < homes.length → f j ∈ at' [] homes j ∧ at' false fixed (f j) = false) ∧ ∀ j k, a ≤ j → j < homes.length → a ≤ k → k < homes.length → f j = f k → j = k
def Placeable (homes : List (List Int)) (fixed : List Bool) (a : Int) : Prop := ∃ f, Places homes fixed a f
structure Stand (B : Int) (homes : List (List Int)) (fixed : List Bool) (a i : Int) (bk : Bk) : Prop where
  ok : BkOK B homes bk
  le : ∀ j, 0 ≤ j → bk.count j ≤ 1
  one : ∀ j, a ≤ j → j < i → bk.count j = 1
  none : ∀ j, i ≤ j → bk.count j = 0
  free : ∀ b, 0 ≤ b → b < B → at' false fixed b = false → 0 ≤ at' (-1) bk b → a ≤ at' (-1) bk b ∧ b ∈ at' [] homes (at' (-1) bk b)
  fix : ∀ b, 0 ≤ b → b < B → at' false fixed b = true → at' (-1) bk b < a
theorem Stand.places {B : Int} {homes : List (List Int)} {fixed : List Bool} {a : Int} {bk : Bk} (ha : 0 ≤ a) (h : Stand B homes fixed a homes.length bk) : Placeable homes fixed a := by
  classical
  have hex : ∀ j, a ≤ j → j < homes.length → ∃ b, 0 ≤ b ∧ b < B ∧ at' (-1) bk b = j := fun j h1 h2 => by
    have hm : j ∈ bk := List.count_pos_iff.1 (by rw [h.one j h1 h2]; omega)
    obtain ⟨b, h3, h4, h5⟩ := Xdx (-1) hm
    exact ⟨b, h3, by rw [← h.ok.1]; exact h4, h5⟩
  refine ⟨fun j => if hj : ∃ b, 0 ≤ b ∧ b < B ∧ at' (-1) bk b = j then hj.choose else 0, fun j h1 h2 => ?_, fun j k h1 h2 h3 h4 e => ?_⟩
  · have hj := hex j h1 h2
    have := hj.choose_spec
    simp only [dif_pos hj]
    obtain ⟨b0, bB, hb⟩ := this
    by_cases hfx : at' false fixed hj.choose = true
    · have := h.fix _ b0 bB hfx; omega
    · have hfx' : at' false fixed hj.choose = false := by simpa using hfx
      refine ⟨?_, hfx'⟩
      have := (h.free _ b0 bB hfx' (by omega)).2
      rwa [hb] at this
  · have hj := hex j h1 h2
    have hk := hex k h3 h4
    simp only [dif_pos hj, dif_pos hk] at e
    rw [← hj.choose_spec.2.2, ← hk.choose_spec.2.2, e]
theorem Xob {B : Int} {homes : List (List Int)} {fixed seen seen' : List Bool} {a i : Int} {bk : Bk} (hh : HomesOK B homes) (hs : Stand B homes fixed a i bk) (ha : 0 ≤ a ∧ a ≤ i) (hi : i < homes.length) (h0 : ∀ b, 0 ≤ b → b < B → at' false seen b = false)
    (hl : Lost B homes fixed seen seen' (at' [] homes i) bk) : ¬ Placeable homes fixed a := by
  rintro ⟨f, hf1, hf2⟩
  let R : List Int := ((List.range B.toNat).map fun (b : Nat) => (b : Int)).filter fun b => at' false seen' b
  have hR : ∀ b, b ∈ R ↔ (0 ≤ b ∧ b < B) ∧ at' false seen' b = true := fun b => by
    simp only [R, List.mem_filter, List.mem_map, List.mem_range]
    constructor
    · rintro ⟨⟨n, hn, rfl⟩, h⟩; exact ⟨⟨by omega, by omega⟩, h⟩
    · rintro ⟨⟨h1, h2⟩, h⟩; exact ⟨⟨b.toNat, by omega, by omega⟩, h⟩
  have hRn : R.Nodup := List.Pairwise.filter _ (Xbj List.nodup_range fun x _ y _ e => by omega)
  have hcl : ∀ b ∈ R, 0 ≤ at' (-1) bk b ∧ at' false fixed b = false ∧ ∀ c ∈ at' [] homes (at' (-1) bk b), at' false fixed c = true ∨ at' false seen' c = true := fun b hb => by
    obtain ⟨⟨b0, bB⟩, h⟩ := (hR b).1 hb
    exact hl.closed b b0 bB h (h0 b b0 bB)
  have hin : ∀ b ∈ R, a ≤ at' (-1) bk b ∧ at' (-1) bk b < i := fun b hb => by
    obtain ⟨⟨b0, bB⟩, h⟩ := (hR b).1 hb
    obtain ⟨g1, g2, _⟩ := hcl b hb
    refine ⟨(hs.free b b0 bB g2 g1).1, ?_⟩
    rcases Int.lt_or_le (at' (-1) bk b) i with h | h
    · exact h
    · have h1 := hs.none _ h
      have h2 := Xgx (l := bk) ⟨b0, by rw [hs.ok.1]; exact bB⟩ rfl
      omega
  -- the items that are in the way, and the new one
  have hXn : (i :: R.map fun b => at' (-1) bk b).Nodup := by
    refine List.nodup_cons.2 ⟨fun hm => ?_, Xbj hRn fun x hx y hy e => ?_⟩
    · obtain ⟨b, hb, e⟩ := List.mem_map.1 hm
      have := (hin b hb).2; omega
    · rcases Decidable.em (x = y) with h | h
      · exact h
      · obtain ⟨⟨x0, xB⟩, _⟩ := (hR x).1 hx
        obtain ⟨⟨y0, yB⟩, _⟩ := (hR y).1 hy
        have h1 := Xfs (l := bk) ⟨x0, by rw [hs.ok.1]; exact xB⟩ ⟨y0, by rw [hs.ok.1]; exact yB⟩ rfl e.symm h
        have h2 := hs.one _ (hin x hx).1 (hin x hx).2
        omega
  have hXr : ∀ x ∈ (i :: R.map fun b => at' (-1) bk b), (a ≤ x ∧ x < homes.length) ∧ f x ∈ R := fun x hx => by
    rcases List.mem_cons.1 hx with rfl | hx
    · obtain ⟨h1, h2⟩ := hf1 x ha.2 hi
      refine ⟨⟨ha.2, hi⟩, (hR _).2 ⟨hh _ (X7i [] (by omega) hi) _ h1, ?_⟩⟩
      rcases hl.all _ h1 with h | h
      · rw [h2] at h; cases h
      · exact h
    · obtain ⟨b, hb, rfl⟩ := List.mem_map.1 hx
      have hr := hin b hb
      obtain ⟨h1, h2⟩ := hf1 _ hr.1 (by omega)
      refine ⟨⟨hr.1, by omega⟩, (hR _).2 ⟨hh _ (X7i [] (by omega) (by omega)) _ h1, ?_⟩⟩
      rcases (hcl b hb).2.2 _ h1 with h | h
      · rw [h2] at h; cases h
      · exact h
  have h1 := pig (Xbj (f := f) hXn fun x hx y hy e => hf2 x y (hXr x hx).1.1 (hXr x hx).1.2 (hXr y hy).1.1 (hXr y hy).1.2 e) (m := R) (fun y hy => by
    obtain ⟨x, hx, rfl⟩ := List.mem_map.1 hy
    exact (hXr x hx).2)
  simp at h1
  omega
theorem Stand.won {B : Int} {homes : List (List Int)} {fixed seen : List Bool} {a i : Int} {bk bk' : Bk} (hs : Stand B homes fixed a i bk) (ha : 0 ≤ a ∧ a ≤ i) (hw : Won B homes fixed seen i bk bk') : Stand B homes fixed a (i + 1) bk' where
  ok := hw.ok
  le j h := by
    rw [hw.count j h]
    by_cases he : i = j
    · rw [if_pos he, hs.none j (by omega)]; omega
    · rw [if_neg he]; exact hs.le j h
  one j h1 h2 := by
    rw [hw.count j (by omega)]
    by_cases h : i = j
    · rw [if_pos h, hs.none j (by omega)]
    · rw [if_neg h, hs.one j h1 (by omega)]
  none j h := by rw [hw.count j (by omega), if_neg (by omega), hs.none j (by omega)]
  free b b0 bB hf hb := by
    rcases hw.edge b b0 bB with h | ⟨_, h⟩
    · rw [h] at hb ⊢; exact hs.free b b0 bB hf hb
    · refine ⟨?_, h⟩
      -- it is i, or stood somewhere
      rcases Int.lt_or_le (at' (-1) bk' b) a with hlt | hge
      · exfalso
        have hne : i ≠ at' (-1) bk' b := by omega
        have h1 := hw.count _ hb
        rw [if_neg hne] at h1
        have h2 := Xgx (l := bk') ⟨b0, by rw [hw.ok.1]; exact bB⟩ rfl
        have hm : at' (-1) bk' b ∈ bk := List.count_pos_iff.1 (by omega)
        obtain ⟨c, c0, cB, hc⟩ := Xdx (-1) hm
        have cB' : c < B := by rw [← hs.ok.1]; exact cB
        by_cases hfc : at' false fixed c = true
        · -- c is fixed, and holds it still; so do two buckets
          have h3 := hw.still c c0 cB' (.inr hfc)
          have hbc : b ≠ c := fun e => by subst e; rw [hf] at hfc; cases hfc
          have h4 := Xfs (l := bk') ⟨b0, by rw [hw.ok.1]; exact bB⟩ ⟨c0, by rw [hw.ok.1]; exact cB'⟩ rfl (by rw [h3, hc]) hbc
          have h5 := hs.le _ hb
          omega
        · have := (hs.free c c0 cB' (by simpa using hfc) (by rw [hc]; exact hb)).1
          rw [hc] at this; omega
      · exact hge
  fix b b0 bB hf := by rw [hw.still b b0 bB (.inr hf)]; exact hs.fix b b0 bB hf
end Go.Proofs.YtmfppphlhgneeaaGreat
namespace Go.Proofs.YtmfppphlhgneeaaGreat
set_option linter.unusedVariables false
structure Fst (B : Int) (homes : List (List Int)) (fixed : List Bool) (i : Int) (bk : Bk) : Prop where
  ok : BkOK B homes bk
  len : (fixed.length : Int) = B
  le : ∀ j, 0 ≤ j → bk.count j ≤ 1
  fix : ∀ b, 0 ≤ b → b < B → (at' false fixed b = true ↔ 0 ≤ at' (-1) bk b)
  lt : ∀ b, 0 ≤ b → b < B → at' (-1) bk b < i
theorem Fst.stand {B : Int} {homes : List (List Int)} {fixed : List Bool} {i : Int} {bk : Bk} (h : Fst B homes fixed i bk) : Stand B homes fixed i i bk where
  ok := h.ok
  le := h.le
  one j h1 h2 := by omega
  none j hj := by
    rcases Nat.eq_zero_or_pos (bk.count j) with h0 | h0
    · exact h0
    · obtain ⟨b, b0, bB, e⟩ := Xdx (-1) (List.count_pos_iff.1 h0)
      have := h.lt b b0 (by rw [← h.ok.1]; exact bB)
      omega
  free b b0 bB hf hb := by have := (h.fix b b0 bB).2 hb; rw [hf] at this; cases this
  fix b b0 bB _ := h.lt b b0 bB
theorem Xoc {α : Type} (d : α) {l : List α} {b : Int} {y : α} (h0 : 0 ≤ b) (h1 : b < l.length) (h : at' d l b = y) : l.set b.toNat y = l := by
  have hlt : b.toNat < l.length := by omega
  have : l[b.toNat] = y := by
    rw [← h]; unfold at'; rw [List.getD_eq_getElem?_getD, List.getElem?_eq_getElem hlt]; rfl
  rw [← this]; exact List.set_getElem_self hlt
theorem Fst.take {B : Int} {homes : List (List Int)} {fixed : List Bool} {i b : Int} {bk : Bk} (h : Fst B homes fixed i bk) (hi : 0 ≤ i ∧ i < homes.length) (hb : 0 ≤ b ∧ b < B) (hf : at' false fixed b = false) : Fst B homes (fixed.set b.toNat true) (i + 1) (bk.set b.toNat i) := by
  have hbl : b < bk.length := by rw [h.ok.1]; exact hb.2
  have hfl : b < fixed.length := by rw [h.len]; exact hb.2
  have hneg : ¬ 0 ≤ at' (-1) bk b := fun hh => by have := (h.fix b hb.1 hb.2).2 hh; rw [hf] at this; cases this
  refine ⟨⟨by simpa using h.ok.1, fun v hv => ?_⟩, by simpa using h.len, fun j hj => ?_, fun c c0 cB => ?_, fun c c0 cB => ?_⟩
  · rcases List.mem_or_eq_of_mem_set hv with h1 | rfl
    · exact h.ok.2 v h1
    · omega
  · have h1 := Xak (-1) j i hb.1 hbl
    rw [if_neg (by omega : ¬ at' (-1) bk b = j)] at h1
    by_cases he : i = j
    · rw [if_pos he] at h1
      have := h.stand.none j (by omega)
      omega
    · rw [if_neg he] at h1; have := h.le j hj; omega
  · rw [X43 false hb.1 hfl c0, X43 (-1) hb.1 hbl c0]
    by_cases he : c = b
    · rw [if_pos he, if_pos he]; simp; exact hi.1
    · rw [if_neg he, if_neg he]; exact h.fix c c0 cB
  · rw [X43 (-1) hb.1 hbl c0]; split
    · omega
    · have := h.lt c c0 cB; omega
theorem Placeable.step {homes : List (List Int)} {fixed : List Bool} {i : Int} {B : Int} (hh : HomesOK B homes) (hf : (fixed.length : Int) = B) (hi : 0 ≤ i ∧ i < homes.length) :
    Placeable homes fixed i ↔ ∃ b ∈ at' [] homes i, at' false fixed b = false ∧ Placeable homes (fixed.set b.toNat true) (i + 1) := by
  constructor
  · rintro ⟨f, h1, h2⟩
    obtain ⟨hm, hfr⟩ := h1 i (Int.le_refl _) hi.2
    obtain ⟨b0, bB⟩ := hh _ (X7i [] hi.1 hi.2) _ hm
    refine ⟨f i, hm, hfr, f, fun j hj hn => ?_, fun j k hj hn hk hkn e => h2 j k (by omega) hn (by omega) hkn e⟩
    obtain ⟨hm2, hfr2⟩ := h1 j (by omega) hn
    obtain ⟨c0, cB⟩ := hh _ (X7i [] (by omega) hn) _ hm2
    refine ⟨hm2, ?_⟩
    rw [X43 false b0 (by omega) c0, if_neg]
    · exact hfr2
    · intro e; have := h2 j i (by omega) hn (Int.le_refl _) hi.2 e; omega
  · rintro ⟨b, hm, hfr, f, h1, h2⟩
    obtain ⟨b0, bB⟩ := hh _ (X7i [] hi.1 hi.2) _ hm
    have hne : ∀ j, i + 1 ≤ j → j < homes.length → f j ≠ b := fun j hj hn e => by
      obtain ⟨hm2, hfr2⟩ := h1 j hj hn
      rw [e, X43 false b0 (by omega) b0, if_pos rfl] at hfr2; cases hfr2
    refine ⟨fun j => if j = i then b else f j, fun j hj hn => ?_, fun j k hj hn hk hkn e => ?_⟩
    · by_cases he : j = i
      · subst he; simp only [if_true]; exact ⟨hm, hfr⟩
      · simp only [if_neg he]
        obtain ⟨hm2, hfr2⟩ := h1 j (by omega) hn
        obtain ⟨c0, cB⟩ := hh _ (X7i [] (by omega) hn) _ hm2
        rw [X43 false b0 (by omega) c0, if_neg (hne j (by omega) hn)] at hfr2
        exact ⟨hm2, hfr2⟩
    · by_cases he : j = i <;> by_cases hek : k = i
      · omega
      · simp only [he, if_true, if_neg hek] at e; exact absurd e.symm (hne k (by omega) hkn)
      · simp only [hek, if_true, if_neg he] at e; exact absurd e (hne j (by omega) hn)
      · simp only [if_neg he, if_neg hek] at e; exact h2 j k (by omega) hn (by omega) hkn e
end Go.Proofs.YtmfppphlhgneeaaGreat
namespace Go.Proofs.YtmfppphlhgneeaaGreat
set_option linter.unusedVariables false
def toL (v : Int) : List Int := if v < 0 then [] else [v]
structure Rel (B : Int) (fixed : List Bool) (used : List Int) (bk : Bk) (inn : List (List Int)) : Prop where
  ul : (used.length : Int) = B
  il : (inn.length : Int) = B
  u : ∀ b, 0 ≤ b → b < B → at' 0 used b = if at' false fixed b = true then 1 else 0
  n : ∀ b, 0 ≤ b → b < B → at' [] inn b = if at' false fixed b = true then [] else toL (at' (-1) bk b)
def SeenR (B : Int) (fixed s t : List Bool) : Prop := (t.length : Int) = B ∧ ∀ b, 0 ≤ b → b < B → at' false fixed b = false → at' false t b = at' false s b
theorem SeenR.set {B : Int} {fixed s t : List Bool} (h : SeenR B fixed s t) {b : Int} (hb : 0 ≤ b ∧ b < B) (hs : (s.length : Int) = B) : SeenR B fixed (s.set b.toNat true) (t.set b.toNat true) :=
  ⟨by simpa using h.1, fun c c0 cB hf => by rw [X43 false hb.1 (by rw [h.1]; exact hb.2) c0, X43 false hb.1 (by rw [hs]; exact hb.2) c0, h.2 c c0 cB hf]⟩
theorem SeenR.setF {B : Int} {fixed s t : List Bool} (h : SeenR B fixed s t) {b : Int} (hb : 0 ≤ b ∧ b < B) (hf : at' false fixed b = true) : SeenR B fixed s (t.set b.toNat true) :=
  ⟨by simpa using h.1, fun c c0 cB hc => by rw [X43 false hb.1 (by rw [h.1]; exact hb.2) c0, if_neg (fun e => by subst e; rw [hf] at hc; cases hc)]; exact h.2 c c0 cB hc⟩
theorem Rel.set {B : Int} {fixed : List Bool} {used : List Int} {bk : Bk} {inn : List (List Int)} (h : Rel B fixed used bk inn) (hbl : (bk.length : Int) = B) {b i : Int} (hb : 0 ≤ b ∧ b < B) (hf : at' false fixed b = false) (hi : 0 ≤ i) : Rel B fixed used (bk.set b.toNat i) (inn.set b.toNat [i]) :=
  ⟨h.ul, by simpa using h.il, h.u, fun c c0 cB => by
    rw [X43 [] hb.1 (by rw [h.il]; exact hb.2) c0, X43 (-1) hb.1 (by omega) c0]
    by_cases e : c = b
    · subst e; rw [if_pos rfl, if_pos rfl, hf]; simp [toL]; omega
    · rw [if_neg e, if_neg e]; exact h.n c c0 cB⟩
def RefP (B : Int) (fixed : List Bool) (used : List Int) (inn : List (List Int)) (r : Bool) (bk' : Bk) (s' : List Bool) (x : Option (Bool × List (List Int) × List Bool)) : Prop :=
  ∃ inn' t', x = some (r, inn', t') ∧ (r = true → Rel B fixed used bk' inn') ∧ (r = false → inn' = inn ∧ SeenR B fixed s' t')
theorem Xhz (B : Int) (homes : List (List Int)) (fixed : List Bool) (used : List Int) (hh : HomesOK B homes) (hf : (fixed.length : Int) = B) (i : Int) (hi : 0 ≤ i ∧ i < homes.length) (m : Nat)
    (ih : ∀ (i : Int) (s t : List Bool) (bk : Bk) (inn : List (List Int)) (r : Bool) (bk' : Bk) (s' : List Bool), 0 ≤ i → i < homes.length → (s.length : Int) = B → BkOK B homes bk → s.count false < m → Rel B fixed used bk inn → SeenR B fixed s t → Xh m (homes, bk, fixed) i s = some (r, bk', s') →
      RefP B fixed used inn r bk' s' (Xb m homes inn used 1 i t)) :
    ∀ (hs : List Int) (s t : List Bool) (bk : Bk) (inn : List (List Int)) (r : Bool) (bk' : Bk) (s' : List Bool), (∀ b ∈ hs, b ∈ at' [] homes i) → (s.length : Int) = B → BkOK B homes bk → s.count false < m + 1 → Rel B fixed used bk inn → SeenR B fixed s t → Xo (Xh m) i homes fixed hs s bk = some (r, bk', s') →
      RefP B fixed used inn r bk' s' (X1n (Xb m) homes used 1 i inn hs t)
  | [], s, t, bk, inn, r, bk', s', _, _, _, _, hr, ht, h => by
    rw [Xo] at h
    cases h
    exact ⟨inn, t, rfl, by simp, fun _ => ⟨rfl, ht⟩⟩
  | b :: hs, s, t, bk, inn, r, bk', s', hm, hsl, hb, hc, hr, ht, h => by
    have hbi : b ∈ at' [] homes i := hm b List.mem_cons_self
    obtain ⟨b0, bB⟩ := hh _ (X7i [] hi.1 hi.2) b hbi
    have ih2 := fun s t bk inn r bk' s' => Xhz B homes fixed used hh hf i hi m ih hs s t bk inn r bk' s' (fun c h => hm c (List.mem_cons_of_mem _ h))
    have htl := ht.1
    have hbk := hb.1
    rw [Xo] at h
    unfold X5m at h
    rw [X54 false b0 (by omega), X54 false b0 (by omega)] at h
    simp only [Option.bind_some] at h
    rw [X1n]
    unfold X72
    rw [X54 false b0 (by omega)]
    simp only [Option.bind_some]
    have hu := hr.u b b0 bB
    have hn := hr.n b b0 bB
    have hul := hr.ul
    have hil := hr.il
    by_cases hfx : at' false fixed b = true
    · -- a bucket that is fixed
      have h' : Xo (Xh m) i homes fixed hs s bk = some (r, bk', s') := by
        rw [hfx] at h
        by_cases h1 : at' false s b = true
        · rw [if_pos h1] at h; simpa using h
        · rw [if_neg h1] at h; simpa using h
      by_cases h1 : at' false t b = true
      · rw [if_pos h1]; exact ih2 s t bk inn r bk' s' hsl hb hc hr ht h'
      · rw [if_neg h1, X1s b0 (by omega)]
        simp only [Option.bind_some]
        rw [X54 0 b0 (by omega), X54 [] b0 (by omega)]
        simp only [Option.bind_some]
        rw [hu, hn, hfx]
        simp only [if_true, List.length_nil]
        rw [if_neg (by rw [w64_id (by omega) (by omega)]; omega)]
        rw [X2c]
        exact ih2 s _ bk inn r bk' s' hsl hb hc hr (ht.setF ⟨b0, bB⟩ hfx) h'
    · have hfx' : at' false fixed b = false := by simpa using hfx
      rw [ht.2 b b0 bB hfx']
      by_cases h1 : at' false s b = true
      · rw [if_pos h1] at h ⊢
        simp only [Option.bind_some, if_true] at h
        exact ih2 s t bk inn r bk' s' hsl hb hc hr ht h
      · have h1' : at' false s b = false := by simpa using h1
        rw [if_neg h1] at h ⊢
        simp only [Option.bind_some] at h
        rw [if_neg hfx, X54 (-1) b0 (by omega)] at h
        simp only [Option.bind_some] at h
        rw [X1s b0 (by omega)]
        simp only [Option.bind_some]
        rw [X54 0 b0 (by omega), X54 [] b0 (by omega)]
        simp only [Option.bind_some]
        rw [hfx'] at hu hn
        simp only [Bool.false_eq_true, if_false] at hu hn
        rw [hu, hn]
        by_cases h3 : at' (-1) bk b < 0
        · rw [if_pos h3, X1s b0 (by omega)] at h
          simp only [Option.bind_some] at h
          cases h
          have htL : toL (at' (-1) bk b) = [] := by unfold toL; rw [if_pos h3]
          rw [htL]
          simp only [List.length_nil]
          rw [if_pos (by rw [w64_id (by omega) (by omega)]; omega), Xs (by simp)]
          simp only [Option.bind_some, List.nil_append]
          rw [X1s b0 (by omega)]
          simp only [Option.bind_some]
          exact ⟨_, _, rfl, fun _ => hr.set hbk ⟨b0, bB⟩ hfx' hi.1, by simp⟩
        · rw [if_neg h3, X1s b0 (by omega)] at h
          simp only [Option.bind_some] at h
          have htL : toL (at' (-1) bk b) = [at' (-1) bk b] := by unfold toL; rw [if_neg h3]
          rw [htL]
          simp only [List.length_singleton]
          rw [if_neg (by rw [w64_id (by omega) (by omega)]; omega), X2c]
          unfold X71
          have hlt : b < s.length := by omega
          have ho := hb.2 _ (X7i (-1) b0 (by omega : b < (bk.length : Int)))
          have hcl := X8s b0 hlt h1'
          obtain ⟨r1, bk1, s1, e1, l1, m1, w1, f1⟩ := Xfr B homes fixed hh hf m (at' (-1) bk b) (s.set b.toNat true) bk (by omega) ho.2 (by simpa using hsl) hb (by omega)
          rw [e1] at h
          simp only [Option.bind_some] at h
          obtain ⟨inn1, t1, e2, g1, g2⟩ := ih (at' (-1) bk b) _ _ bk inn r1 bk1 s1 (by omega) ho.2 (by simpa using hsl) hb (by omega) hr (ht.set ⟨b0, bB⟩ hsl) e1
          rw [e2]
          simp only [Option.bind_some]
          cases r1 with
          | true =>
            have hw := w1 rfl
            have hr1 := g1 rfl
            have hb1 := hw.ok.1
            have hil1 := hr1.il
            rw [if_pos rfl, X54 (-1) b0 (by omega)] at h
            simp only [Option.bind_some] at h
            rw [X1s b0 (by omega)] at h
            simp only [Option.bind_some] at h
            cases h
            rw [if_pos rfl, X54 [] b0 (by omega)]
            simp only [Option.bind_some]
            have hst : at' (-1) bk1 b = at' (-1) bk b := hw.still b b0 bB (.inl (by rw [X43 false b0 hlt b0, if_pos rfl]))
            have hn1 := hr1.n b b0 bB
            rw [hfx', hst, htL] at hn1
            simp only [Bool.false_eq_true, if_false] at hn1
            rw [hn1]
            have hx : lidx [at' (-1) bk b] ((0 : Nat) : Int) = some (at' (-1) bk b) := rfl
            have hy : lupd [at' (-1) bk b] ((0 : Nat) : Int) i = some [i] := rfl
            rw [hx]
            simp only [Option.bind_some]
            rw [hy]
            simp only [Option.bind_some]
            rw [X1s b0 (by omega)]
            simp only [Option.bind_some]
            exact ⟨_, _, rfl, fun _ => hr1.set hb1 ⟨b0, bB⟩ hfx' hi.1, by simp⟩
          | false =>
            rw [if_neg (by simp)] at h
            rw [if_neg (by simp), X2c]
            obtain ⟨rfl, hlost⟩ := f1 rfl
            obtain ⟨rfl, ht1⟩ := g2 rfl
            have hcle := Xc7 (s := s.set b.toNat true) (t := s1) (by rw [List.length_set]; omega) (fun c c0 cl h => m1 c c0 (by simp at cl; omega) h)
            exact ih2 s1 t1 bk1 inn1 r bk' s' l1 hb (by omega) hr ht1 h
theorem Xm4 (B : Int) (homes : List (List Int)) (fixed : List Bool) (used : List Int) (hh : HomesOK B homes) (hf : (fixed.length : Int) = B) : ∀ (m : Nat) (i : Int) (s t : List Bool) (bk : Bk) (inn : List (List Int)) (r : Bool) (bk' : Bk) (s' : List Bool), 0 ≤ i → i < homes.length → (s.length : Int) = B → BkOK B homes bk → s.count false < m → Rel B fixed used bk inn → SeenR B fixed s t → Xh m (homes, bk, fixed) i s = some (r, bk', s') →
      RefP B fixed used inn r bk' s' (Xb m homes inn used 1 i t)
  | 0, i, s, t, bk, inn, r, bk', s', _, _, _, _, h, _, _, _ => by omega
  | m + 1, i, s, t, bk, inn, r, bk', s', h0, h1, hs, hb, hc, hr, ht, h => by
    rw [Xh] at h
    unfold X5n at h
    rw [X54 [] h0 h1] at h
    simp only [Option.bind_some] at h
    rw [Xb]
    unfold X8i
    rw [X54 [] h0 h1]
    simp only [Option.bind_some]
    exact Xhz B homes fixed used hh hf i ⟨h0, h1⟩ m (Xm4 B homes fixed used hh hf m) _ s t bk inn r bk' s' (fun _ h => h) hs hb hc hr ht h
end Go.Proofs.YtmfppphlhgneeaaGreat
namespace Go.Proofs.YtmfppphlhgneeaaGreat
set_option linter.unusedVariables false
def UsedOf (B : Int) (fixed : List Bool) (used : List Int) : Prop := (used.length : Int) = B ∧ (fixed.length : Int) = B ∧ ∀ b, 0 ≤ b → b < B → at' 0 used b = if at' false fixed b = true then 1 else 0
theorem Xeu {α : Type} (d x : α) {n : Nat} {b : Int} (h0 : 0 ≤ b) (h1 : b < n) : at' d (List.replicate n x) b = x := by
  unfold at'; rw [List.getD_eq_getElem?_getD, List.getElem?_replicate, if_pos (by omega)]; rfl
theorem Xm5 {B : Int} {homes : List (List Int)} {fixed : List Bool} {used : List Int} (hh : HomesOK B homes) (hB : 0 ≤ B ∧ B ≤ 1000) (hf : (fixed.length : Int) = B) :
    ∀ (hs : List (List Int)) (n : Nat) (bk : Bk) (inn : List (List Int)), homes.drop n = hs → n ≤ homes.length → Stand B homes fixed 0 n bk → Rel B fixed used bk inn →
      ∃ r, X1q homes B 1 used hs n inn = some r ∧ (r = true ↔ Placeable homes fixed 0)
  | [], n, bk, inn, hd, hle, hs, hr => by
    have : homes.length ≤ n := List.drop_eq_nil_iff.1 hd
    have e : n = homes.length := by omega
    subst e
    exact ⟨true, rfl, by simp [hs.places (Int.le_refl _)]⟩
  | x :: hs', n, bk, inn, hd, hle, hs, hr => by
    have hlt : n < homes.length := by
      rcases Nat.lt_or_ge n homes.length with h | h
      · exact h
      · rw [List.drop_eq_nil_of_le h] at hd; cases hd
    have hd' : homes.drop (n + 1) = hs' := by rw [← List.drop_drop, hd]; rfl
    rw [X1q]
    unfold X4w
    have hmk : lmk B false = some (List.replicate B.toNat false) := by unfold lmk; rw [if_pos (by omega)]
    rw [hmk]
    simp only [Option.bind_some]
    have hsl : ((List.replicate B.toNat false).length : Int) = B := by simp; omega
    have h0 : ∀ b, 0 ≤ b → b < B → at' false (List.replicate B.toNat false) b = false := fun b b0 bB => Xeu false false b0 (by omega)
    have hcnt : (List.replicate B.toNat false).count false < big := by
      have := List.count_le_length (a := false) (l := List.replicate B.toNat false)
      rw [List.length_replicate] at this
      simp only [big]; omega
    obtain ⟨r1, bk1, s1, e1, l1, m1, w1, f1⟩ := Xfr B homes fixed hh hf big n (List.replicate B.toNat false) bk (by omega) (by omega) hsl hs.ok hcnt
    obtain ⟨inn1, t1, e2, g1, g2⟩ := Xm4 B homes fixed used hh hf big n _ (List.replicate B.toNat false) bk inn r1 bk1 s1 (by omega) (by omega) hsl hs.ok hcnt hr ⟨hsl, fun _ _ _ _ => rfl⟩ e1
    unfold X9l
    rw [e2]
    simp only [Option.bind_some]
    cases r1 with
    | true =>
      rw [if_pos rfl]
      exact Xm5 hh hB hf hs' (n + 1) bk1 inn1 hd' (by omega) (by exact_mod_cast hs.won ⟨Int.le_refl _, by omega⟩ (w1 rfl)) (g1 rfl)
    | false =>
      rw [if_neg (by simp)]
      exact ⟨false, rfl, by simp [Xob hh hs ⟨Int.le_refl _, by omega⟩ (by omega) h0 (f1 rfl).2]⟩
theorem Xjv {B : Int} {homes : List (List Int)} {fixed : List Bool} {used : List Int} (hh : HomesOK B homes) (hB : 0 ≤ B ∧ B ≤ 1000) (hu : UsedOf B fixed used) : ∃ r, X3g homes B 1 used = some r ∧ (r = true ↔ Placeable homes fixed 0) := by
  unfold X3g
  have hmk : lmk B ([] : List Int) = some (List.replicate B.toNat []) := by unfold lmk; rw [if_pos (by omega)]
  rw [hmk]
  simp only [Option.bind_some]
  have hall : ∀ b, 0 ≤ b → b < B → at' (-1) (List.replicate B.toNat (-1 : Int)) b = -1 := fun b b0 bB => Xeu _ _ b0 (by omega)
  refine Xm5 hh hB hu.2.1 homes 0 (List.replicate B.toNat (-1)) _ rfl (Nat.zero_le _) ⟨⟨by simp; omega, fun v hv => ?_⟩, fun j hj => ?_, fun j h1 h2 => by omega, fun j hj => ?_, fun b b0 bB _ h => ?_, fun b b0 bB _ => ?_⟩ ⟨hu.1, by simp; omega, hu.2.2, fun b b0 bB => ?_⟩
  · rw [(List.mem_replicate.1 hv).2]; omega
  · rw [List.count_replicate, if_neg (by simp; omega)]; omega
  · rw [List.count_replicate, if_neg (by simp; omega)]
  · rw [hall b b0 bB] at h; omega
  · rw [hall b b0 bB]; omega
  · rw [Xeu _ _ b0 (by omega), hall b b0 bB]; simp [toL]
theorem Xee {homes : List (List Int)} {fixed : List Bool} {a : Nat} (ha : a ≤ homes.length) : Placeable (homes.drop a) fixed 0 ↔ Placeable homes fixed a := by
  have hat : ∀ j : Int, 0 ≤ j → at' [] (homes.drop a) j = at' [] homes (j + a) := fun j hj => by
    unfold at'
    rw [List.getD_eq_getElem?_getD, List.getD_eq_getElem?_getD, List.getElem?_drop]
    congr 2; omega
  have hlen : ((homes.drop a).length : Int) = homes.length - a := by simp; omega
  constructor
  · rintro ⟨f, h1, h2⟩
    refine ⟨fun j => f (j - a), fun j hj hn => ?_, fun j k hj hn hk hkn e => ?_⟩
    · have := h1 (j - a) (by omega) (by omega)
      rw [hat _ (by omega), show j - a + a = j from by omega] at this
      exact this
    · have := h2 (j - a) (k - a) (by omega) (by omega) (by omega) (by omega) e
      omega
  · rintro ⟨f, h1, h2⟩
    refine ⟨fun j => f (j + a), fun j hj hn => ?_, fun j k hj hn hk hkn e => ?_⟩
    · rw [hat _ hj]; exact h1 (j + a) (by omega) (by omega)
    · have := h2 (j + a) (k + a) (by omega) (by omega) (by omega) (by omega) e
      omega
def GreedyL (homes : List (List Int)) : Int → List (List Int) → List Bool → List Int → Prop
  | _, [], _, bs => bs = []
  | i, h :: hs, fixed, bs => ∃ pre b post bs', bs = b :: bs' ∧ h = pre ++ b :: post ∧ at' false fixed b = false ∧ (∀ c ∈ pre, at' false fixed c = true ∨ ¬ Placeable homes (fixed.set c.toNat true) (i + 1)) ∧
    Placeable homes (fixed.set b.toNat true) (i + 1) ∧ GreedyL homes (i + 1) hs (fixed.set b.toNat true) bs'
theorem UsedOf.take {B : Int} {fixed : List Bool} {used : List Int} (h : UsedOf B fixed used) {b : Int} (hb : 0 ≤ b ∧ b < B) : UsedOf B (fixed.set b.toNat true) (used.set b.toNat 1) :=
  ⟨by simpa using h.1, by simpa using h.2.1, fun c c0 cB => by
    rw [X43 0 hb.1 (by rw [h.1]; exact hb.2) c0, X43 false hb.1 (by rw [h.2.1]; exact hb.2) c0]
    by_cases e : c = b
    · rw [if_pos e, if_pos e]; rfl
    · rw [if_neg e, if_neg e]; exact h.2.2 c c0 cB⟩
theorem Xgy {B : Int} {homes : List (List Int)} (hh : HomesOK B homes) (hB : 0 ≤ B ∧ B ≤ 1000) (hn : (homes.length : Int) ≤ 100000) (i : Nat) (hi : i < homes.length) (rec : List Int → List Int → Option (List Int × Bool)) {fixed : List Bool} {used : List Int} (hu : UsedOf B fixed used) (out : List Int) (ho : out.length ≤ 100000) :
    ∀ hs : List Int, (∀ b ∈ hs, 0 ≤ b ∧ b < B) → (∃ b ∈ hs, at' false fixed b = false ∧ Placeable homes (fixed.set b.toNat true) (i + 1)) →
      ∃ pre b post, hs = pre ++ b :: post ∧ at' false fixed b = false ∧ (∀ c ∈ pre, at' false fixed c = true ∨ ¬ Placeable homes (fixed.set c.toNat true) (i + 1)) ∧ Placeable homes (fixed.set b.toNat true) (i + 1) ∧
        Xx rec i homes B 1 out hs used = rec (out ++ [b]) (used.set b.toNat 1)
  | [], _, h => by obtain ⟨b, hb, _⟩ := h; cases hb
  | b :: hs, hr, hex => by
    obtain ⟨b0, bB⟩ := hr b List.mem_cons_self
    have hul := hu.1
    have hub := hu.2.2 b b0 bB
    have hbl : b < (used.length : Int) := by omega
    have hskip : (at' false fixed b = true ∨ ¬ Placeable homes (fixed.set b.toNat true) (i + 1)) → Xx rec i homes B 1 out (b :: hs) used = Xx rec i homes B 1 out hs used →
        ∃ pre b' post, b :: hs = pre ++ b' :: post ∧ at' false fixed b' = false ∧ (∀ c ∈ pre, at' false fixed c = true ∨ ¬ Placeable homes (fixed.set c.toNat true) (i + 1)) ∧ Placeable homes (fixed.set b'.toNat true) (i + 1) ∧
        Xx rec i homes B 1 out (b :: hs) used = rec (out ++ [b']) (used.set b'.toNat 1) := fun hno e => by
      obtain ⟨pre, b', post, h1, h2, h3, h4, h5⟩ := Xgy hh hB hn i hi rec hu out ho hs (fun c hc => hr c (List.mem_cons_of_mem _ hc)) (by
        obtain ⟨c, hc, h1, h2⟩ := hex
        rcases List.mem_cons.1 hc with rfl | hc
        · rcases hno with h | h
          · rw [h] at h1; cases h1
          · exact absurd h2 h
        · exact ⟨c, hc, h1, h2⟩)
      exact ⟨b :: pre, b', post, by rw [h1]; rfl, h2, fun c hc => by rcases List.mem_cons.1 hc with rfl | hc; exact hno; exact h3 c hc, h4, by rw [e]; exact h5⟩
    by_cases hf : at' false fixed b = true
    · refine hskip (.inl hf) ?_
      rw [Xx]
      unfold X5u
      rw [X54 0 b0 hbl, hub, if_pos hf]
      simp only [Option.bind_some, if_true]
    · have hf' : at' false fixed b = false := by simpa using hf
      rw [if_neg hf] at hub
      have hsub : lsub homes (w64 ((i : Int) + 1)) (homes.length : Int) = some (homes.drop (i + 1)) := by
        rw [w64_id (by omega) (by omega), Xa9 (by omega) (by omega) (by omega)]
        congr 1
        rw [show ((i : Int) + 1).toNat = i + 1 from by omega, show ((homes.length : Int) - ((i : Int) + 1)).toNat = homes.length - (i + 1) from by omega]
        exact List.take_of_length_le (by simp)
      have hhd : HomesOK B (homes.drop (i + 1)) := fun l hl => hh l (List.mem_of_mem_drop hl)
      obtain ⟨r, e, hr2⟩ := Xjv hhd hB (hu.take ⟨b0, bB⟩)
      rw [Xee (by omega)] at hr2
      have heq : Xx rec i homes B 1 out (b :: hs) used = if r = true then rec (out ++ [b]) (used.set b.toNat 1) else Xx rec i homes B 1 out hs used := by
        rw [Xx]
        unfold X5u
        rw [X54 0 b0 hbl, hub]
        simp only [Option.bind_some]
        rw [if_neg (by omega), show w64 (0 + 1) = 1 from by rw [w64_id (by omega) (by omega)]; rfl, X1s b0 hbl]
        simp only [Option.bind_some]
        rw [hsub]
        simp only [Option.bind_some]
        rw [e]
        simp only [Option.bind_some]
        rw [Xs (by simp; omega), X54 0 b0 (by simpa using hbl), X43 0 b0 hbl b0, if_pos rfl]
        simp only [Option.bind_some]
        rw [show w64 (1 - 1) = 0 from by rw [w64_id (by omega) (by omega)]; rfl, X1s b0 (by simpa using hbl)]
        simp only [Option.bind_some, List.set_set]
        rw [Xoc 0 b0 hbl hub]
      cases r with
      | true => rw [if_pos rfl] at heq; exact ⟨[], b, hs, rfl, hf', by simp, by exact_mod_cast hr2.1 rfl, heq⟩
      | false => rw [if_neg (by simp)] at heq; exact hskip (.inr fun hp => by have := hr2.2 (by exact_mod_cast hp); cases this) heq
theorem Xgz {B : Int} {homes : List (List Int)} (hh : HomesOK B homes) (hB : 0 ≤ B ∧ B ≤ 1000) (hn : (homes.length : Int) ≤ 100000) : ∀ (hs : List (List Int)) (n : Nat) (fixed : List Bool) (used out : List Int), homes.drop n = hs → UsedOf B fixed used → out.length = n → n ≤ homes.length → Placeable homes fixed n →
    ∃ bs, X14 homes B 1 hs n out used = some (out ++ bs, true) ∧ GreedyL homes n hs fixed bs
  | [], n, fixed, used, out, hd, hu, hl, hle, hp => ⟨[], by simp [X14], rfl⟩
  | l :: hs, n, fixed, used, out, hd, hu, hl, hle, hp => by
    have hlt : n < homes.length := by
      rcases Nat.lt_or_ge n homes.length with h | h
      · exact h
      · rw [List.drop_eq_nil_of_le h] at hd; cases hd
    have hd' : homes.drop (n + 1) = hs := by rw [← List.drop_drop, hd]; rfl
    have hat : at' [] homes (n : Int) = l := by
      unfold at'
      rw [Int.toNat_natCast, List.getD_eq_getElem?_getD, List.getElem?_eq_getElem hlt]
      rw [List.drop_eq_getElem_cons hlt] at hd
      exact (List.cons.inj hd).1
    have hi : 0 ≤ (n : Int) ∧ (n : Int) < homes.length := ⟨by omega, by omega⟩
    have hlr : ∀ b ∈ l, 0 ≤ b ∧ b < B := hat ▸ hh _ (X7i [] hi.1 hi.2)
    have hst := (Placeable.step hh hu.2.1 hi).1 hp
    rw [hat] at hst
    obtain ⟨pre, b, post, h1, h2, h3, h4, h5⟩ := Xgy hh hB hn n hlt (X14 homes B 1 hs (n + 1)) hu out (by omega) l hlr hst
    obtain ⟨b0, bB⟩ := hlr b (by rw [h1]; simp)
    obtain ⟨bs, e, hg⟩ := Xgz hh hB hn hs (n + 1) (fixed.set b.toNat true) (used.set b.toNat 1) (out ++ [b]) hd' (hu.take ⟨b0, bB⟩) (by simp [hl]) (by omega) (by exact_mod_cast h4)
    refine ⟨b :: bs, ?_, pre, b, post, bs, rfl, h1, h2, h3, h4, by exact_mod_cast hg⟩
    rw [X14]
    unfold X73
    rw [h5, e]
    simp
end Go.Proofs.YtmfppphlhgneeaaGreat
namespace Go.Proofs.YtmfppphlhgneeaaGreat
set_option linter.unusedVariables false
abbrev Hsh := Int × List (Int × Int)
def PairOK (p : Int × Int) : Prop := 0 ≤ p.1 ∧ p.1 < 2147483647 ∧ 0 ≤ p.2 ∧ p.2 < 2147483647
def HshOK (h : Hsh) : Prop := 1 ≤ h.1 ∧ h.1 ≤ 64 ∧ 1 ≤ h.2.length ∧ h.2.length ≤ 4 ∧ ∀ p ∈ h.2, PairOK p
def ItemOK (n : Int) : Prop := 0 ≤ n ∧ n < 2147483647
def homeL (h : Hsh) (n : Int) : List Int := h.2.map fun p => (p.1 * n + p.2) % 2147483647 % h.1
theorem Xjw : ∀ ps : List (Int × Int), (X1x ps = some 0 ∧ ∀ p ∈ ps, PairOK p) ∨ (X1x ps = some 2 ∧ ¬ ∀ p ∈ ps, PairOK p)
  | [] => .inl ⟨rfl, by simp⟩
  | p :: ps => by
    rw [X1x]
    unfold X7r
    split
    · rename_i h
      refine .inr ⟨rfl, fun ha => ?_⟩
      have := ha p List.mem_cons_self
      unfold PairOK at this; omega
    · rename_i h
      have hp : PairOK p := by unfold PairOK; omega
      rcases Xjw ps with ⟨e, h1⟩ | ⟨e, h1⟩
      · exact .inl ⟨e, fun q hq => by rcases List.mem_cons.1 hq with rfl | hq; exact hp; exact h1 q hq⟩
      · exact .inr ⟨e, fun ha => h1 fun q hq => ha q (List.mem_cons_of_mem _ hq)⟩
theorem Xch (h : Hsh) : (X2t h = some 0 ∧ HshOK h) ∨ (X2t h = some 2 ∧ ¬ HshOK h) := by
  unfold X2t
  split
  · rename_i hh
    refine .inr ⟨rfl, fun ha => ?_⟩
    unfold HshOK at ha; omega
  · rename_i hh
    rcases Xjw h.2 with ⟨e, h1⟩ | ⟨e, h1⟩
    · exact .inl ⟨e, by omega, by omega, by omega, by omega, h1⟩
    · exact .inr ⟨e, fun ha => h1 ha.2.2.2.2⟩
theorem Xi0 : ∀ ps, X4f ps = X1x ps
  | [] => rfl
  | p :: ps => by rw [X4f, X1x, Xi0 ps]; rfl
theorem rcheck (h : Hsh) : X69 h = X2t h := by
  unfold X69 X2t; rw [Xi0]
theorem Xjx {a b n B : Int} (ha : PairOK (a, b)) (hn : ItemOK n) (hB : 1 ≤ B) : Int.tmod (Int.tmod (w64 ((w64 (a * n)) + b)) 2147483647) B = (a * n + b) % 2147483647 % B := by
  unfold PairOK at ha; unfold ItemOK at hn
  dsimp only at ha
  have h1 : 0 ≤ a * n := Int.mul_nonneg ha.1 hn.1
  have h2 : a * n ≤ 2147483647 * 2147483647 := Int.mul_le_mul (by omega) (by omega) hn.1 (by omega)
  have e1 : (a * n + b).tmod 2147483647 = (a * n + b) % 2147483647 := Int.tmod_eq_emod_of_nonneg (by omega)
  rw [w64_id (x := a * n) (by omega) (by omega), w64_id (by omega) (by omega), e1, Int.tmod_eq_emod_of_nonneg (Int.emod_nonneg _ (by omega))]
theorem Xjy {B n : Int} (hB : 1 ≤ B) (hn : ItemOK n) : ∀ (ps : List (Int × Int)) (acc : List Int), (∀ p ∈ ps, PairOK p) → acc.length + ps.length ≤ 100 → X2u n B ps acc = some (acc ++ ps.map fun p => (p.1 * n + p.2) % 2147483647 % B)
  | [], acc, _, _ => by simp [X2u]
  | p :: ps, acc, hp, hl => by
    rw [X2u]
    unfold X7u
    simp only [List.length_cons] at hl
    rw [Xmw (by omega), Xs (by simp; omega)]
    simp only [Option.bind_some]
    rw [Xjy hB hn ps _ (fun q hq => hp q (List.mem_cons_of_mem _ hq)) (by simp; omega), Xjx (hp p List.mem_cons_self) hn hB]
    simp
theorem Xli {h : Hsh} (hk : HshOK h) {n : Int} (hn : ItemOK n) : X8t h n = some (homeL h n) := by
  unfold X8t
  have h4 := hk.2.2.2.1
  rw [Xjy hk.1 hn h.2 [] hk.2.2.2.2 (by simp; omega)]
  rfl
theorem Xi1 {B n : Int} (hB : 1 ≤ B) (hn : ItemOK n) : ∀ (ps : List (Int × Int)) (acc : List Int), (∀ p ∈ ps, PairOK p) → acc.length + ps.length ≤ 100 → X3f n B ps acc = some (acc ++ ps.map (fun p => (p.1 * n + p.2) % 2147483647 % B), 0)
  | [], acc, _, _ => by simp [X3f]
  | p :: ps, acc, hp, hl => by
    rw [X3f]
    unfold X8h
    simp only [List.length_cons] at hl
    rw [Xmw (by omega), Xs (by simp; omega)]
    simp only [Option.bind_some]
    rw [Xi1 hB hn ps _ (fun q hq => hp q (List.mem_cons_of_mem _ hq)) (by simp; omega), Xjx (hp p List.mem_cons_self) hn hB]
    simp
theorem Xjz {h : Hsh} (hk : HshOK h) {n : Int} (hn : ItemOK n) : X9k h n = some (homeL h n, 0) := by
  unfold X9k
  rcases Xch h with ⟨e, _⟩ | ⟨_, e⟩
  · rw [rcheck, e]
    simp only [Option.bind_some]
    have h4 := hk.2.2.2.1
    have := hn.1; have := hn.2
    rw [if_neg (by simp), if_neg (by omega), Xi1 hk.1 hn h.2 [] hk.2.2.2.2 (by simp; omega)]
    rfl
  · exact absurd hk e
theorem Xb0 {h : Hsh} (hk : HshOK h) (n : Int) : ∀ b ∈ homeL h n, 0 ≤ b ∧ b < h.1 := fun b hb => by
  obtain ⟨p, _, rfl⟩ := List.mem_map.1 hb
  have := hk.1
  exact ⟨Int.emod_nonneg _ (by omega), Int.emod_lt_of_pos _ (by omega)⟩
end Go.Proofs.YtmfppphlhgneeaaGreat
namespace Go.Proofs.YtmfppphlhgneeaaGreat
set_option linter.unusedVariables false
end Go.Proofs.YtmfppphlhgneeaaGreat
namespace Go.Proofs.YtmfppphlhgneeaaGreat
set_option maxRecDepth 100000
end Go.Proofs.YtmfppphlhgneeaaGreat
namespace Go.Proofs.YtmfppphlhgneeaaGreat
set_option linter.unusedVariables false
end Go.Proofs.YtmfppphlhgneeaaGreat
namespace Go.Proofs.YtmfppphlhgneeaaGreat
set_option linter.unusedVariables false
def PlacesL (ls : List (List Int)) (fixed : List Bool) : Prop := ∃ ps : List (Int × List Int), ps.map (·.2) = ls ∧ (∀ p ∈ ps, p.1 ∈ p.2 ∧ at' false fixed p.1 = false) ∧ (ps.map (·.1)).Nodup
theorem Xk0 {α β : Type} (f : α → β) {l m : List β} (h : l.Perm m) : ∀ ps : List α, ps.map f = l → ∃ qs : List α, qs.Perm ps ∧ qs.map f = m := by
  induction h with
  | nil => intro ps hp; exact ⟨ps, List.Perm.refl _, hp⟩
  | cons x _ ih =>
    intro ps hp
    cases ps with
    | nil => simp at hp
    | cons p ps =>
      simp only [List.map_cons, List.cons.injEq] at hp
      obtain ⟨qs, h1, h2⟩ := ih ps hp.2
      exact ⟨p :: qs, h1.cons p, by simp [hp.1, h2]⟩
  | swap x y l =>
    intro ps hp
    cases ps with
    | nil => simp at hp
    | cons p ps =>
      cases ps with
      | nil => simp at hp
      | cons q ps =>
        simp only [List.map_cons, List.cons.injEq] at hp
        exact ⟨q :: p :: ps, List.Perm.swap p q ps, by simp [hp.1, hp.2.1, hp.2.2]⟩
  | trans _ _ ih1 ih2 =>
    intro ps hp
    obtain ⟨qs, h1, h2⟩ := ih1 ps hp
    obtain ⟨rs, h3, h4⟩ := ih2 qs h2
    exact ⟨rs, h3.trans h1, h4⟩
theorem PlacesL.perm {l m : List (List Int)} {fixed : List Bool} (h : l.Perm m) : PlacesL l fixed → PlacesL m fixed := by
  rintro ⟨ps, h1, h2, h3⟩
  obtain ⟨qs, k1, k2⟩ := Xk0 _ h ps h1
  exact ⟨qs, k2, fun p hp => h2 p (k1.mem_iff.1 hp), (k1.map _).nodup_iff.2 h3⟩
theorem PlacesL.sub {l m : List (List Int)} {fixed : List Bool} (h : m.Sublist l) : PlacesL l fixed → PlacesL m fixed := by
  rintro ⟨ps, h1, h2, h3⟩
  subst h1
  obtain ⟨qs, k1, k2⟩ := List.sublist_map_iff.1 h
  exact ⟨qs, k2.symm, fun p hp => h2 p (k1.subset hp), h3.sublist (k1.map _)⟩
end Go.Proofs.YtmfppphlhgneeaaGreat
namespace Go.Proofs.YtmfppphlhgneeaaGreat
set_option linter.unusedVariables false
theorem Xk1 (x : Int) : ∀ (l : List Int) (i : Nat), ∃ r, X16 x l i = some r ∧ (0 ≤ r ↔ x ∈ l)
  | [], i => ⟨-1, rfl, by simp⟩
  | y :: l, i => by
    rw [X16]
    unfold X3d
    by_cases h : x = y
    · rw [if_pos h]; exact ⟨i, rfl, by simp [h]⟩
    · rw [if_neg h]
      obtain ⟨r, e, hr⟩ := Xk1 x l (i + 1)
      exact ⟨r, e, by rw [hr]; simp [h]⟩
theorem Xdy (l : List Int) (x : Int) : ∃ r, X17 l x = some r ∧ (r = true ↔ x ∈ l) := by
  unfold X17 X4q
  obtain ⟨r, e, hr⟩ := Xk1 x l 0
  rw [e]
  exact ⟨decide (0 ≤ r), rfl, by simp [hr]⟩
structure Asg (B : Int) (homes : List (List Int)) (bk : Bk) : Prop where
  ok : BkOK B homes bk
  le : ∀ j, 0 ≤ j → bk.count j ≤ 1
  has : ∀ j : Int, 0 ≤ j → j < homes.length → ∃ b, 0 ≤ b ∧ b < B ∧ b ∈ at' [] homes j ∧ at' (-1) bk b = j
theorem Asg.edge {B : Int} {homes : List (List Int)} {bk : Bk} (h : Asg B homes bk) {b : Int} (b0 : 0 ≤ b) (bB : b < B) (hn : 0 ≤ at' (-1) bk b) : b ∈ at' [] homes (at' (-1) bk b) := by
  have hb := h.ok.1
  have hv := h.ok.2 _ (X7i (-1) (l := bk) b0 (by omega))
  obtain ⟨c, c0, cB, hc, e⟩ := h.has _ hn hv.2
  by_cases hbc : b = c
  · rw [hbc] at e ⊢; rw [e]; rw [hbc] at hc; rw [e] at hc; exact hc
  · have := Xfs (l := bk) ⟨b0, by omega⟩ ⟨c0, by omega⟩ rfl e hbc
    have := h.le _ hn
    omega
end Go.Proofs.YtmfppphlhgneeaaGreat
end

section
namespace Go.Proofs.YtmfppphlhgneeaaGreat
set_option linter.unusedVariables false
theorem Xbv : ∀ {l : List Int}, (∀ x, l.count x ≤ 1) → l.Nodup
  | [], _ => List.nodup_nil
  | x :: l, h => by
    refine List.nodup_cons.2 ⟨fun hm => ?_, Xbv fun y => ?_⟩
    · have := h x
      rw [List.count_cons_self] at this
      have := List.count_pos_iff.2 hm
      omega
    · have := h y
      rw [List.count_cons] at this
      omega
theorem Asg.used {B : Int} {homes : List (List Int)} {bk : Bk} (h : Asg B homes bk) : (bk.filter fun x => decide (0 ≤ x)).length = homes.length := by
  have hn : (bk.filter fun x => decide (0 ≤ x)).Nodup := Xbv fun x => by
    by_cases hx : 0 ≤ x
    · have h1 := (List.filter_sublist (p := fun x => decide (0 ≤ x)) (l := bk)).count_le x
      have := h.le x hx
      omega
    · have : (bk.filter fun x => decide (0 ≤ x)).count x = 0 := List.count_eq_zero.2 fun hm => by
        have := (List.mem_filter.1 hm).2
        simp at this; omega
      omega
  have hb := h.ok.1
  have h1 := pig hn (m := (List.range homes.length).map fun (i : Nat) => (i : Int)) fun x hx => by
    obtain ⟨h2, h3⟩ := List.mem_filter.1 hx
    have := (h.ok.2 x h2).2
    have h4 : 0 ≤ x := by simpa using h3
    exact List.mem_map.2 ⟨x.toNat, List.mem_range.2 (by omega), by omega⟩
  have h2 := pig (l := (List.range homes.length).map fun (i : Nat) => (i : Int)) (m := bk.filter fun x => decide (0 ≤ x)) (Xbj List.nodup_range fun x _ y _ e => by omega) fun x hx => by
    obtain ⟨i, hi, rfl⟩ := List.mem_map.1 hx
    obtain ⟨b, b0, bB, _, e⟩ := h.has i (by omega) (by have := List.mem_range.1 hi; omega)
    refine List.mem_filter.2 ⟨?_, by simp⟩
    rw [← e]; exact X7i (-1) b0 (by omega)
  simp at h1 h2
  omega
end Go.Proofs.YtmfppphlhgneeaaGreat
end

section
namespace Go.Proofs.YtmfppphlhgneeaaGreat
set_option linter.unusedVariables false
theorem Xk2 {h : Hsh} (hk : HshOK h) {n : Int} (hn : ItemOK n) : X8u h n = some (homeL h n, 0) := by
  unfold X8u
  rcases Xch h with ⟨e, _⟩ | ⟨_, hc⟩
  · rw [e]
    simp only [Option.bind_some]
    have hi : X9i n = some true := by unfold X9i ItemOK at *; simp [hn]
    rw [if_neg (by simp), hi]
    simp only [Option.bind_some]
    rw [if_neg (by simp), Xli hk hn]; rfl
  · exact absurd hk hc
end Go.Proofs.YtmfppphlhgneeaaGreat
end

section
namespace Go.Proofs.YtmfppphlhgneeaaGreat
set_option linter.unusedVariables false
set_option maxRecDepth 100000
theorem Xn4 {s : ByteArray} {i : Int} (h0 : 0 ≤ i) (h1 : i < s.size) : ∃ c, sidx s i = some c ∧ 0 ≤ c ∧ c ≤ 255 := by
  unfold sidx
  rw [if_pos ⟨h0, h1⟩]
  have := (s.data.toList.getD i.toNat 0).toNat_lt
  exact ⟨_, rfl, by omega, by omega⟩
theorem Xod (w : ByteArray) (hw : w.size ≤ 100000) : ∀ (m fuel : Nat) (v : Int) (i : Nat), i + m = w.size → m < fuel → ItemOK v →
    ∃ s, X1d w (w.size : Int) fuel v (i : Int) = some s ∧ X6b w fuel v (i : Int) = some s ∧ ItemOK s
  | m, 0, _, _, _, h, _ => by omega
  | 0, fuel + 1, v, i, h1, h2, hv => by
    rw [X1d, X6b]
    unfold X37 X8w
    rw [if_neg (by omega), if_neg (by omega)]
    exact ⟨v, rfl, rfl, hv⟩
  | m + 1, fuel + 1, v, i, h1, h2, hv => by
    rw [X1d, X6b]
    unfold X37 X8w
    obtain ⟨c, e, c0, c1⟩ := Xn4 (s := w) (i := (i : Int)) (by omega) (by omega)
    unfold ItemOK at hv
    rw [if_pos (by omega), if_pos (by omega), e, Option.bind_some, Option.bind_some, w64_id (x := c) (by omega) (by omega), w64_id (x := v * 1000003) (by omega) (by omega), w64_id (x := v * 1000003 + c) (by omega) (by omega), w64_id (x := v * 1000003 + c + 1) (by omega) (by omega), w64_id (x := (i : Int) + 1) (by omega) (by omega)]
    exact Xod w hw m fuel _ (i + 1) (by omega) (by omega) ⟨Int.tmod_nonneg _ (by omega), Int.tmod_lt_of_pos _ (by omega)⟩
def sumI (w : ByteArray) : Int := (Xad w).getD 0
theorem Xm6 {w : ByteArray} (hw : w.size ≤ 100000) : Xac w = some (sumI w) ∧ Xad w = some (sumI w) ∧ ItemOK (sumI w) := by
  obtain ⟨s, h1, h2, h3⟩ := Xod w hw w.size big 1 0 (by omega) (by simp only [big]; omega) ⟨by omega, by omega⟩
  have e : Xad w = some s := h2
  have e2 : sumI w = s := by unfold sumI; rw [e]; rfl
  refine ⟨?_, by rw [e, e2], by rw [e2]; exact h3⟩
  unfold Xac X6p
  rw [show X1d w (w.size : Int) big 1 0 = some s from h1, Option.bind_some, e2]
theorem ccheck {h : Hsh} (hk : HshOK h) : X2t h = some 0 := by
  rcases Xch h with h1 | h1
  · exact h1.1
  · exact absurd hk h1.2
theorem Xco (w : ByteArray) : X4d w = some (decide (KeyP w)) := by
  rw [show X4d w = X70 w from rfl, Xds]
theorem Xdz {h : Hsh} (hk : HshOK h) {w : ByteArray} (hw : w.size ≤ 100000) : X59 h w = some (homeL h (sumI w)) := by
  unfold X59
  obtain ⟨h1, h2, h3⟩ := Xm6 hw
  rw [h1, Option.bind_some, Xk2 hk h3, Option.bind_some]
theorem Xn5 {h : Hsh} (hk : HshOK h) {w : ByteArray} (hw : KeyP w) : X5b h w = some (homeL h (sumI w), 0) := by
  unfold X5b X6t
  rw [ccheck hk, Option.bind_some, if_neg (by decide), Xco, Option.bind_some, if_neg (nb_t hw), Xdz hk (by have := hw.2; omega)]
  rfl
theorem r20homes_ok {h : Hsh} (hk : HshOK h) {w : ByteArray} (hw : KeyP w) : X35 h w = some (homeL h (sumI w), 0) := by
  unfold X35
  obtain ⟨h1, h2, h3⟩ := Xm6 (w := w) (by have := hw.2; omega)
  rw [rcheck, ccheck hk, Option.bind_some, if_neg (by decide), Xds, Option.bind_some, if_neg (nb_t hw), h2, Option.bind_some, Xjz hk h3]
  rfl
abbrev Ent := ByteArray × Int
def EntOK (e : Ent) : Prop := KeyP e.1 ∧ 0 ≤ e.2 ∧ e.2 < 2147483647
def AscE (l : List Ent) : Prop := l.Pairwise fun a b => sLt a.1 b.1
instance (e : Ent) : Decidable (EntOK e) := by unfold EntOK KeyP; infer_instance
theorem Xbk (e : Ent) : X6a e = some (decide (EntOK e)) := by
  unfold X6a
  rw [Xds, Option.bind_some]
  exact congrArg some (decide_eq_decide.2 (by unfold EntOK; rw [decide_eq_true_eq]; exact ⟨fun h => ⟨h.1.1, h.1.2, h.2⟩, fun h => ⟨⟨h.1, h.2.1⟩, h.2.2⟩⟩))
abbrev BR := ((Int × (List (Int × Int))) × Int × (List (List (ByteArray × Int)))) × Int
theorem Xk3 (kx : ByteArray → Int → Int → Int → Int → Option BR) (w : ByteArray) (a b c d : Int) : ∀ xs : List Ent, (∀ x ∈ xs, x.1 ≠ w) → X3u kx w a b c d xs = kx w a b c d
  | [], _ => rfl
  | x :: xs, h => by
    show X6d kx w a b c d (X3u kx w a b c d xs) x = _
    unfold X6d
    rw [if_neg (h x List.mem_cons_self)]
    exact Xk3 kx w a b c d xs fun y hy => h y (List.mem_cons_of_mem _ hy)
theorem Xow (rec : List Ent → Int → Int → Int → Option BR) (s : List Ent) (e : Ent) (a b c : Int) (hs : s.length ≤ 1000) (h : ∀ x ∈ s, sLt x.1 e.1) : X2w rec s e.1 e.2 a b c = rec (s ++ [e]) a b c := by
  unfold X2w
  rw [show big = (big - 1) + 1 from by simp only [big], X76]
  unfold X8k
  have hg : (if 0 < (s.length : Int) then ((lidx s (w64 ((s.length : Int) - 1))).bind fun u => some (decide (sLt e.1 u.1))) else some false) = some false := by
    by_cases c : 0 < (s.length : Int)
    · rw [if_pos c, w64_id (by omega) (by omega), X60 (ByteArray.empty, 0) (by omega) (by omega), Option.bind_some]
      refine congrArg some (decide_eq_false fun h2 => Xg7 h2 (h _ ?_))
      rw [List.getD_eq_getElem?_getD, List.getElem?_eq_getElem (by omega)]
      exact List.getElem_mem _
    · rw [if_neg c]
  rw [hg, Option.bind_some, if_neg (by decide)]
  unfold X4h
  rw [Xs (by first | omega | (simp; done) | (simp; omega)), Option.bind_some, w64_id (by omega) (by omega)]
  unfold psub
  rw [if_pos (by first | omega | (simp; done) | (simp; omega)), Option.bind_some, if_pos (by first | omega | (simp; done) | (simp; omega)), Option.bind_some]
  dsimp only
  rw [Xa9 (by omega) (by first | omega | (simp; done) | (simp; omega)) (by first | omega | (simp; done) | (simp; omega)), Option.bind_some, Xa9 (by omega) (by first | omega | (simp; done) | (simp; omega)) (by first | omega | (simp; done) | (simp; omega)), Option.bind_some]
  have e0 : ((((s ++ [(ByteArray.empty, (0 : Int))]).drop (0 + ((s.length : Int) + 1)).toNat).take (0 + (((s ++ [(ByteArray.empty, (0 : Int))]).length : Int) - 0) - (0 + ((s.length : Int) + 1))).toNat)).length = 0 := by first | omega | (simp; done) | (simp; omega)
  rw [e0]
  have e1 : ∀ src : List Ent, lcpy (s ++ [(ByteArray.empty, (0 : Int))]) (0 + ((s.length : Int) + 1)) 0 src = s ++ [(ByteArray.empty, 0)] := fun src => by
    unfold lcpy
    rw [List.take_of_length_le (by first | omega | (simp; done) | (simp; omega)), List.drop_of_length_le (by first | omega | (simp; done) | (simp; omega))]
    simp
  rw [e1]
  unfold X8j
  rw [X60 (ByteArray.empty, 0) (by omega) (by first | omega | (simp; done) | (simp; omega)), Option.bind_some, X1s (by omega) (by first | omega | (simp; done) | (simp; omega)), Option.bind_some, Int.toNat_natCast, List.set_append_right _ _ (by omega), Nat.sub_self]
  rfl
theorem Xk4 (kx : List Ent → Int → Int → Int → Option BR) (a b c : Int) (l : List Ent) (hl : l.length ≤ 1000) (hv : ∀ e ∈ l, EntOK e) (ha : AscE l) : ∀ (xs s : List Ent), s ++ xs = l →
    Xg kx l xs s.length s a b c = kx l a b c
  | [], s, h => by rw [List.append_nil] at h; subst h; rfl
  | e :: xs, s, h => by
    show X6e kx l (Xg kx l xs (s.length + 1)) e s.length s a b c = _
    unfold X6e
    have hm : e ∈ l := by rw [← h]; simp
    rw [Xbk, Option.bind_some, if_neg (nb_t (hv e hm)), Xa9 (by omega) (by omega) (by rw [← h]; first | omega | (simp; done) | (simp; omega)), Option.bind_some, show ((l.drop (0 : Int).toNat).take (((s.length : Nat) : Int) - 0).toNat) = s from by rw [← h]; simp]
    have hlt : ∀ x ∈ s, sLt x.1 e.1 := by
      unfold AscE at ha
      rw [← h, List.pairwise_append] at ha
      exact fun x hx => ha.2.2 x hx e List.mem_cons_self
    have hsl : s.length ≤ 1000 := by have := congrArg List.length h; simp at this; omega
    rw [Xk3 _ _ _ _ _ _ s (fun x hx he => Xdd x.1 (by have := hlt x hx; rw [← he] at this; exact this)), Xow _ s e a b c hsl hlt]
    have := Xk4 kx a b c l hl hv ha xs (s ++ [e]) (by rw [List.append_assoc]; exact h)
    rw [List.length_append] at this
    exact this
theorem Xft {h : Hsh} (hk : HshOK h) (kx : List (List Int) → Int → Int → Int → Option BR) (a b : Int) : ∀ (xs : List Ent) (acc : List (List Int)), acc.length + xs.length ≤ 1000 → (∀ e ∈ xs, EntOK e) →
    X3j kx a b h.1 h.2 xs acc = kx (acc ++ xs.map fun e => homeL h (sumI e.1)) a b h.1
  | [], acc, _, _ => by simp [X3j]
  | x :: xs, acc, hl, hv => by
    show X75 kx a b h.1 h.2 (X3j kx a b h.1 h.2 xs) x acc = _
    unfold X75
    simp only [List.length_cons] at hl
    rw [show ((h.1, h.2) : Hsh) = h from rfl, r20homes_ok hk (hv x List.mem_cons_self).1, Option.bind_some, Xs (by simp; omega), Option.bind_some, Xft hk kx a b xs _ (by simp; omega) (fun e he => hv e (List.mem_cons_of_mem _ he))]
    simp
def Held (B : Int) (l : List Ent) (bs : List Int) (n : Nat) (E : List (List Ent)) : Prop :=
  (E.length : Int) = B ∧ ∀ b : Nat, (b : Int) < B → (∃ k, k < n ∧ bs.getD k 0 = b ∧ E.getD b [] = [l.getD k (ByteArray.empty, 0)]) ∨ ((∀ k, k < n → bs.getD k 0 ≠ b) ∧ E.getD b [] = [])
theorem Xk5 {h : Hsh} (hk : HshOK h) (kx : Int → Int → List (List Ent) → Int → Int → Int → Option BR) (l : List Ent) (a b c d e : Int) {bs : List Int} (hb : bs.length = l.length) (hl : l.length ≤ 1000) (hr : ∀ x ∈ bs, 0 ≤ x ∧ x < h.1) (hn : bs.Nodup) : ∀ (xs : List Int) (n : Nat) (E : List (List Ent)), bs.drop n = xs → n ≤ bs.length → Held h.1 l bs n E →
    ∃ E', X2r kx l a b c d e xs n E = kx a b E' c d e ∧ Held h.1 l bs bs.length E'
  | [], n, E, hd, hle, hE => by
    have : bs.length ≤ n := List.drop_eq_nil_iff.1 hd
    obtain rfl : n = bs.length := by omega
    exact ⟨E, rfl, hE⟩
  | x :: xs, n, E, hd, hle, hE => by
    have hlt : n < bs.length := by
      rcases Nat.lt_or_ge n bs.length with h | h
      · exact h
      · rw [List.drop_eq_nil_of_le h] at hd; cases hd
    have hd' : bs.drop (n + 1) = xs := by rw [← List.drop_drop, hd]; rfl
    have hx : bs.getD n 0 = x := by
      rw [List.drop_eq_getElem_cons hlt] at hd
      rw [List.getD_eq_getElem?_getD, List.getElem?_eq_getElem hlt]
      exact (List.cons.inj hd).1
    have hxm : x ∈ bs := List.mem_of_mem_drop (i := n) (by rw [hd]; exact List.mem_cons_self)
    obtain ⟨x0, x1⟩ := hr x hxm
    have hu : ∀ k, k < n → bs.getD k 0 ≠ x := fun k hk2 he => by
      rw [← hx, List.getD_eq_getElem?_getD, List.getD_eq_getElem?_getD, List.getElem?_eq_getElem (by omega), List.getElem?_eq_getElem hlt] at he
      exact List.pairwise_iff_getElem.1 hn k n (by omega) hlt hk2 he
    have hE0 : E.getD x.toNat [] = [] := by
      rcases hE.2 x.toNat (by omega) with ⟨k, h1, h2, h3⟩ | ⟨h1, h2⟩
      · exact absurd (by omega) (hu k h1)
      · exact h2
    show ∃ E', X4g kx l a b c d e (X2r kx l a b c d e xs (n + 1)) x n E = _ ∧ _
    unfold X4g
    have hEl := hE.1
    rw [X26 (ByteArray.empty, 0) (by omega), Option.bind_some, X60 [] x0 (by omega), Option.bind_some, hE0, Xs (by simp), Option.bind_some, Option.bind_some, X1s x0 (by omega), Option.bind_some, List.nil_append]
    refine Xk5 hk kx l a b c d e hb hl hr hn xs (n + 1) _ hd' (by omega) ⟨by rw [List.length_set]; exact hEl, fun q hq => ?_⟩
    rw [List.getD_eq_getElem?_getD, List.getElem?_set]
    by_cases he : x.toNat = q
    · rw [if_pos he, if_pos (by omega)]
      exact .inl ⟨n, by omega, by omega, rfl⟩
    · rw [if_neg he, ← List.getD_eq_getElem?_getD]
      rcases hE.2 q hq with ⟨k, h1, h2, h3⟩ | ⟨h1, h2⟩
      · exact .inl ⟨k, by omega, h2, h3⟩
      · refine .inr ⟨fun k hk2 => ?_, h2⟩
        by_cases hkn : k = n
        · subst hkn; omega
        · exact h1 k (by omega)
theorem Xcv {B : Int} {homes : List (List Int)} : ∀ (hs : List (List Int)) (i : Int) (fixed : List Bool) (bs : List Int), (∀ l ∈ hs, ∀ b ∈ l, 0 ≤ b ∧ b < B) → (fixed.length : Int) = B → GreedyL homes i hs fixed bs →
    bs.length = hs.length ∧ (∀ k, k < bs.length → bs.getD k 0 ∈ hs.getD k []) ∧ bs.Nodup ∧ ∀ b ∈ bs, (0 ≤ b ∧ b < B) ∧ at' false fixed b = false
  | [], i, fixed, bs, _, _, hg => by cases hg; exact ⟨rfl, by simp, by simp, by simp⟩
  | l :: hs, i, fixed, bs, hr, hf, ⟨pre, b, post, bs', e0, e1, f1, n1, p1, g1⟩ => by
    subst e0
    obtain ⟨b0, b1⟩ := hr l List.mem_cons_self b (by rw [e1]; simp)
    obtain ⟨h1, h2, h3, h4⟩ := Xcv hs (i + 1) (fixed.set b.toNat true) bs' (fun x hx => hr x (List.mem_cons_of_mem _ hx)) (by rw [List.length_set]; exact hf) g1
    refine ⟨by simp [h1], fun k hk => ?_, List.nodup_cons.2 ⟨fun hm => ?_, h3⟩, fun c hc => ?_⟩
    · cases k with
      | zero => rw [List.getD_cons_zero, List.getD_cons_zero, e1]; simp
      | succ k => rw [List.getD_cons_succ, List.getD_cons_succ]; exact h2 k (by simpa using hk)
    · have := (h4 b hm).2
      rw [X43 false b0 (by omega) b0, if_pos rfl] at this
      cases this
    · rcases List.mem_cons.1 hc with rfl | hc
      · exact ⟨⟨b0, b1⟩, f1⟩
      · obtain ⟨⟨c0, c1⟩, h5⟩ := h4 c hc
        refine ⟨⟨c0, c1⟩, ?_⟩
        rw [X43 false b0 (by omega) c0] at h5
        split at h5
        · cases h5
        · exact h5
theorem first35 {B : Int} {H : List (List Int)} (hh : HomesOK B H) (hB : 1 ≤ B ∧ B ≤ 64) (hn : (H.length : Int) ≤ 1000) :
    (X6c H B 1 = some ([], false) ∧ H ≠ []) ∨ ∃ bs, X6c H B 1 = some (bs, true) ∧ bs.length = H.length ∧ (∀ k, k < bs.length → bs.getD k 0 ∈ H.getD k []) ∧ bs.Nodup ∧ ∀ b ∈ bs, 0 ≤ b ∧ b < B := by
  unfold X6c
  rw [Xbi (by omega) (by omega), Option.bind_some]
  have hu : UsedOf B (List.replicate B.toNat false) (List.replicate B.toNat 0) := ⟨by simp; omega, by simp; omega, fun b b0 b1 => by
    rw [Xeu _ _ b0 (by omega), Xeu _ _ b0 (by omega)]; rfl⟩
  obtain ⟨r, r1, r2⟩ := Xjv hh (by omega) hu
  rw [r1, Option.bind_some]
  cases r with
  | false =>
    refine .inl ⟨rfl, fun hnil => ?_⟩
    subst hnil
    exact absurd (r2.2 ⟨fun _ => 0, fun j h0 h1 => by simp at h1; omega, fun j k h0 h1 h2 h3 => by simp at h1; omega⟩) (by simp)
  | true =>
    right
    rw [if_neg (by decide)]
    have hp : Placeable H (List.replicate B.toNat false) ((0 : Nat) : Int) := r2.1 rfl
    obtain ⟨bs, b1, b2⟩ := Xgz (B := B) (homes := H) hh (by omega) (by omega) H 0 (List.replicate B.toNat false) (List.replicate B.toNat 0) [] List.drop_zero hu List.length_nil (Nat.zero_le _) hp
    obtain ⟨g1, g2, g3, g4⟩ := Xcv _ _ _ bs hh (by simp; omega) b2
    exact ⟨bs, b1, g1, g2, g3, fun b hb => (g4 b hb).1⟩
theorem Xi2 {h : Hsh} (hk : HshOK h) {l : List Ent} (hl : l.length ≤ 1000) (hl2 : l.length ≤ 256) (hv : ∀ e ∈ l, EntOK e) (ha : AscE l) :
    (∃ r, X3v h 1 l = some (r, 15) ∧ l ≠ []) ∨ ∃ E bs, X3v h 1 l = some ((h, 1, E), 0) ∧ bs.length = l.length ∧ bs.Nodup ∧ (∀ k, k < bs.length → bs.getD k 0 ∈ homeL h (sumI (l.getD k (ByteArray.empty, 0)).1)) ∧ Held h.1 l bs bs.length E := by
  unfold X3v
  rw [rcheck, ccheck hk, Option.bind_some, if_neg (by decide), if_neg (by omega), if_neg (by omega)]
  rw [show (Xg (Xc 1 h.2) l l 0 ([] : List Ent) 0 0 h.1) = Xc 1 h.2 l 0 0 h.1 from Xk4 _ 0 0 h.1 l hl hv ha l [] rfl]
  unfold Xc
  rw [Xft hk _ 0 0 l [] (by simp; omega) hv, List.nil_append]
  unfold X3i
  obtain ⟨B1, B2, P1, P2, P3⟩ := id hk
  have hh : HomesOK h.1 (l.map fun e => homeL h (sumI e.1)) := fun x hx b hb => by
    obtain ⟨e, he, rfl⟩ := List.mem_map.1 hx
    exact Xb0 hk _ b hb
  rcases first35 hh ⟨B1, B2⟩ (by simp; omega) with ⟨r1, r2⟩ | ⟨bs, r1, g1, g2, g3, g4⟩
  · rw [r1, Option.bind_some]
    exact .inl ⟨_, rfl, fun hnil => r2 (by rw [hnil]; rfl)⟩
  · right
    rw [r1, Option.bind_some]
    dsimp only
    rw [if_neg (by decide), Xs (by simp; omega), Option.bind_some, Xbi (by omega) (by omega), Option.bind_some, List.nil_append]
    rw [List.length_map] at g1
    unfold X74
    obtain ⟨E, e1, e2⟩ := Xk5 hk (X3h h.2) l h.1 1 0 0 h.1 (bs := bs) g1 hl g4 g3 bs 0 (List.replicate h.1.toNat []) rfl (by omega) ⟨by simp; omega, fun b hb => .inr ⟨fun k hk => by omega, by rw [List.getD_eq_getElem?_getD, List.getElem?_replicate, if_pos (by omega)]; rfl⟩⟩
    rw [e1]
    refine ⟨E, bs, rfl, g1, g3, fun k hk2 => ?_, e2⟩
    have := g2 k hk2
    rw [List.getD_eq_getElem?_getD, List.getElem?_map, List.getElem?_eq_getElem (show k < l.length by omega)] at this
    rw [List.getD_eq_getElem?_getD (l := l), List.getElem?_eq_getElem (show k < l.length by omega)]
    exact this
end Go.Proofs.YtmfppphlhgneeaaGreat
end

section
namespace Go.Proofs.YtmfppphlhgneeaaGreat
set_option linter.unusedVariables false
set_option maxRecDepth 100000
def K6 : List ByteArray := [⟨#[97, 110, 116]⟩, ⟨#[98, 101, 101]⟩, ⟨#[99, 97, 116]⟩, ⟨#[100, 111, 103]⟩, ⟨#[101, 101, 108]⟩, ⟨#[102, 111, 120]⟩]
theorem k6_asc1 : X6f K6 = some true := by kernel_rfl
theorem k6_asc : AscP K6 := by
  have h := k6_asc1
  rw [Xcf (by decide)] at h
  exact of_decide_eq_true (Option.some.inj h)
theorem k6_len : K6.length = 6 := rfl
def GoodE (n : Nat) (e : Ent) : Prop := ∃ i r : Nat, i < n ∧ i < 6 ∧ r < 90 ∧ e = (gd K6 i, (i : Int) * 100 + r)
theorem GoodE.ok {n : Nat} {e : Ent} (h : GoodE n e) : EntOK e := by
  obtain ⟨i, r, h1, h2, h3, rfl⟩ := h
  exact ⟨(k6_asc i (by rw [k6_len]; omega)).1, by dsimp only; omega, by dsimp only; omega⟩
structure DirP (x : Hsh × Int × List (List Ent)) (l : List Ent) : Prop where
  hk : HshOK x.1
  one : x.2.1 = 1
  few : l.length ≤ 3
  good : ∀ e ∈ l, GoodE 6 e
  asc : AscE l
  held : ∃ bs : List Int, bs.length = l.length ∧ bs.Nodup ∧ (∀ k, k < bs.length → bs.getD k 0 ∈ homeL x.1 (sumI (l.getD k (ByteArray.empty, 0)).1)) ∧ Held x.1.1 l bs bs.length x.2.2
theorem Xoe {l : List Ent} (hl : l.length ≤ 3) (hg : ∀ e ∈ l, GoodE 6 e) (ha : AscE l) (a b : Int) {d : List Int × Int} (hd : DiceOK d) :
    ∃ x l' e, Xw l a b d.1 d.2 = some (x, l', e) ∧ DirP x l' ∧ DiceOK e := by
  unfold Xw
  obtain ⟨v0, e0, h0, a0, b0, c0⟩ := dpick (d := (d.1, d.2)) hd (n := 4) (by omega)
  rw [h0, Option.bind_some]
  obtain ⟨v1, e1, h1, a1, b1, c1⟩ := dpick c0 (n := 9) (by omega)
  rw [h1, Option.bind_some]
  obtain ⟨v2, e2, h2, a2, b2, c2⟩ := dpick c1 (n := 9) (by omega)
  rw [h2, Option.bind_some]
  obtain ⟨v3, e3, h3, a3, b3, c3⟩ := dpick c2 (n := 9) (by omega)
  rw [h3, Option.bind_some]
  obtain ⟨v4, e4, h4, a4, b4, c4⟩ := dpick c3 (n := 9) (by omega)
  rw [h4, Option.bind_some]
  obtain ⟨v5, e5, h5, a5, b5, c5⟩ := dpick c4 (n := 9) (by omega)
  rw [h5, Option.bind_some]
  dsimp only
  rw [w64_id (x := 5 + v0) (by omega) (by omega), w64_id (x := 1 + v1) (by omega) (by omega), w64_id (x := 11 + v3) (by omega) (by omega)]
  have hk : HshOK ((5 + v0), ([((1 + v1), v2), ((11 + v3), v4), (31, v5)] : List (Int × Int))) := by
    refine ⟨by dsimp only; omega, by dsimp only; omega, by simp, by simp, fun p hp => ?_⟩
    simp only [List.mem_cons, List.not_mem_nil, or_false] at hp
    unfold PairOK
    rcases hp with rfl | rfl | rfl <;> dsimp only <;> omega
  generalize ((5 + v0), ([((1 + v1), v2), ((11 + v3), v4), (31, v5)] : List (Int × Int))) = h at hk
  rcases Xi2 hk (l := l) (by omega) (by omega) (fun e he => (hg e he).ok) ha with ⟨r, k1, k2⟩ | ⟨E, bs, k1, k2, k3, k4, k5⟩
  · rw [k1, Option.bind_some]
    dsimp only
    rw [if_pos (by decide)]
    rcases Xi2 hk (l := []) (by simp) (by simp) (by simp) List.Pairwise.nil with ⟨r, k1, k2⟩ | ⟨E, bs, k1, k2, k3, k4, k5⟩
    · exact absurd rfl k2
    · rw [k1, Option.bind_some]
      exact ⟨(h, 1, E), [], e5, rfl, ⟨hk, rfl, by simp, by simp, List.Pairwise.nil, bs, k2, k3, k4, k5⟩, c5⟩
  · rw [k1, Option.bind_some]
    dsimp only
    rw [if_neg (by decide)]
    exact ⟨(h, 1, E), l, e5, rfl, ⟨hk, rfl, hl, hg, ha, bs, k2, k3, k4, k5⟩, c5⟩
theorem Xn6 : ∀ (xs : List ByteArray) (i : Nat) (l : List Ent) (d : List Int × Int), K6.drop i = xs → i ≤ 6 → l.length ≤ 3 → (∀ e ∈ l, GoodE i e) → AscE l → DiceOK d →
    ∃ x l' e, X2g Xw xs i l d.1 d.2 = some (x, l', e) ∧ DirP x l' ∧ DiceOK e
  | [], i, l, d, hx, hi, hl, hg, ha, hd => Xoe hl (fun e he => by
      obtain ⟨j, r, h1, h2, h3, h4⟩ := hg e he
      exact ⟨j, r, by omega, h2, h3, h4⟩) ha 0 0 hd
  | w :: xs, i, l, d, hx, hi, hl, hg, ha, hd => by
    show ∃ x l' e, X47 Xw (X2g Xw xs (i + 1)) w i l d.1 d.2 = _ ∧ _
    obtain ⟨hi6, hw⟩ := Xhe hx
    rw [k6_len] at hi6
    have hx' : K6.drop (i + 1) = xs := by rw [← List.drop_drop, hx]; rfl
    have hg' : ∀ e ∈ l, GoodE (i + 1) e := fun e he => by
      obtain ⟨j, r, h1, h2, h3, h4⟩ := hg e he
      exact ⟨j, r, by omega, h2, h3, h4⟩
    unfold X47
    obtain ⟨v0, e0, h0, a0, b0, c0⟩ := dpick (d := (d.1, d.2)) hd (n := 2) (by omega)
    rw [h0, Option.bind_some]
    dsimp only
    split
    · rename_i hc
      obtain ⟨v1, e1, h1, a1, b1, c1⟩ := dpick c0 (n := 90) (by omega)
      rw [h1, Option.bind_some, Xs (by simp; omega), Option.bind_some, w64_id (x := (i : Int) * 100) (by omega) (by omega), w64_id (by omega) (by omega)]
      refine Xn6 xs (i + 1) _ e1 hx' (by omega) (by simp; omega) (fun e he => ?_) ?_ c1
      · rcases List.mem_append.1 he with h | h
        · exact hg' e h
        · rw [List.mem_singleton.1 h]
          exact ⟨i, v1.toNat, by omega, hi6, by omega, by rw [hw, Int.toNat_of_nonneg (by omega)]⟩
      · refine List.pairwise_append.2 ⟨ha, List.pairwise_singleton _ _, fun a hma b hmb => ?_⟩
        rw [List.mem_singleton.1 hmb]
        obtain ⟨j, r, g1, g2, g3, rfl⟩ := hg a hma
        rw [hw]
        exact Xeo k6_asc g1 (by rw [k6_len]; omega)
    · exact Xn6 xs (i + 1) l e0 hx' (by omega) hl hg' ha c0
theorem Xof {d : List Int × Int} (hd : DiceOK d) : ∃ x l e, X7w d = some (x, l, e) ∧ DirP x l ∧ DiceOK e := by
  exact Xn6 K6 0 [] d rfl (by omega) (by simp) (by simp) List.Pairwise.nil hd
theorem Xh0 (h : Hsh) (n : Int) : (homeL h n).length = h.2.length := by simp [homeL]
end Go.Proofs.YtmfppphlhgneeaaGreat
end

section
namespace Go.Proofs.YtmfppphlhgneeaaGreat
set_option linter.unusedVariables false
set_option maxRecDepth 100000
theorem Xog (f : Int → Option Bool) : ∀ (l : List Int) (i : Nat), (∀ x ∈ l, f x = some false) → Xd f l i = some (-1)
  | [], i, _ => rfl
  | x :: l, i, h => by
    rw [Xd]
    unfold X1g
    rw [h x List.mem_cons_self, Option.bind_some, if_neg (by decide)]
    exact Xog f l (i + 1) fun y hy => h y (List.mem_cons_of_mem _ hy)
def rowI (c : List Ent) : List Int := ((X2q 1 c).bind fun t => tobs t.1).getD []
theorem Xk6 {s : ByteArray} {x : Int} (h : x ∈ toB s) : 0 ≤ x ∧ x < 256 := by
  unfold toB at h
  obtain ⟨c, _, rfl⟩ := List.mem_map.1 h
  have := c.toNat_lt
  omega
theorem Xc8 (s : ByteArray) : (toB s).length = s.size := by unfold toB; rw [List.length_map]; rfl
structure BkP (h : Hsh) (l : List Ent) (E : List (List Ent)) : Prop where
  len : (E.length : Int) = h.1
  f2 : ∀ b, b < E.length → E.getD b [] = [] ∨ ∃ e ∈ l, E.getD b [] = [e] ∧ (b : Int) ∈ homeL h (sumI e.1)
  f3 : ∀ b b' e e', b < E.length → b' < E.length → E.getD b [] = [e] → E.getD b' [] = [e'] → e.1 = e'.1 → b = b'
  f4 : ∀ e ∈ l, ∃ b, b < E.length ∧ E.getD b [] = [e]
  f5 : ∀ e ∈ l, ∀ e' ∈ l, e.1 = e'.1 → e = e'
theorem Xk7 {l : List Ent} (ha : AscE l) {i j : Nat} (hi : i < l.length) (hj : j < l.length) (h : (l.getD i (ByteArray.empty, 0)).1 = (l.getD j (ByteArray.empty, 0)).1) : i = j := by
  rw [List.getD_eq_getElem?_getD, List.getD_eq_getElem?_getD, List.getElem?_eq_getElem hi, List.getElem?_eq_getElem hj] at h
  have h' : (l[i]).1 = (l[j]).1 := h
  rcases Nat.lt_trichotomy i j with c | c | c
  · have := List.pairwise_iff_getElem.1 ha i j hi hj c
    rw [h'] at this
    exact absurd this (Xdd _)
  · exact c
  · have := List.pairwise_iff_getElem.1 ha j i hj hi c
    rw [h'] at this
    exact absurd this (Xdd _)
theorem bkp {x : Hsh × Int × List (List Ent)} {l : List Ent} (h : DirP x l) : BkP x.1 l x.2.2 := by
  obtain ⟨bs, b1, b2, b3, b4, b5⟩ := h.held
  have hmem : ∀ k, k < l.length → l.getD k (ByteArray.empty, 0) ∈ l := fun k hk => by
    rw [List.getD_eq_getElem?_getD, List.getElem?_eq_getElem hk]; exact List.getElem_mem _
  have hk := h.hk
  refine ⟨b4, fun b hb => ?_, fun b b' e e' hb hb' he he' hee => ?_, fun e he => ?_, fun e he e' he' hee => ?_⟩
  · rcases b5 b (by omega) with ⟨k, k1, k2, k3⟩ | ⟨k1, k2⟩
    · exact .inr ⟨_, hmem k (by omega), k3, by rw [← k2]; exact b3 k k1⟩
    · exact .inl k2
  · rcases b5 b (by omega) with ⟨k, k1, k2, k3⟩ | ⟨k1, k2⟩
    · rcases b5 b' (by omega) with ⟨q, q1, q2, q3⟩ | ⟨q1, q2⟩
      · rw [k3] at he
        rw [q3] at he'
        have e1 := (List.cons.inj he).1
        have e2 := (List.cons.inj he').1
        have := Xk7 h.asc (i := k) (j := q) (by omega) (by omega) (by rw [e1, e2]; exact hee)
        subst this
        omega
      · rw [q2] at he'; cases he'
    · rw [k2] at he; cases he
  · obtain ⟨k, hk1, rfl⟩ := List.mem_iff_getElem.1 he
    have hb := Xb0 hk _ _ (b3 k (by omega))
    refine ⟨(bs.getD k 0).toNat, by omega, ?_⟩
    rcases b5 (bs.getD k 0).toNat (by omega) with ⟨q, q1, q2, q3⟩ | ⟨q1, q2⟩
    · have e : q = k := by
        rw [Int.toNat_of_nonneg hb.1, List.getD_eq_getElem?_getD, List.getD_eq_getElem?_getD, List.getElem?_eq_getElem q1, List.getElem?_eq_getElem (show k < bs.length by omega)] at q2
        have q2' : bs[q] = bs[k] := q2
        rcases Nat.lt_trichotomy q k with c | c | c
        · exact absurd q2' (List.pairwise_iff_getElem.1 b2 q k _ _ c)
        · exact c
        · exact absurd q2'.symm (List.pairwise_iff_getElem.1 b2 k q _ _ c)
      subst e
      rw [q3, List.getD_eq_getElem?_getD, List.getElem?_eq_getElem hk1]; rfl
    · exact absurd (by omega) (q1 k (by omega))
  · obtain ⟨k, hk1, rfl⟩ := List.mem_iff_getElem.1 he
    obtain ⟨q, hq1, rfl⟩ := List.mem_iff_getElem.1 he'
    have := Xk7 h.asc (i := k) (j := q) hk1 hq1 (by
      rw [List.getD_eq_getElem?_getD, List.getD_eq_getElem?_getD, List.getElem?_eq_getElem hk1, List.getElem?_eq_getElem hq1]; exact hee)
    subst this
    rfl
theorem Xh1 {β : Type} (k : ByteArray) (v : β) (k' : ByteArray) : ∀ l : List (ByteArray × β), mget (mput l k v) k' = if k = k' then some v else mget l k'
  | [] => by simp [mput, mget]
  | (a, b) :: l => by
    have ih := Xh1 k v k' l
    by_cases h1 : a = k
    · subst h1
      simp only [mput, if_pos, mget]
      by_cases h2 : a = k'
      · simp [h2]
      · simp [h2]
    · simp only [mput, if_neg h1, mget]
      by_cases h2 : a = k'
      · subst h2
        rw [if_pos rfl, if_pos rfl, if_neg (fun h => h1 h.symm)]
      · rw [if_neg h2, if_neg h2, ih]
theorem Xci (e : Ent) : X7s e = some (decide (EntOK e)) := by
  rw [show X7s e = X6a e from rfl, Xbk]
theorem Xlj : X18 [] = some true := rfl
theorem Xlk {e : Ent} (h : EntOK e) : X18 [e] = some true := by
  unfold X18
  rw [Xi]
  unfold X2e
  rw [Xci, Option.bind_some, if_neg (nb_t h), if_neg (by omega), Option.bind_some, Option.bind_some, if_neg (by decide)]
  rfl
theorem Xfu {h : Hsh} (hk : HshOK h) {l : List Ent} {E : List (List Ent)} (hb : BkP h l E) (hv : ∀ e ∈ l, EntOK e) : ∀ (xs : List (List Ent)) (i : Nat) (v : List (ByteArray × Bool)), E.drop i = xs → (∀ k, (mget v k).getD false = true → ∃ b e, b < i ∧ b < E.length ∧ E.getD b [] = [e] ∧ e.1 = k) →
    Xr h.2 xs i v h.1 1 = some 0
  | [], i, v, _, _ => rfl
  | c :: xs, i, v, hd, hs => by
    have hlt : i < E.length := by
      rcases Nat.lt_or_ge i E.length with h | h
      · exact h
      · rw [List.drop_eq_nil_of_le h] at hd; cases hd
    have hc : E.getD i [] = c := by
      rw [List.drop_eq_getElem_cons hlt] at hd
      rw [List.getD_eq_getElem?_getD, List.getElem?_eq_getElem hlt]
      exact (List.cons.inj hd).1
    have hd' : E.drop (i + 1) = xs := by rw [← List.drop_drop, hd]; rfl
    show X2k h.2 (Xr h.2 xs (i + 1)) c i v h.1 1 = _
    unfold X2k
    rcases hb.f2 i hlt with h1 | ⟨e, he, h1, h2⟩
    · rw [hc] at h1
      subst h1
      rw [if_neg (by simp), Xlj, Option.bind_some, Option.bind_some, if_neg (by decide)]
      exact Xfu hk hb hv xs (i + 1) v hd' fun k hk2 => by
        obtain ⟨b, e, g1, g2, g3, g4⟩ := hs k hk2
        exact ⟨b, e, by omega, g2, g3, g4⟩
    · have hc' := h1
      rw [hc] at h1
      subst h1
      rw [if_neg (by simp), Xlk (hv e he), Option.bind_some, Option.bind_some, if_neg (by decide)]
      show X2j _ _ _ _ _ _ _ _ = _
      unfold X2j
      rw [if_neg (fun hm => by
        obtain ⟨b, e', g1, g2, g3, g4⟩ := hs _ hm
        have := hb.f3 b i e' e g2 hlt g3 hc' g4
        omega), show ((h.1, h.2) : Hsh) = h from rfl, Xdz hk (by have := (hv e he).1.2; omega), Option.bind_some]
      obtain ⟨r, r1, r2⟩ := Xdy (homeL h (sumI e.1)) (i : Int)
      rw [r1, Option.bind_some, r2.2 h2, Option.bind_some, if_neg (by decide)]
      refine Xfu hk hb hv xs (i + 1) _ hd' fun k hk2 => ?_
      rw [Xh1] at hk2
      split at hk2
      · rename_i hek
        exact ⟨i, e, by omega, hlt, hc', hek⟩
      · obtain ⟨b, e', g1, g2, g3, g4⟩ := hs k hk2
        exact ⟨b, e', by omega, g2, g3, g4⟩
theorem Xh2 {x : Hsh × Int × List (List Ent)} {l : List Ent} (h : DirP x l) : X3e x = some 0 := by
  unfold X3e
  rw [ccheck h.hk, Option.bind_some, if_neg (by decide), h.one]
  rw [show X1y 1 = some true from rfl, Option.bind_some, Option.bind_some, if_neg (by
    have := (bkp h).len
    intro hc
    rcases hc with hc | hc
    · cases hc
    · exact hc this)]
  exact Xfu h.hk (bkp h) (fun e he => (h.good e he).ok) x.2.2 0 [] rfl (fun k hk => by simp [mget] at hk)
abbrev TR := (Int × Int × Int × (List (List Int))) × Int
theorem Xm7 (kx : List Int → Int → Int → Int → Int → Int → Int → Option TR) (a b c d e f : Int) : ∀ (xs acc : List Int), (∀ x ∈ xs, 0 ≤ x ∧ x < 256) → acc.length + xs.length ≤ 1000 →
    X2v kx a b c d e f xs acc = kx (acc ++ xs) a b c d e f
  | [], acc, _, _ => by simp [X2v]
  | x :: xs, acc, h, hl => by
    show X66 kx a b c d e f (X2v kx a b c d e f xs) x acc = _
    unfold X66
    simp only [List.length_cons] at hl
    have := h x List.mem_cons_self
    rw [w64_id (by omega) (by omega), Xs (by simp; omega), Option.bind_some, Xm7 kx a b c d e f xs _ (fun y hy => h y (List.mem_cons_of_mem _ hy)) (by simp; omega)]
    simp
theorem res257 : X6r 257 = some (257, true) := by kernel_rfl
theorem ref257 : X4l 257 = some 0 := by kernel_rfl
theorem Xi3 (kx : Int → Int → Int → List (List Int) → Int → Int → Int → Int → Option TR) (a b c : Int) : ∀ (xs acc : List (List Int)), (∀ r ∈ xs, r.length ≤ 1000) → acc.length + xs.length ≤ 1000 →
    X55 kx a b c xs acc = kx a b c (acc ++ xs) 0 0 0 b
  | [], acc, _, _ => by simp [X55]
  | r :: xs, acc, h, hl => by
    show X8v kx a b c (X55 kx a b c xs) r acc = _
    unfold X8v X2i
    simp only [List.length_cons] at hl
    have := h r List.mem_cons_self
    rw [Xs (by simp; omega), Option.bind_some, Option.bind_some, Xs (by simp; omega), Option.bind_some, List.nil_append, Xi3 kx a b c xs _ (fun y hy => h y (List.mem_cons_of_mem _ hy)) (by simp; omega)]
    simp
end Go.Proofs.YtmfppphlhgneeaaGreat
end

section
namespace Go.Proofs.YtmfppphlhgneeaaGreat
set_option linter.unusedVariables false
set_option maxRecDepth 100000
theorem Xm8 (l : List Int) (hl : l.length ≤ 100000) : ∀ (m fuel : Nat) (i : Nat), i + m = l.length → m < fuel → X5e l l fuel (i : Int) = some true
  | m, 0, _, _, h => by omega
  | 0, fuel + 1, i, h1, h2 => by
    rw [X5e]
    unfold X80
    rw [if_neg (by omega)]
  | m + 1, fuel + 1, i, h1, h2 => by
    rw [X5e]
    unfold X80
    rw [if_pos (by omega), X26 0 (by omega), Option.bind_some, Option.bind_some, if_neg (by simp), w64_id (by omega) (by omega), show (i : Int) + 1 = ((i + 1 : Nat) : Int) by omega]
    exact Xm8 l hl m fuel (i + 1) (by omega) (by omega)
theorem Xe0 {l : List Int} (hl : l.length ≤ 100000) : X8d l l = some true := by
  unfold X8d
  rw [if_neg (by simp)]
  exact Xm8 l hl l.length big 0 (by omega) (by simp only [big]; omega)
theorem Xk8 {l m : List Int} (h : l.length = m.length) (hk : ∀ k, k < l.length → l.getD k 0 = m.getD k 0) : l = m := by
  apply List.ext_getElem h
  intro k h1 h2
  have := hk k h1
  rw [List.getD_eq_getElem?_getD, List.getD_eq_getElem?_getD, List.getElem?_eq_getElem h1, List.getElem?_eq_getElem h2] at this
  exact this
theorem Xk9 {n : Nat} {L : List (List ByteArray)} (h : Twr n L) : ∀ (m fuel : Nat) (v : List Int), m ≤ L.length → m < fuel → v.length + m = L.length → (∀ k, k < v.length → v.getD k 0 = sN n (L.drop (L.length - k))) →
    ∃ r, X5j L (n : Int) fuel v (sN n (L.drop m) : Int) ((m : Int) - 1) = some (r, 0) ∧ r.length = L.length ∧ ∀ k, k < L.length → r.getD k 0 = sN n (L.drop (L.length - k))
  | m, 0, _, _, h, _, _ => by omega
  | 0, fuel + 1, v, hm, hf, hv, hg => by
    rw [X5j]
    unfold X87
    rw [if_neg (by omega)]
    exact ⟨v, rfl, by omega, fun k hk => hg k (by omega)⟩
  | m + 1, fuel + 1, v, hm, hf, hv, hg => by
    rw [X5j]
    unfold X87
    have h2 := h.n2
    have h8 := h.n8
    have hl := h.len
    have ha := h.asc m (by omega)
    have hs := Xer h m
    have hs' := Xer h (m + 1)
    have hd := Xjs (n := n) (L := L) (i := m) (by omega)
    rw [show ((m + 1 : Nat) : Int) - 1 = (m : Int) from by omega, if_pos (by omega), Xs (by simp; omega), Option.bind_some, X26 [] (by omega), Option.bind_some, Xmv (by omega), Option.bind_some]
    rw [show L.getD m [] = gl L m from rfl, w64_ceil (by omega) (by omega) (by omega) (by omega)]
    have hc : ((gl L m).length + (n : Int) - 1) / (n : Int) = (chN (gl L m).length n : Int) := by
      rcases Xfq (L := (gl L m).length) (n := n) with h3 | h3
      · exact h3.symm
      · omega
    rw [hc, w64_id (x := (m : Int) - 1) (by omega) (by omega), w64_id (by omega) (by omega), show ((sN n (L.drop (m + 1)) : Nat) : Int) + (chN (gl L m).length n : Int) = (sN n (L.drop m) : Int) from by omega]
    refine Xk9 h m fuel _ (by omega) (by omega) (by simp; omega) fun k hk => ?_
    rw [List.length_append, List.length_singleton] at hk
    rw [List.getD_eq_getElem?_getD]
    rcases Nat.lt_or_ge k v.length with h3 | h3
    · rw [List.getElem?_append_left h3, ← List.getD_eq_getElem?_getD]
      exact hg k h3
    · obtain rfl : k = v.length := by omega
      rw [List.getElem?_append_right (Nat.le_refl _), Nat.sub_self, show L.length - v.length = m + 1 by omega]
      rfl
theorem Xi4 {f : Int × List ByteArray} (h : FenP f) : ∃ r, X3x f = some (r, 0) ∧ X7n f = some (r, 0) ∧ r.length = (tw f).length ∧ ∀ k, k < (tw f).length → r.getD k 0 = sN f.1.toNat ((tw f).drop ((tw f).length - k)) := by
  obtain ⟨r, h1, h2, h3⟩ := Xju h
  have hT := twF h
  have hl := hT.len
  have hb := h.1
  obtain ⟨q, k1, k2, k3⟩ := Xk9 hT (tw f).length big [] (Nat.le_refl _) (by simp only [big]; omega) (by simp) (fun k hk => by simp at hk)
  rw [List.drop_length, show ((f.1.toNat : Nat) : Int) = f.1 by omega] at k1
  have e : q = r := Xk8 (by omega) fun k hk => by rw [k3 k (by omega), h3 k (by omega)]
  refine ⟨r, h1, ?_, h2, h3⟩
  unfold X7n
  rw [Xcm, Option.bind_some, show levelsI f = (tw f, 0) by unfold levelsI; rw [if_pos h]]
  dsimp only
  rw [if_neg (by decide), w64_id (by omega) (by omega), ← e]
  exact k1
theorem Xka (f : Int × List ByteArray) : ∃ r, X3x f = some r ∧ X7n f = some r ∧ r.1.length ≤ 300 := by
  by_cases h : FenP f
  · obtain ⟨r, h1, h2, h3, _⟩ := Xi4 h
    have hl := (twF h).len
    exact ⟨(r, 0), h1, h2, by dsimp only; omega⟩
  · refine ⟨([], 2), Xlh h, ?_, by simp⟩
    unfold X7n
    rw [Xcm, Option.bind_some, show levelsI f = ([], 2) by unfold levelsI; rw [if_neg h]]
    rfl
theorem Xkb (z1 : Int) (z2 : Bool) (a c : List Int) (hl : a.length = c.length) (hc : c.length ≤ 1000) (hx : ∀ k, k < a.length → 0 ≤ a.getD k 0 ∧ a.getD k 0 ≤ 1000000 ∧ 0 ≤ c.getD k 0 ∧ c.getD k 0 ≤ 1000000) : ∀ (m fuel : Nat) (v : List Int), v.length + m = c.length → m < fuel → (∀ k, k < v.length → v.getD k 0 = c.getD k 0 + a.getD k 0) →
    ∃ r, X5l c z1 z2 a fuel v (v.length : Int) = some (r, z1, z2, 0) ∧ r.length = c.length ∧ ∀ k, k < c.length → r.getD k 0 = c.getD k 0 + a.getD k 0
  | m, 0, _, _, h, _ => by omega
  | 0, fuel + 1, v, h1, h2, hg => by
    rw [X5l]
    unfold X89
    rw [if_neg (by omega)]
    exact ⟨v, rfl, by omega, fun k hk => hg k (by omega)⟩
  | m + 1, fuel + 1, v, h1, h2, hg => by
    rw [X5l]
    unfold X89
    have hb := hx v.length (by omega)
    rw [if_pos (by omega), X26 0 (by omega), Option.bind_some, X26 0 (by omega), Option.bind_some, Xs (by simp; omega), Option.bind_some, w64_id (x := a.getD v.length 0 + c.getD v.length 0) (by omega) (by omega), w64_id (by omega) (by omega)]
    have := Xkb z1 z2 a c hl hc hx m fuel (v ++ [a.getD v.length 0 + c.getD v.length 0]) (by simp; omega) (by omega) (fun k hk => by
      rw [List.length_append, List.length_singleton] at hk
      rw [List.getD_eq_getElem?_getD]
      rcases Nat.lt_or_ge k v.length with h3 | h3
      · rw [List.getElem?_append_left h3, ← List.getD_eq_getElem?_getD]
        exact hg k h3
      · obtain rfl : k = v.length := by omega
        rw [List.getElem?_append_right (Nat.le_refl _), Nat.sub_self]
        show a.getD v.length 0 + c.getD v.length 0 = _
        omega)
    rw [List.length_append, List.length_singleton] at this
    rw [show (v.length : Int) + 1 = ((v.length + 1 : Nat) : Int) by omega]
    exact this
theorem Xkc (f : Int × List ByteArray) (w : ByteArray) : ∃ r, X6o f w = some r ∧ X8e f w = some r ∧ r.1.length ≤ 300 := by
  by_cases h : FenP f
  · by_cases hw : KeyP w
    · obtain ⟨r, h1, h2, h3⟩ := Xn3 h hw
      obtain ⟨R, q1, q2, q3, q4⟩ := Xi4 h
      have hT := twF h
      have hl := hT.len
      have h4 : (trl (tw f) w (tw f).length).length = (tw f).length := Xhf ..
      obtain ⟨q, k1, k2, k3⟩ := Xkb (lastN f.2 w f.2.length : Int) (decide (gd f.2 (lastN f.2 w f.2.length) = w)) R (trl (tw f) w (tw f).length) (by omega) (by omega) (fun k hk => by
        rw [Xdw _ _ _ _ (by omega), q4 k (by omega)]
        have := Xhx hT w ((tw f).length - k)
        have := Xer hT ((tw f).length - k)
        omega) (tw f).length big [] (by simp [h4]) (by simp only [big]; omega) (fun k hk => by simp at hk)
      have e : q = r := Xk8 (by omega) fun k hk => by rw [k3 k (by omega), h3 k (by omega), Xdw _ _ _ _ (by omega), q4 k (by omega)]
      subst e
      refine ⟨_, h1, ?_, by dsimp only; omega⟩
      unfold X8e
      rw [Xdv, Option.bind_some, Xd5 h hw]
      dsimp only
      rw [if_neg (by decide), q2, Option.bind_some]
      exact k1
    · refine ⟨([], 0, false, 1), ?_, ?_, by simp⟩
      · unfold X6o; rw [Xdu, Option.bind_some, Xd4 h hw]; rfl
      · unfold X8e; rw [Xdv, Option.bind_some, Xd4 h hw]; rfl
  · refine ⟨([], 0, false, 2), ?_, ?_, by simp⟩
    · unfold X6o; rw [Xdu, Option.bind_some, Xd3 h]; rfl
    · unfold X8e; rw [Xdv, Option.bind_some, Xd3 h]; rfl
end Go.Proofs.YtmfppphlhgneeaaGreat
end
