/- What the proof needs, gathered by wip/gen/shake.py. -/
import Derived.Calls
import Derived.Deep.Quiet
import Derived.Below
import Derived.Laws.AppendOwn
import Derived.WalkKit
import Derived.Laws.OwnMore
import Derived.Deep.Slices
import Derived.ChangeOld
import Derived.ArgAppend
import Derived.RangeFuncIn
import Derived.RangeFuncRecord
import Derived.RangeFuncLeaves
import Derived.Laws.MakeOwn
import Derived.IntWalk
import Derived.Laws.IdiomStrings
import Derived.Laws.Cover3
import Derived.Laws.CopyOwn
import Derived.MapKept
import Derived.RangeFuncNested
import Derived.Test.YtfcicopgdahmcaaGreatDoorRows
import Derived.LaidEql
import Derived.Stop.Asserts
import Derived.RowKitTokens
import Derived.Test.YtfcicopgdahmcaaGreatDoorCards
import Derived.LaidLaws
import Derived.Look8
import Derived.MakeChecks
import Derived.Test.YtfcicopgdahmcaaGreatDoorTie
import Derived.LaidMore
import Derived.Lay
import Derived.SevenTiedAt
import Derived.Stop.Joined
import Derived.ProofKit
import Derived.OpenShut
import Derived.ShutString
import Derived.Test.YtfcicopgdahmcaaGreatDoorTopSchemesQ3

section
set_option maxHeartbeats 4000000
set_option maxRecDepth 100000
namespace Go.Proofs.YtfcicopgdahmcaaGreatDoor
open Go.RowKit
set_option linter.unusedSimpArgs false
set_option linter.unusedVariables false
set_option synthInstance.maxSize 2000
set_option synthInstance.maxHeartbeats 400000
variable {Fs : List Hp} {G : Hp} {a1 a0_3 a0_4 a0_2 a2 : Option Addr} {k1 k0_3 k0_4 p0 k0_2 k2 : Nat} {cc0_2 : List Value} {ee0_2 : List NE}
theorem unique_Key_c {x0_0 : Int} {x1 : List (Int × Bool)} {x2 : Int} {x3 : Int} {r : ((Int × Int × Int × (List Int) × (List Int)) × Int)} (hG : G ∈ Fs) (s1 : SlR (Rep.pair ri Rep.bool) G a1 k1 x1) (h : unique_Key x0_0 x1 x2 x3 = some r) : RetW Tryz.prog 174 #[.agg #[.int .i64 x0_0], .slice a1 x1.length k1, .int .i64 x2, .int .i64 x3] Fs [] [] (fun v bo so G => ∃ a0 : Option Addr, ∃ k0 : Nat, ∃ a1 : Option Addr, ∃ k1 : Nat, v = .tuple #[.agg #[.int .i64 r.1.1, .int .i64 r.1.2.1, .int .i64 r.1.2.2.1, .slice a0 r.1.2.2.2.1.length k0, .slice a1 r.1.2.2.2.2.length k1], .int .i64 r.2] ∧ bo = [] ∧ so = [] ∧ SlR ri G a0 k0 r.1.2.2.2.1 ∧ SlR ri G a1 k1 r.1.2.2.2.2) := by
 unfold unique_Key at h
 try dsimp only at h
 refine RetW.st [(0, _), (1, _), (2, _), (3, _)] Tryz.func174 Tryz.ntmps174 hG fun w0 S0 hS0 B0 => ?_
 refine .go 2 ?_
 refine .box [_] .ro rfl rfl rfl (fun b1 hb1 => ?_)
 refine .alloc .ro ty256 rfl (fun b2 hb2 => ?_)
 refine .go 5 ?_
 refine .q .ro (.load_own_a 1 [_] rfl rfl ty45 rfl) rfl (.go 2 ?_)
 obtain ⟨u3, hu3, r4⟩ := bind_some h
 refine .cS [_, _, _] Tryz.call170 (code_Fill_c mcs s1 hu3) (fun v6 bo so h5 => ?_)
 obtain ⟨a8, k9, cs10, rfl, rfl, rfl, o11⟩ := h5
 refine .gn 11 ?_
 refine .kR (fun y => y = ⟨[(32, .bool (decide ((u3.2 ≠ 0) ∧ (u3.2 ≠ 11))))], G :: Fs, [], []⟩) [(1, _), (2, _), (3, _), (4, _), (8, _), (11, _)] [_, _] [0, 1] [_] [0] 3 ?_ ?_
 ·rintro _ rfl
  refine .gn 1 ?_
  refine .cH r4 (fun c16 r17 => ?_) (fun c16 r18 => ?_)
  ·refine .go 2 ?_
   refine .q .ro (.build [_, _, _, _, _] [] ty256 pl256 rfl rfl) rfl (.go 1 ?_)
   refine .store 0 [_, _, _, _, _] [_, _] .ro rfl rfl rfl ty256 rfl rfl rfl rfl (.go 2 ?_)
   cases r17
   refine .drop 0 1 _ [] rfl rfl ?_
   refine .rW 2 [.cell 8 256, .tmp 9] [_, _] Tryz.func174 Tryz.results174 ⟨RV.cell_a 0 [_, _, _, _, _] rfl rfl ty256 rfl, RV.tmp rfl, trivial⟩ B0 hS0 (fun G' hg => ⟨none, 0, none, 0, rfl, rfl, rfl, (SlR.mono hg (SlR.nil (Rp' := ri))), (SlR.mono hg (SlR.nil (Rp' := ri)))⟩)
  ·refine .go 7 ?_
   refine .kR (fun y => y = ⟨[(40, .bool (decide ((x3 < 0) ∨ (32 < x3))))], G :: Fs, [], []⟩) [(1, _), (2, _), (3, _), (4, _), (8, _)] [_, _] [0, 1] [_] [0] 3 ?_ ?_
   ·rintro _ rfl
    refine .gn 1 ?_
    refine .kR (fun y => y = ⟨[(47, .bool (decide (((x3 < 0) ∨ (32 < x3)) ∨ (32 < (w64 (x2 + (w64 (2 * x3))))))))], G :: Fs, [], []⟩) [(1, _), (2, _), (3, _), (4, _), (8, _)] [_, _] [0, 1] [_] [0] 6 ?_ ?_
    ·rintro _ rfl
     refine .gn 1 ?_
     refine .cH r18 (fun c27 r28 => ?_) (fun c27 r29 => ?_)
     ·refine .go 2 ?_
      refine .q .ro (.build [_, _, _, _, _] [] ty256 pl256 rfl rfl) rfl (.store 0 [_, _, _, _, _] [_, _] .ro rfl rfl rfl ty256 rfl rfl rfl rfl (.go 2 ?_))
      cases r28
      refine .drop 0 1 _ [] rfl rfl ?_
      refine .rW 2 [.cell 8 256, .tmp 9] [_, _] Tryz.func174 Tryz.results174 ⟨RV.cell_a 0 [_, _, _, _, _] rfl rfl ty256 rfl, RV.tmp rfl, trivial⟩ B0 hS0 (fun G' hg => ⟨none, 0, none, 0, rfl, rfl, rfl, (SlR.mono hg (SlR.nil (Rp' := ri))), (SlR.mono hg (SlR.nil (Rp' := ri)))⟩)
     ·refine .go 9 ?_
      refine .q .ro (.load_own_a 1 [_] rfl rfl ty45 rfl) rfl (.go 4 ?_)
      refine .q .ro (.build [_, _, _, _, _] [(0, _), (2, _)] ty256 pl256 rfl rfl) rfl ?_
      refine .alloc .ro ty256 rfl (fun b30 hb30 => ?_)
      refine .store 0 [_, _, _, _, _] [_, _, _] .ro rfl rfl rfl ty256 rfl rfl rfl rfl (.go 8 ?_)
      refine .kB (fun y => ∃ (Z0 Z1 Z2 Z3 : _) (Z4 : List Int) (Z5 : _) (Z6 : Nat) (Z7 : _) (Z8 : List Int) (Z9 : _) (Z10 : Nat) (Z11 Z12 Z13 Z14 Z15 : _), y = ⟨[], Z0 :: Fs, [(b30, .cells #[.int .i64 Z1, .int .i64 Z2, .int .i64 Z3, .slice Z5 Z4.length Z6, .slice Z9 Z8.length Z10] 256 (0, 0)), (b2, .cells #[.int .i64 Z12, .int .i64 Z13, .int .i64 Z14, .slice none 0 0, .slice none 0 0] 256 (0, 0)), (b1, .cells #[.int .i64 Z15] 45 (0, 0))], [.s (.slice Z5 Z4.length Z6) 3 1 Z4.length Z7, .s (.slice Z9 Z8.length Z10) 3 1 Z8.length Z11]⟩ ∧ HpLe G Z0 ∧ Bd w0 S0 Fs Z0 ∧ OL ri Z0 Z7 Z4 ∧ OL ri Z0 Z11 Z8 ∧ unique_Key_J1 Z1 Z2 Z3 Z4 Z8 Z12 Z13 Z14 Z15 = some r) [(8, _), (13, _)] [] [] [_] [0] ?_ ?_
      ·rintro _ ⟨G21, v25, v26, v31, v32, a33, k34, cs35, v36, a37, k38, cs39, v40, v41, v42, v43, rfl, e44, B46, o47, o48, r49⟩
       refine .gn 0 ?_
       unfold unique_Key_J1 at r49
       try dsimp only at r49
       refine .go 2 ?_
       refine .q .ro (.load_own_a 0 [_, _, _, _, _] rfl rfl ty256 rfl) rfl (.store 1 [_, _, _, _, _] [_, _, _] .ro rfl rfl rfl ty256 rfl rfl rfl rfl (.go 2 ?_))
       refine .freezeR 0 rfl rfl o47 [_, _] rfl B46 (fun G50 e51 B52 s53 => ?_)
       refine .freezeR 0 rfl rfl (OL.mono e51 o48) [_] rfl B52 (fun G54 e55 B56 s57 => ?_)
       cases r49
       refine .drop 0 1 _ [] rfl rfl ?_
       refine .rW 3 [.cell 8 256, .tmp 9] [_, _] Tryz.func174 Tryz.results174 ⟨RV.cell_a 1 [_, _, _, _, _] rfl rfl ty256 rfl, RV.tmp rfl, trivial⟩ B56 hS0 (fun G' hg => ⟨a33, k34, a37, k38, rfl, rfl, rfl, (SlR.mono hg (SlR.mono e55 s53)), (SlR.mono hg s57)⟩)
      ·intro hb58
       refine .block (.own_nil 3 1 (.own_nil 3 1 (.pull 2 rfl [_, _, _] rfl (.pull 2 rfl [_, _, _] rfl (.pull 2 rfl [_, _, _] rfl (.pullS 1 rfl [_, _, _] rfl ?_))))))
       refine .lp (fun y m => ∃ (Z0 : Nat) (Z1 : List (Int × Bool)) (Z2 Z3 Z4 Z5 : _) (Z6 : List Int) (Z7 : _) (Z8 : Nat) (Z9 : _) (Z10 : List Int) (Z11 : _) (Z12 : Nat) (Z13 Z14 Z15 Z16 Z17 : _), y = ⟨[(59, .int .i64 (Z0 : Int))], [Z2], [(b30, .cells #[.int .i64 Z3, .int .i64 Z4, .int .i64 Z5, .slice Z7 Z6.length Z8, .slice Z11 Z10.length Z12] 256 (0, 0)), (b2, .cells #[.int .i64 Z14, .int .i64 Z15, .int .i64 Z16, .slice none 0 0, .slice none 0 0] 256 (0, 0)), (b1, .cells #[.int .i64 Z17] 45 (0, 0))], [.s (.slice Z7 Z6.length Z8) 3 1 Z6.length Z9, .s (.slice Z11 Z10.length Z12) 3 1 Z10.length Z13]⟩ ∧ Z1.length = m ∧ HpLe G Z2 ∧ Bd w0 S0 Fs Z2 ∧ OL ri Z2 Z9 Z6 ∧ OL ri Z2 Z13 Z10 ∧ List.drop Z0 x1 = Z1 ∧ unique_Key_L6 unique_Key_J1 x2 x3 x0_0 Z1 Z0 Z3 Z4 Z5 Z6 Z10 Z14 Z15 Z16 Z17 = some r) [(2, _), (3, _), (8, _), (12, _), (13, _), (57, _), (58, _)] [] [_] ⟨0, x1, G, x0_0, 0, (w64 (x2 + (w64 (2 * x3)))), ([] : List Int), none, 0, [], ([] : List Int), none, 0, [], 0, 0, 0, x0_0, rfl, rfl, (HpLe.refl _), B0, (OL.nil (Rp' := ri)), (OL.nil (Rp' := ri)), rfl, r29⟩ (fun y m hI hb59 => ?_)
       obtain ⟨i60, w61, G62, v63, v65, v66, v67, a68, k69, cs70, v71, a72, k73, cs74, v75, v76, v78, v79, rfl, rfl, e80, B81, o82, o83, g84, r85⟩ := hI
       refine .gn 0 ?_
       cases w61 with
       | nil =>
        rw [unique_Key_L6] at r85; try dsimp only at r85
        refine .go 5 ?_
        refine .cond_dec rfl (fun c => absurd c (drop_nil g84)) (fun _ => ?_)
        refine .exit rfl ?_
        exact (hb58 _ ⟨G62, v63, v65, v66, v67, a68, k69, cs70, v71, a72, k73, cs74, v75, v76, v78, v79, rfl, e80, B81, o82, o83, r85⟩).ar
       | cons x86 xs87 =>
        have r88 : unique_Key_B6 unique_Key_J1 x2 x3 x0_0 (unique_Key_L6 unique_Key_J1 x2 x3 x0_0 xs87 (i60 + 1)) x86 i60 v63 v65 v66 v67 v71 v75 v76 v78 v79 = some r := r85; clear r85; unfold unique_Key_B6 at r88; try dsimp only at r88
        refine .go 5 ?_
        refine .cond_dec rfl (fun _ => ?_) (fun c => absurd (drop_lt g84) c)
        refine .go 2 ?_
        refine .block (.go 3 ?_)
        obtain ⟨c89, p90, h91⟩ := SlR.get (SlR.mono e80 s1) (drop_idx g84)
        obtain ⟨_, _, rfl, rfl, rfl⟩ := h91
        refine .q .ro (.idxR (SlR.mono e80 s1) rfl rfl (drop_idx g84) sl218 ty220.sz) rfl (.q .ro (.load_rp_a [_, _] p90 mcs rfl ty220 rfl) rfl ?_)
        refine .alloc .ro ty220 rfl (fun b92 hb92 => ?_)
        refine .go 1 ?_
        refine .store 0 [_, _] [_, _, _, _] .ro rfl rfl rfl ty220 rfl rfl rfl rfl (.go 8 ?_)
        refine .cB r88 (fun c93 r94 => ?_) (fun c93 r95 => ?_)
        ·refine .exit rfl ?_
         refine .go 4 ?_
         refine .drop 1 0 [_, _, _] _ rfl rfl ?_
         exact (hb59 _ _ ⟨(i60 + 1), xs87, G62, v63, v65, v66, v67, a68, k69, cs70, v71, a72, k73, cs74, v75, v76, v78, v79, rfl, rfl, e80, B81, o82, o83, (drop_succ g84), r94⟩ (Nat.lt_succ_self _)).ax ⟨(congrArg (fun z => some (Value.int .i64 z)) (idx_wrap (SlR.len s1) g84)), rfl, rfl, rfl, rfl, rfl, rfl, rfl, trivial⟩
        ·refine .go 18 ?_
         refine .kB (fun y => ∃ (Z0 : List Int) (Z1 : _) (Z2 : Nat) (Z3 Z4 Z5 Z6 Z7 Z8 Z9 Z10 Z11 Z12 : _), y = ⟨[(17, .slice Z1 Z0.length Z2)], G62 :: Fs, [(b92, .cells #[.int .i64 Z4, .bool Z5] 220 (0, 0)), (b30, .cells #[.int .i64 Z6, .int .i64 Z7, .int .i64 Z8, .slice a68 v67.length k69, .slice a72 v71.length k73] 256 (0, 0)), (b2, .cells #[.int .i64 Z9, .int .i64 Z10, .int .i64 Z11, .slice none 0 0, .slice none 0 0] 256 (0, 0)), (b1, .cells #[.int .i64 Z12] 45 (0, 0))], [.s (.slice Z1 Z0.length Z2) 3 1 Z0.length Z3]⟩ ∧ OL ri G62 Z3 Z0 ∧ (unique_Key_J4 (unique_Key_L6 unique_Key_J1 x2 x3 x0_0 xs87 (i60 + 1)) x2 x3 x0_0 v67 v71) Z0 Z4 Z5 Z6 Z7 Z8 Z9 Z10 Z11 Z12 = some r) [(59, _), (2, _), (3, _), (8, _), (12, _), (13, _), (57, _), (58, _), (15, _)] [] [] [_, _, _] [0, 1, 2] ?_ ?_
         ·rintro _ ⟨v96, a97, k98, cs99, v100, v101, v102, v103, v104, v105, v106, v107, v108, rfl, o109, r110⟩
          refine .gn 0 ?_
          unfold unique_Key_J4 at r110
          try dsimp only at r110
          refine .go 1 ?_
          refine .freezeR 0 rfl rfl o109 [_, _, _] rfl B81 (fun G111 e112 B113 s114 => ?_)
          refine .drawL (.q 0 (.q 1 (.q 2 (.q 3 (.q 4 (.q 5 (.q 6 (.e 7 1 (.q 8 (.e 9 2 .nil)))))))))) [_, _, _, _] (by kernel_rfl) (by kernel_rfl) (pick_mem [0, 1, 2, 3] rfl) (.go 6 ?_)
          obtain ⟨u115, hu115, r116⟩ := bind_some r110
          obtain ⟨a117, k118, h119, s120⟩ := SlR.sub s114 hu115
          refine .dq (.sliceR s114 rfl hu115 sl22 ty3.sz (fun _ => .no) (fun h => .yes' rfl h) h119) rfl ?_
          obtain ⟨u121, hu121, r122⟩ := bind_some r116
          refine .appR (Q := ri) 0 .d1 sl22 ty3 rfl rfl rfl rfl rfl (OL.mono e112 o82) rfl rfl s120 rfl mcs hu121 rfl (fun a123 k124 cs125 o126 => ?_)
          refine .clsL (HpLe.refl _) (pick_mem [0, 1, 2, 3] rfl) (.go 1 ?_)
          refine .store 1 [_, _, _, _, _] [_, _, _, _] .d2 rfl rfl rfl ty22 rfl rfl rfl rfl (.go 6 ?_)
          obtain ⟨u127, hu127, r128⟩ := bind_some r122
          obtain ⟨a129, k130, h131, s132⟩ := SlR.sub s114 hu127
          refine .q .ro (.sliceR s114 rfl hu127 sl22 ty3.sz (fun _ => .no) (fun h => .yes' rfl h) h131) rfl (.go 3 ?_)
          refine .kB (fun y => ∃ (Z0 Z1 Z2 Z3 Z4 : _) (Z5 : List Int) (Z6 : _) (Z7 : Nat) (Z8 Z9 Z10 Z11 Z12 : _), y = ⟨[], G111 :: Fs, [(b92, .cells #[.int .i64 Z0, .bool Z1] 220 (0, 0)), (b30, .cells #[.int .i64 Z2, .int .i64 Z3, .int .i64 Z4, .slice Z6 Z5.length Z7, .slice a72 v71.length k73] 256 (0, 0)), (b2, .cells #[.int .i64 Z9, .int .i64 Z10, .int .i64 Z11, .slice none 0 0, .slice none 0 0] 256 (0, 0)), (b1, .cells #[.int .i64 Z12] 45 (0, 0))], [.s (.slice Z6 Z5.length Z7) 3 1 Z5.length Z8]⟩ ∧ OL ri G111 Z8 Z5 ∧ (unique_Key_J2 (unique_Key_L6 unique_Key_J1 x2 x3 x0_0 xs87 (i60 + 1)) v96 x3 x0_0 v71) Z0 Z1 Z2 Z3 Z4 Z5 Z9 Z10 Z11 Z12 = some r) [(17, _), (59, _), (2, _), (3, _), (8, _), (12, _), (13, _), (57, _), (58, _), (15, _)] [] [] [_, _] [1, 2] ?_ ?_
          ·rintro _ ⟨v133, v134, v135, v136, v137, v138, a139, k140, cs141, v142, v143, v144, v145, rfl, o146, r147⟩
           refine .gn 0 ?_
           unfold unique_Key_J2 at r147
           try dsimp only at r147
           refine .go 1 ?_
           refine .drawL (.q 0 (.q 1 (.q 2 (.q 3 (.q 4 (.q 5 (.q 6 (.q 7 (.q 8 (.e 9 1 (.e 10 1 (.e 11 1 (.q 12 (.e 13 2 .nil)))))))))))))) [_, _, _, _] (by kernel_rfl) (by kernel_rfl) (pick_mem [0, 1, 2, 3] rfl) (.go 7 ?_)
           obtain ⟨u148, hu148, r149⟩ := bind_some r147
           obtain ⟨c150, p151, h152⟩ := SlR.get s114 hu148
           obtain rfl := h152
           refine .dq (.idxR s114 rfl rfl hu148 sl22 ty3.sz) rfl (.dq (.load_rp p151 mcs rfl ty3 rfl) rfl ?_)
           obtain ⟨u153, hu153, r154⟩ := bind_some r149
           refine .cVd [_, _, _] Tryz.call77 (residue_Field_Mul_c mcs  hu153) ?_
           refine .clsL (HpLe.refl _) (pick_mem [0, 1, 2, 3] rfl) ?_
           refine .lit [_] [(0, _)] .d1 sl22 ty3 rfl rfl rfl rfl rfl rfl (fun b155 hb155 => ?_)
           have o156 : OL ri G111 [.int .i64 u153] ([u153] : List Int) := ((OL.cons rfl (Rep.intI .i64 u153) (OL.nil (Rp' := ri))) :)
           refine .reval 123 (n' := ([u153] : List Int).length) rfl rfl (.clsL (HpLe.refl _) (pick_mem [0, 1, 2, 3] rfl) ?_)
           obtain ⟨u157, hu157, r158⟩ := bind_some r154
           refine .appO (Q := ri) 1 .d1 sl22 ty3 rfl rfl rfl rfl rfl rfl (OL.mono e112 o83) o156 rfl rfl rfl B113 hu157 rfl (fun a159 k160 cs161 o162 => ?_)
           refine .clsL (HpLe.refl _) (pick_mem [0, 1, 2, 3] rfl) (.go 1 ?_)
           refine .store 1 [_, _, _, _, _] [_, _, _, _] .d2 rfl rfl rfl ty22 rfl rfl rfl rfl (.go 6 ?_)
           refine .store 1 [_, _, _, _, _] [_, _, _, _] .ro rfl rfl rfl ty3 rfl rfl rfl rfl (.go 6 ?_)
           refine .drop 1 0 [_, _, _] _ rfl rfl ?_
           exact (hb59 _ _ ⟨(i60 + 1), xs87, G111, v135, (w64 (v136 + 1)), v137, v138, a139, k140, cs141, u157, a159, k160, cs161, v142, v143, v144, v145, rfl, rfl, (HpLe.trans e80 e112), B113, o146, o162, (drop_succ g84), r158⟩ (Nat.lt_succ_self _)).ax ⟨(congrArg (fun z => some (Value.int .i64 z)) (idx_wrap (SlR.len s1) g84)), rfl, rfl, rfl, rfl, rfl, rfl, rfl, trivial⟩
          ·intro hb163
           refine .block (.pull 1 rfl [_, _, _, _] rfl ?_)
           refine .lp (fun y m => ∃ (Z0 : Nat) (Z1 Z2 : List Int) (Z3 : _) (Z4 : Nat) (Z5 : _), y = ⟨[(96, .int .i64 (Z0 : Int))], [], [(b30, .cells #[.int .i64 v102, .int .i64 v103, .int .i64 v104, .slice Z3 Z2.length Z4, .slice a72 v71.length k73] 256 (0, 0))], [.s (.slice Z3 Z2.length Z4) 3 1 Z2.length Z5]⟩ ∧ Z1.length = m ∧ OL ri G111 Z5 Z2 ∧ List.drop Z0 u127 = Z1 ∧ unique_Key_L3 (unique_Key_J2 (unique_Key_L6 unique_Key_J1 x2 x3 x0_0 xs87 (i60 + 1)) v96 x3 x0_0 v71) x0_0 v102 v103 v104 v100 v101 v105 v106 v107 v108 Z1 Z2 = some r) [(17, _), (59, _), (2, _), (3, _), (8, _), (12, _), (13, _), (57, _), (58, _), (15, _), (94, _), (95, _)] [_, _, _] [_, _] ⟨0, u127, u121, a123, k124, cs125, rfl, rfl, o126, rfl, r128⟩ (fun y m hI hb164 => ?_)
           obtain ⟨i165, w166, v167, a168, k169, cs171, rfl, rfl, o172, g173, r175⟩ := hI
           refine .gn 0 ?_
           cases w166 with
           | nil =>
            rw [unique_Key_L3] at r175; try dsimp only at r175
            refine .go 5 ?_
            refine .cond_dec rfl (fun c => absurd c (drop_nil g173)) (fun _ => ?_)
            refine .exit rfl (.pull 3 rfl [_, _, _, _] rfl (.pull 3 rfl [_, _, _, _] rfl (.pull 2 rfl [_, _, _, _] rfl (.pull 3 rfl [_, _, _, _] rfl ?_))))
            exact (hb163 _ ⟨v100, v101, v102, v103, v104, v167, a168, k169, cs171, v105, v106, v107, v108, rfl, o172, r175⟩).ar
           | cons x176 xs177 =>
            have r178 : unique_Key_B3 (unique_Key_J2 (unique_Key_L6 unique_Key_J1 x2 x3 x0_0 xs87 (i60 + 1)) v96 x3 x0_0 v71) x0_0 v102 v103 v104 v100 v101 v105 v106 v107 v108 (unique_Key_L3 (unique_Key_J2 (unique_Key_L6 unique_Key_J1 x2 x3 x0_0 xs87 (i60 + 1)) v96 x3 x0_0 v71) x0_0 v102 v103 v104 v100 v101 v105 v106 v107 v108 xs177) x176 v167 = some r := r175; clear r175; unfold unique_Key_B3 at r178; try dsimp only at r178
            refine .go 5 ?_
            refine .cond_dec rfl (fun _ => ?_) (fun c => absurd (drop_lt g173) c)
            refine .go 2 ?_
            refine .block (.go 2 ?_)
            obtain ⟨c179, p180, h181⟩ := SlR.get s132 (drop_idx g173)
            obtain rfl := h181
            refine .q .ro (.idxR s132 rfl rfl (drop_idx g173) sl22 ty3.sz) rfl (.q .ro (.load_rp p180 mcs rfl ty3 rfl) rfl (.go 2 ?_))
            refine .drawL (.q 0 (.q 1 (.q 2 (.q 3 (.q 4 (.q 5 (.q 6 (.e 7 1 (.e 8 1 (.e 9 1 (.e 10 1 (.q 11 (.e 12 2 .nil))))))))))))) [_, _, _, _] (by kernel_rfl) (by kernel_rfl) (pick_mem [0, 1, 2, 3] rfl) (.go 7 ?_)
            obtain ⟨u182, hu182, r183⟩ := bind_some r178
            refine .cVd [_, _, _] Tryz.call77 (residue_Field_Mul_c mcs  hu182) ?_
            refine .clsL (HpLe.refl _) (pick_mem [0, 1, 2, 3] rfl) ?_
            obtain ⟨u184, hu184, r185⟩ := bind_some r183
            refine .cVd [_, _, _] Tryz.call190 (residue_Field_Sub_c mcs  hu184) ?_
            refine .clsL (HpLe.refl _) (pick_mem [0, 1, 2, 3] rfl) ?_
            refine .lit [_] [(0, _)] .d1 sl22 ty3 rfl rfl rfl rfl rfl rfl (fun b186 hb186 => ?_)
            have o187 : OL ri G111 [.int .i64 u184] ([u184] : List Int) := ((OL.cons rfl (Rep.intI .i64 u184) (OL.nil (Rp' := ri))) :)
            refine .reval 109 (n' := ([u184] : List Int).length) rfl rfl (.clsL (HpLe.refl _) (pick_mem [0, 1, 2, 3] rfl) ?_)
            obtain ⟨u188, hu188, r189⟩ := bind_some r185
            refine .appO (Q := ri) 0 .d1 sl22 ty3 rfl rfl rfl rfl rfl rfl o172 o187 rfl rfl rfl B113 hu188 rfl (fun a191 k192 cs193 o194 => ?_)
            refine .clsL (HpLe.refl _) (pick_mem [0, 1, 2, 3] rfl) (.go 1 ?_)
            refine .store 0 [_, _, _, _, _] [_, _, _, _] .d2 rfl rfl rfl ty22 rfl rfl rfl rfl (.go 6 ?_)
            exact (hb164 _ _ ⟨(i165 + 1), xs177, u188, a191, k192, cs193, rfl, rfl, o194, (drop_succ g173), r189⟩ (Nat.lt_succ_self _)).ax ⟨(congrArg (fun z => some (Value.int .i64 z)) (idx_wrap (SlR.len s132) g173)), rfl, rfl, rfl, rfl, rfl, rfl, rfl, rfl, rfl, rfl, rfl, rfl, trivial⟩
         ·intro hb195
          refine .block (.own_nil 3 1 ?_)
          refine .lp (fun y m => ∃ (Z0 : Nat) (Z1 : _) (Z2 : List Int) (Z3 : _) (Z4 : Nat) (Z5 Z6 : _), y = ⟨[(16, .int .i64 Z1), (17, .slice Z3 Z2.length Z4), (71, .int .i64 Z6)], [], [], [.s (.slice Z3 Z2.length Z4) 3 1 Z2.length Z5]⟩ ∧ Z0 = m ∧ OL ri G62 Z5 Z2 ∧ unique_Key_L5 (unique_Key_J4 (unique_Key_L6 unique_Key_J1 x2 x3 x0_0 xs87 (i60 + 1)) x2 x3 x0_0 v67 v71) (i60 : Int) x0_0 (w64 ((w64 (x2 + x3)) + 1)) x86.1 x86.2 v63 v65 v66 v75 v76 v78 v79 Z0 Z1 Z2 Z6 = some r) [(59, _), (2, _), (3, _), (8, _), (12, _), (13, _), (57, _), (58, _), (15, _), (14, _), (70, _)] [_, _, _, _] [_, _, _] ⟨big, 1, ([] : List Int), none, 0, [], 0, rfl, rfl, (OL.nil (Rp' := ri)), r95⟩ (fun y m hI hb196 => ?_)
          obtain ⟨n197, v198, v199, a200, k201, cs202, v203, rfl, rfl, o204, r205⟩ := hI
          refine .gn 0 ?_
          obtain ⟨m206, rfl⟩ : ∃ m, n197 = m + 1 := by cases n197 with | zero => exact absurd (show (none : Option _) = some _ from r205) (by simp) | succ m => exact ⟨m, rfl⟩
          have r207 : unique_Key_B5 (unique_Key_J4 (unique_Key_L6 unique_Key_J1 x2 x3 x0_0 xs87 (i60 + 1)) x2 x3 x0_0 v67 v71) (i60 : Int) x0_0 (w64 ((w64 (x2 + x3)) + 1)) x86.1 x86.2 v63 v65 v66 v75 v76 v78 v79 (unique_Key_L5 (unique_Key_J4 (unique_Key_L6 unique_Key_J1 x2 x3 x0_0 xs87 (i60 + 1)) x2 x3 x0_0 v67 v71) (i60 : Int) x0_0 (w64 ((w64 (x2 + x3)) + 1)) x86.1 x86.2 v63 v65 v66 v75 v76 v78 v79 m206) v198 v199 v203 = some r := r205; clear r205; unfold unique_Key_B5 at r207; try dsimp only at r207
          refine .go 5 ?_
          refine .cH r207 (fun c208 r209 => ?_) (fun c208 r210 => ?_)
          ·refine .go 2 ?_
           refine .block (.go 4 ?_)
           refine .lit [_] [(0, _)] .ro sl22 ty3 rfl rfl rfl rfl rfl rfl (fun b211 hb211 => ?_)
           have o212 : OL ri G62 [.int .i64 v198] ([v198] : List Int) := ((OL.cons rfl (Rep.intI .i64 v198) (OL.nil (Rp' := ri))) :)
           refine .reval 75 (n' := ([v198] : List Int).length) rfl rfl ?_
           obtain ⟨u213, hu213, r214⟩ := bind_some r209
           refine .appO (Q := ri) 0 .ro sl22 ty3 rfl rfl rfl rfl rfl rfl o204 o212 rfl rfl rfl B81 hu213 rfl (fun a215 k216 cs217 o219 => ?_)
           refine .go 7 ?_
           obtain ⟨u221, hu221, r222⟩ := bind_some r214
           refine .cV [_, _, _] Tryz.call77 (residue_Field_Mul_c mcs  hu221) ?_
           refine .go 7 ?_
           exact (hb196 _ _ ⟨m206, u221, u213, a215, k216, cs217, (w64 (v203 + 1)), rfl, rfl, o219, r222⟩ (Nat.lt_succ_self _)).ar
          ·refine .exit rfl ?_
           exact (hb195 _ ⟨v199, a200, k201, cs202, x86.1, x86.2, v63, v65, v66, v75, v76, v78, v79, rfl, o204, r210⟩).ar
    ·intro hb24
     refine .split 41 rfl (fun c23 => ?_) (fun c23 => ?_)
     ·refine .go 6 ?_
      exact (hb24 _ rfl).ax ⟨dor_t c23, rfl, rfl, rfl, rfl, rfl, trivial⟩
     ·refine .go 11 ?_
      exact (hb24 _ rfl).ax ⟨dor_f c23, rfl, rfl, rfl, rfl, rfl, trivial⟩
   ·intro hb20
    refine .split 37 rfl (fun c19 => ?_) (fun c19 => ?_)
    ·refine .go 3 ?_
     exact (hb20 _ rfl).ax ⟨dor_t c19, rfl, rfl, rfl, rfl, rfl, trivial⟩
    ·refine .go 5 ?_
     exact (hb20 _ rfl).ax ⟨dor_f c19, rfl, rfl, rfl, rfl, rfl, trivial⟩
 ·intro hb13
  refine .split 29 rfl (fun c12 => ?_) (fun c12 => ?_)
  ·refine .go 5 ?_
   exact (hb13 _ rfl).ax ⟨dand_t c12, rfl, rfl, rfl, rfl, rfl, rfl, trivial⟩
  ·refine .go 3 ?_
   exact (hb13 _ rfl).ax ⟨dand_f c12, rfl, rfl, rfl, rfl, rfl, rfl, trivial⟩
theorem solve_Check_c {x0_0 : Int} {x0_1 : Int} {x0_2 : Int} {x0_3 : List Int} {x0_4 : List Int} {r : Int} (hG : G ∈ Fs) (s0_3 : SlR ri G a0_3 k0_3 x0_3) (s0_4 : SlR ri G a0_4 k0_4 x0_4) (h : solve_Check (x0_0, x0_1, x0_2, x0_3, x0_4) = some r) : RetS Tryz.prog 191 #[.agg #[.int .i64 x0_0, .int .i64 x0_1, .int .i64 x0_2, .slice a0_3 x0_3.length k0_3, .slice a0_4 x0_4.length k0_4]] Fs [] [] (rv (.int .i64 r)) := by
 unfold solve_Check at h
 try dsimp only at h
 refine RetS.st [(0, _)] Tryz.func191 Tryz.ntmps191 hG fun w0 S0 hS0 B0 => ?_
 refine .go 2 ?_
 refine .box [_, _, _, _, _] .ro rfl rfl rfl (fun b1 hb1 => ?_)
 refine .go 5 ?_
 refine .q .ro (.load_own_a 0 [_] rfl rfl ty45 rfl) rfl ?_
 obtain ⟨u2, hu2, r3⟩ := bind_some h
 refine .cV [_] Tryz.call72 (residue_Of_c mcs  hu2) ?_
 refine .go 7 ?_
 refine .block (.go 6 ?_)
 refine .cB r3 (fun c6 r7 => ?_) (fun c6 r8 => ?_)
 ·refine .go 4 ?_
  cases r7
  refine .drop 1 0 [] _ rfl rfl ?_
  refine .rS [.tmp 2] [_] Tryz.func191 Tryz.results191 ⟨rfl, rfl, rfl⟩
 ·refine .go 6 ?_
  refine .kR (fun y => y = ⟨[(22, .bool (decide ((x0_1 < 0) ∨ (32 < x0_1))))], G :: Fs, [], []⟩) [(1, _), (3, _)] [_] [0] [] [] 4 ?_ ?_
  ·rintro _ rfl
   refine .gn 1 ?_
   refine .kR (fun y => y = ⟨[(27, .bool (decide (((x0_1 < 0) ∨ (32 < x0_1)) ∨ (x0_2 < 0))))], G :: Fs, [], []⟩) [(1, _), (3, _)] [_] [0] [] [] 4 ?_ ?_
   ·rintro _ rfl
    refine .gn 1 ?_
    refine .kR (fun y => y = ⟨[(32, .bool (decide ((((x0_1 < 0) ∨ (32 < x0_1)) ∨ (x0_2 < 0)) ∨ (32 < x0_2))))], G :: Fs, [], []⟩) [(1, _), (3, _)] [_] [0] [] [] 4 ?_ ?_
    ·rintro _ rfl
     refine .gn 2 ?_
     refine .cH r8 (fun c21 r22 => ?_) (fun c21 r23 => ?_)
     ·refine .go 4 ?_
      cases r22
      refine .drop 1 0 [] _ rfl rfl ?_
      refine .rS [.tmp 2] [_] Tryz.func191 Tryz.results191 ⟨rfl, rfl, rfl⟩
     ·refine .go 12 ?_
      refine .kR (fun y => y = ⟨[(50, .bool (decide (((x0_3.length : Int) ≠ (w64 (x0_1 * x0_2))) ∨ ((x0_4.length : Int) ≠ x0_1))))], G :: Fs, [], []⟩) [(1, _), (3, _)] [_] [0] [] [] 7 ?_ ?_
      ·rintro _ rfl
       refine .gn 2 ?_
       refine .cH r23 (fun c28 r29 => ?_) (fun c28 r30 => ?_)
       ·refine .go 4 ?_
        cases r29
        refine .drop 1 0 [] _ rfl rfl ?_
        refine .rS [.tmp 2] [_] Tryz.func191 Tryz.results191 ⟨rfl, rfl, rfl⟩
       ·refine .go 5 ?_
        obtain ⟨u31, hu31, r32⟩ := bind_some r30
        refine .cV [_, _] Tryz.call73 (residue_Field_All_c mcs s0_3 hu31) ?_
        refine .go 2 ?_
        obtain ⟨u41, h42, r43⟩ := bind_some r32
        refine .kR (fun y => y = ⟨[(63, .bool u41)], G :: Fs, [], []⟩) [] [_] [0] [] [] 6 ?_ ?_
        ·rintro _ rfl
         refine .gn 2 ?_
         refine .cB r43 (fun c46 r47 => ?_) (fun c46 r48 => ?_)
         ·refine .go 4 ?_
          cases r47
          refine .drop 1 0 [] _ rfl rfl ?_
          refine .rS [.tmp 2] [_] Tryz.func191 Tryz.results191 ⟨rfl, rfl, rfl⟩
         ·refine .go 6 ?_
          cases r48
          refine .drop 1 0 [] _ rfl rfl ?_
          refine .rS [.tmp 2] [_] Tryz.func191 Tryz.results191 ⟨rfl, rfl, rfl⟩
        ·intro hb40
         refine .split_b 57 rfl (fun c39 => ?_) (fun c39 => ?_)
         ·have r49 := ifT h42 c39
          refine .go 6 ?_
          exact (hb40 _ rfl).ax ⟨sval r49, trivial⟩
         ·have r50 := ifBF h42 c39
          refine .go 7 ?_
          obtain ⟨u51, hu51, r52⟩ := bind_some r50
          refine .cV [_, _] Tryz.call73 (residue_Field_All_c mcs s0_4 hu51) ?_
          refine .go 3 ?_
          exact (hb40 _ rfl).ax ⟨sval r52, trivial⟩
      ·intro hb25
       refine .split 43 rfl (fun c24 => ?_) (fun c24 => ?_)
       ·refine .go 7 ?_
        exact (hb25 _ rfl).ax ⟨dor_t c24, rfl, rfl, trivial⟩
       ·refine .go 13 ?_
        exact (hb25 _ rfl).ax ⟨dor_f c24, rfl, rfl, trivial⟩
    ·intro hb18
     refine .split 28 rfl (fun c17 => ?_) (fun c17 => ?_)
     ·refine .go 4 ?_
      exact (hb18 _ rfl).ax ⟨dor_t c17, rfl, rfl, trivial⟩
     ·refine .go 7 ?_
      exact (hb18 _ rfl).ax ⟨dor_f c17, rfl, rfl, trivial⟩
   ·intro hb14
    refine .split 23 rfl (fun c13 => ?_) (fun c13 => ?_)
    ·refine .go 4 ?_
     exact (hb14 _ rfl).ax ⟨dor_t c13, rfl, rfl, trivial⟩
    ·refine .go 7 ?_
     exact (hb14 _ rfl).ax ⟨dor_f c13, rfl, rfl, trivial⟩
  ·intro hb10
   refine .split 18 rfl (fun c9 => ?_) (fun c9 => ?_)
   ·refine .go 4 ?_
    exact (hb10 _ rfl).ax ⟨dor_t c9, rfl, rfl, trivial⟩
   ·refine .go 7 ?_
    exact (hb10 _ rfl).ax ⟨dor_f c9, rfl, rfl, trivial⟩
theorem solve_reduced_lead_c {x0_0 : Int} {x0_1 : Int} {x0_2 : List (List Int)} {x0_3 : Int} {x0_4 : List Int} {x1 : Int} {r : ((List (List Int)) × Int × (List Int))} (hG : G ∈ Fs) (oo0_2 : NL ri G ee0_2 cc0_2 x0_2) (hnx0_4 : x0_4.length = 32) (h : solve_reduced_lead (x0_0, x0_1, x0_2, x0_3, x0_4) x1 = some r) : RetS Tryz.prog 201 #[.pointer (some ⟨p0, 0, none⟩), .int .i64 x1] Fs [(p0, .cells (([.int .i64 x0_0, .int .i64 x0_1, .slice a0_2 x0_2.length k0_2, .int .i64 x0_3] : List Value) ++ List.map (Value.int .i64) x0_4).toArray 286 (0, 0))] [.s (.slice a0_2 x0_2.length k0_2) 22 1 x0_2.length cc0_2, .g (packG 3 1 ee0_2)] (fun v bo so => ∃ le0 : List NE, ∃ lc0 : List Value, v = .tuple #[] ∧ bo = [(p0, .cells (([.int .i64 x0_0, .int .i64 x0_1, .slice a0_2 r.1.length k0_2, .int .i64 r.2.1] : List Value) ++ List.map (Value.int .i64) r.2.2).toArray 286 (0, 0))] ∧ so = [.s (.slice a0_2 r.1.length k0_2) 22 1 r.1.length lc0, .g (packG 3 1 le0)] ∧ NL ri G le0 lc0 r.1 ∧ r.1.length = x0_2.length ∧ r.2.2.length = 32) := by
 unfold solve_reduced_lead at h
 try dsimp only at h
 refine RetS.st [(0, _), (1, _)] Tryz.func201 Tryz.ntmps201 hG fun w0 S0 hS0 B0 => ?_
 refine .go 9 ?_
 refine .kB (fun y => ∃ (Z0 : _), y = ⟨[(4, .int .i64 Z0)], G :: Fs, [], []⟩ ∧ (solve_reduced_lead_J6 x1 x0_0 x0_3 x0_4 x0_2) Z0 = some r) [(0, _), (1, _)] [_] [0] [_, _] [0, 1] ?_ ?_
 ·rintro _ ⟨v95, rfl, r97⟩
  refine .gn 0 ?_
  unfold solve_reduced_lead_J6 at r97
  try dsimp only at r97
  refine .go 11 ?_
  refine .cH r97 (fun c10 r11 => ?_) (fun c10 r12 => ?_)
  ·cases r11
   refine .rS [] [] Tryz.func201 Tryz.results201 ⟨ee0_2, cc0_2, rfl, rfl, rfl, oo0_2, rfl, hnx0_4⟩
  ·refine .go 2 ?_
   refine .kG (fun y => ∃ (Z0 : List (List Int)) (Z1 Z2 : _), y = ⟨[], G :: Fs, [(p0, .cells (([.int .i64 x0_0, .int .i64 x0_1, .slice a0_2 Z0.length k0_2, .int .i64 x0_3] : List Value) ++ List.map (Value.int .i64) x0_4).toArray 286 (0, 0))], [.s (.slice a0_2 Z0.length k0_2) 22 1 Z0.length Z2, .g (packG 3 1 Z1)]⟩ ∧ NL ri G Z1 Z2 Z0 ∧ Z0.length = x0_2.length ∧ (solve_reduced_lead_J5 x1 x0_0 x0_3 x0_4) Z0 = some r) [(0, _), (1, _)] [] [] [] [] ?_ ?_
   ·rintro _ ⟨v13, es14, cs15, rfl, o16, hl17, r18⟩
    refine .gn 0 ?_
    unfold solve_reduced_lead_J5 at r18
    try dsimp only at r18
    refine .go 1 ?_
    refine .drawL (.q 0 (.q 1 (.q 2 (.q 3 (.q 4 (.q 5 (.q 6 (.q 7 (.e 8 1 (.e 9 1 (.q 10 .nil))))))))))) [_] (by kernel_rfl) (by kernel_rfl) (pick_mem [0] rfl) (.go 8 ?_)
    obtain ⟨u19, hu19, r20⟩ := bind_some r18
    obtain ⟨e21, he23, hn24, ho25, p26⟩ := NL.get o16 hu19
    refine .q .d1 (.idxO 0 rfl rfl rfl hu19 sl51 ty22.sz) rfl (.clsL (HpLe.refl _) (pick_mem [0] rfl) (.q .d1 (.loadO 0 0 rfl hu19 p26 rfl (.inl ⟨rfl, rfl⟩) ty22 rfl) rfl (.clsL (HpLe.refl _) (pick_mem [0] rfl) (.go 3 ?_))))
    refine .drawL (.q 0 (.q 1 (.q 2 (.q 3 (.q 4 (.q 5 (.e 6 1 (.e 7 1 (.e 8 1 (.q 9 .nil)))))))))) [_] (by kernel_rfl) (by kernel_rfl) (pick_mem [0] rfl) (.go 6 ?_)
    obtain ⟨u27, hu27, r28⟩ := bind_some r20
    obtain ⟨c29, p30, h31⟩ := OL.get ho25 hu27
    obtain rfl := h31
    refine .q .d1 (.inN 1 rfl he23 hn24 (.idxO (l := u19) 0 rfl rfl rfl hu27 sl22 ty3.sz)) rfl (.clsL (HpLe.refl _) (pick_mem [0] rfl) (.q .d1 (.inN 1 rfl he23 hn24 (.loadO (l := u19) 0 0 rfl hu27 p30 rfl (.inl ⟨rfl, rfl⟩) ty3 rfl)) rfl (.clsL (HpLe.refl _) (pick_mem [0] rfl) ?_)))
    obtain ⟨u32, hu32, r33⟩ := bind_some r28
    refine .cVd [_, _] Tryz.call197 (residue_Field_Inverse_c mcs  hu32) ?_
    refine .clsL (HpLe.refl _) (pick_mem [0] rfl) (.go 9 ?_)
    refine .kB (fun y => ∃ (Z0 : List (List Int)) (Z1 Z2 : _), y = ⟨[], G :: Fs, [(p0, .cells (([.int .i64 x0_0, .int .i64 x0_1, .slice a0_2 Z0.length k0_2, .int .i64 x0_3] : List Value) ++ List.map (Value.int .i64) x0_4).toArray 286 (0, 0))], [.s (.slice a0_2 Z0.length k0_2) 22 1 Z0.length Z2, .g (packG 3 1 Z1)]⟩ ∧ NL ri G Z1 Z2 Z0 ∧ Z0.length = x0_2.length ∧ HD Z1 x0_3 e21.h ∧ (solve_reduced_lead_J3 x1 x0_3 x0_0 x0_4) Z0 = some r) [(0, _), (1, _), (5, _)] [] [] [] [] ?_ ?_
    ·rintro _ ⟨v34, es35, cs36, rfl, o37, hl38, hd39, r40⟩
     refine .gn 0 ?_
     unfold solve_reduced_lead_J3 at r40
     try dsimp only at r40
     refine .go 10 ?_
     refine .kB (fun y => ∃ (Z0 : List (List Int)) (Z1 Z2 : _), y = ⟨[], G :: Fs, [(p0, .cells (([.int .i64 x0_0, .int .i64 x0_1, .slice a0_2 Z0.length k0_2, .int .i64 x0_3] : List Value) ++ List.map (Value.int .i64) x0_4).toArray 286 (0, 0))], [.s (.slice a0_2 Z0.length k0_2) 22 1 Z0.length Z2, .g (packG 3 1 Z1)]⟩ ∧ NL ri G Z1 Z2 Z0 ∧ Z0.length = x0_2.length ∧ (solve_reduced_lead_J1 x1 x0_3 x0_4) Z0 = some r) [(0, _), (1, _)] [] [] [] [] ?_ ?_
     ·rintro _ ⟨v41, es42, cs43, rfl, o44, hl45, r46⟩
      refine .gn 0 ?_
      unfold solve_reduced_lead_J1 at r46
      try dsimp only at r46
      refine .go 9 ?_
      refine .store 0 ([_, _, _, _] ++ List.map (Value.int .i64) x0_4) [_] .ro rfl rfl rfl ty3 rfl rfl rfl rfl (.go 1 ?_)
      refine .drawL (.q 0 (.q 1 (.q 2 (.q 3 (.q 4 (.q 5 (.q 6 (.q 7 (.q 8 (.e 9 2 .nil)))))))))) [_] (by kernel_rfl) (by kernel_rfl) (pick_mem [0] rfl) (.go 8 ?_)
      obtain ⟨u47, hu47, r48⟩ := bind_some r46
      refine .dq (.indexAddr_ar (4 + (x1).toNat) rfl rfl ar284 ty3.sz (lidx_some hu47).1 (lt_of_lt_of_len (lidx_some hu47).2.1 hnx0_4) (by rw [Nat.mul_one])) rfl ?_
      obtain ⟨u49, hu49, r50⟩ := bind_some r48
      refine .storeArr 0 (pre := [_, _, _, _]) (L := x0_4) (n := x1) .d2 rfl rfl rfl ty3 rfl hu49 (fun hl52 => ?_)
      refine .gn 1 ?_
      refine .prune [] trivial ?_
      cases r50
      refine .rS [] [] Tryz.func201 Tryz.results201 ⟨es42, cs43, rfl, rfl, rfl, o44, hl45, (hl52.trans hnx0_4)⟩
     ·intro hb53
      refine .block (.pullS 1 rfl [_, _] rfl (.pullS 1 rfl [_, _] rfl ?_))
      refine .lp (fun y m => ∃ (Z0 : Nat) (Z1 Z2 : List (List Int)) (Z3 Z4 : _), y = ⟨[(116, .slice a0_2 Z2.length k0_2), (118, .int .i64 (Z0 : Int))], [], [(p0, .cells (([.int .i64 x0_0, .int .i64 x0_1, .slice a0_2 Z2.length k0_2, .int .i64 x0_3] : List Value) ++ List.map (Value.int .i64) x0_4).toArray 286 (0, 0))], [.s (.slice a0_2 Z2.length k0_2) 22 1 Z2.length Z4, .g (packG 3 1 Z3)]⟩ ∧ Z1.length = m ∧ NL ri G Z3 Z4 Z2 ∧ Z2.length = x0_2.length ∧ HD Z3 x0_3 e21.h ∧ List.drop Z0 v34 = Z1 ∧ solve_reduced_lead_L2 (solve_reduced_lead_J1 x1 x0_3 x0_4) x1 x0_3 x0_0 Z1 Z0 Z2 = some r) [(0, _), (1, _), (5, _), (117, _)] [] [] ⟨0, v34, v34, es35, cs36, rfl, rfl, o37, hl38, hd39, rfl, r40⟩ (fun y m hI hb54 => ?_)
      obtain ⟨i55, w56, v57, es58, cs59, rfl, rfl, o60, hl61, hd62, g63, r65⟩ := hI
      refine .gn 0 ?_
      cases w56 with
      | nil =>
       rw [solve_reduced_lead_L2] at r65; try dsimp only at r65
       refine .go 5 ?_
       refine .cond_dec rfl (fun c => absurd c (drop_nil g63)) (fun _ => ?_)
       refine .exit rfl ?_
       exact (hb53 _ ⟨v57, es58, cs59, rfl, o60, hl61, r65⟩).ar
      | cons x66 xs68 =>
       have r69 : solve_reduced_lead_B2 (solve_reduced_lead_J1 x1 x0_3 x0_4) x1 x0_3 x0_0 (solve_reduced_lead_L2 (solve_reduced_lead_J1 x1 x0_3 x0_4) x1 x0_3 x0_0 xs68 (i55 + 1)) x66 i55 v57 = some r := r65; clear r65; unfold solve_reduced_lead_B2 at r69; try dsimp only at r69
       refine .go 5 ?_
       refine .cond_dec rfl (fun _ => ?_) (fun c => absurd (drop_lt g63) c)
       refine .go 2 ?_
       refine .block (.go 3 ?_)
       obtain ⟨u70, hu70, r71⟩ := bind_some r69
       obtain ⟨e72, he73, hn74, ho75, p76⟩ := NL.get o60 hu70
       refine .q .ro (.idxO 0 rfl rfl rfl hu70 sl51 ty22.sz) rfl (.q .ro (.loadO 0 0 rfl hu70 p76 rfl (.inl ⟨rfl, rfl⟩) ty22 rfl) rfl (.go 12 ?_))
       obtain ⟨u78, h79, r80⟩ := bind_some r71
       refine .kR (fun y => y = ⟨[(135, .bool u78)], G :: Fs, [], []⟩) [(116, _), (118, _), (0, _), (1, _), (5, _), (117, _), (10, _)] [_] [0] [_, _] [0, 1] 6 ?_ ?_
       ·rintro _ rfl
        refine .gn 1 ?_
        refine .cB r80 (fun c81 r82 => ?_) (fun c81 r83 => ?_)
        ·refine .drawL (.q 0 (.q 1 (.q 2 (.q 3 (.q 4 (.q 5 (.q 6 (.q 7 (.q 8 (.q 9 (.q 10 (.q 14 (.e 11 1 (.e 12 1 (.e 13 1 (.e 15 2 .nil)))))))))))))))) [_] (by kernel_rfl) (by kernel_rfl) (pick_mem [0] rfl) ?_
         refine .go 12 ?_
         obtain ⟨u84, hu84, r85⟩ := bind_some r82
         obtain ⟨c86, p87, h88⟩ := OL.get ho75 hu84
         obtain rfl := h88
         refine .q .d1 (.inN 1 rfl he73 hn74 (.idxO (l := u70) 0 rfl rfl rfl hu84 sl22 ty3.sz)) rfl (.clsL (HpLe.refl _) (pick_mem [0] rfl) (.q .d1 (.inN 1 rfl he73 hn74 (.loadO (l := u70) 0 0 rfl hu84 p87 rfl (.inl ⟨rfl, rfl⟩) ty3 rfl)) rfl (.clsL (HpLe.refl _) (pick_mem [0] rfl) ?_)))
         obtain ⟨u89, hu89, r90⟩ := bind_some r85
         refine .cVd [_, _, _] Tryz.call190 (residue_Field_Sub_c mcs  hu89) ?_
         refine .clsL (HpLe.refl _) (pick_mem [0] rfl) ?_
         obtain ⟨u91, hu91, r92⟩ := bind_some r90
         obtain ⟨e93, he94, hn96, ho98, p99, ea100, ek101, el102⟩ := NL.getH o60 hu91 hd62 hn24
         refine .takeN 1 rfl he94 hn96 (.revalV 150 (v' := .slice e93.a u91.length e93.k) (by rw [ea100, ek101, el102]) rfl ?_)
         obtain ⟨u103, hu103, r104⟩ := bind_some r92
         refine .takeN 2 rfl (NL.ne he73 (lidx_nn hu91) (lidx_nn hu70) (lne_some hu103)) hn74 ?_
         refine .toV 0 rfl (fun vb105 po106 va107 vb108 => ?_)
         obtain ⟨u109, hu109, r110⟩ := bind_some r104
         refine .pullS 1 rfl [_, _, _, _] rfl (.pullS 1 rfl [_, _, _, _] rfl ?_)
         refine .callB (Q := fun v bo so => ∃ lc0 : List Value, v = .tuple #[] ∧ bo = [] ∧ so = [.g (viewG vb105 3 [] lc0 po106)] ∧ OL ri G lc0 u109 ∧ u109.length = u70.length) (b1 := []) (b2 := [_]) (s1 := [_]) (sB := [_]) (s2 := [_, _]) [_, _, _, _] [] .d2 rfl rfl Tryz.call67 rfl rfl (fun Fs' G' hle hB hm => RetG.mono (residue_Field_AddTimes_c (G := G') hm va107 (OL.mono hle ho75) (SlR.rd ho98 rfl hle (hB _ (List.mem_of_getElem? (i := 0) rfl))) hu109) (fun v _ bo so h => by obtain ⟨l0c, e1, e2, e3, f0, f1⟩ := h; exact ⟨l0c, e1, e2, e3, OL.flat (Rep.flat_int _) f0, f1⟩)) rfl (fun v111 bo so h112 => ?_)
         obtain ⟨cs113, rfl, rfl, rfl, o114, hl115⟩ := h112
         refine .gn 0 ?_
         refine .ofV 0 rfl vb108 hl115 o114 rfl ?_
         obtain ⟨u116, hu116, r117⟩ := bind_some r110
         refine .backN2 1 2 (i := (i55 : Int)) (j := x0_3) rfl rfl rfl o60 he73 he94 (lidx_nn hu70) (lidx_nn hu91) (Ne.symm (lne_some hu103)) (Eq.trans hl115 hn74.symm) o114 hu116 (fun es118 hles118 o119 hmes118 he120 => ?_)
         refine .reval 116 hles118 rfl (.recell 0 (([_, _, .slice a0_2 u116.length k0_2, _] : List Value) ++ List.map (Value.int .i64) x0_4) rfl (by rw [hles118] <;> rfl) [_] rfl (.backS 1 (i := x0_3) (e := e93) rfl rfl he120 hn96 (.go 6 ?_)))
         exact (hb54 _ _ ⟨(i55 + 1), xs68, u116, es118, cs59, rfl, rfl, o119, (hles118.trans hl61), (HD.of hmes118 hd62), (drop_succ g63), r117⟩ (Nat.lt_succ_self _)).ax ⟨rfl, (congrArg (fun z => some (Value.int .i64 z)) (idx_wrap (NL.len' o37) g63)), rfl, rfl, rfl, rfl, trivial⟩
        ·refine .go 6 ?_
         exact (hb54 _ _ ⟨(i55 + 1), xs68, v57, es58, cs59, rfl, rfl, o60, hl61, hd62, (drop_succ g63), r83⟩ (Nat.lt_succ_self _)).ax ⟨rfl, (congrArg (fun z => some (Value.int .i64 z)) (idx_wrap (NL.len' o37) g63)), rfl, rfl, rfl, rfl, trivial⟩
       ·intro hb121
        refine .split 129 rfl (fun c122 => ?_) (fun c122 => ?_)
        ·have r123 := ifT h79 c122
         refine .go 5 ?_
         obtain ⟨u124, hu124, r125⟩ := bind_some r123
         obtain ⟨c126, p127, h128⟩ := OL.get ho75 hu124
         obtain rfl := h128
         refine .q .ro (.inN 1 rfl he73 hn74 (.idxO (l := u70) 0 rfl rfl rfl hu124 sl22 ty3.sz)) rfl (.go 1 ?_)
         refine .q .ro (.inN 1 rfl he73 hn74 (.loadO (l := u70) 0 0 rfl hu124 p127 rfl (.inl ⟨rfl, rfl⟩) ty3 rfl)) rfl (.go 3 ?_)
         exact (hb121 _ rfl).ax ⟨sval r125, rfl, rfl, rfl, rfl, rfl, rfl, rfl, trivial⟩
        ·have r129 := ifF h79 c122
         refine .go 6 ?_
         exact (hb121 _ rfl).ax ⟨sval r129, rfl, rfl, rfl, rfl, rfl, rfl, rfl, trivial⟩
    ·intro hb130
     refine .block (.pullS 1 rfl [_, _] rfl (.pullS 1 rfl [_, _] rfl ?_))
     refine .lp (fun y m => ∃ (Z0 : Nat) (Z1 : List Int) (Z2 : List (List Int)) (Z3 Z4 : _), y = ⟨[(97, .int .i64 (Z0 : Int))], [], [(p0, .cells (([.int .i64 x0_0, .int .i64 x0_1, .slice a0_2 Z2.length k0_2, .int .i64 x0_3] : List Value) ++ List.map (Value.int .i64) x0_4).toArray 286 (0, 0))], [.s (.slice a0_2 Z2.length k0_2) 22 1 Z2.length Z4, .g (packG 3 1 Z3)]⟩ ∧ Z1.length = m ∧ NL ri G Z3 Z4 Z2 ∧ Z2.length = x0_2.length ∧ HD Z3 x0_3 e21.h ∧ HD Z3 x0_3 e21.h ∧ List.drop Z0 u19 = Z1 ∧ solve_reduced_lead_L4 (solve_reduced_lead_J3 x1 x0_3 x0_0 x0_4) x0_3 u32 x0_0 Z1 Z0 Z2 = some r) [(0, _), (1, _), (5, _), (6, _), (95, _), (96, _)] [] [] ⟨0, u19, v13, es14, cs15, rfl, rfl, o16, hl17, (HD.mk he23), (HD.mk he23), rfl, r33⟩ (fun y m hI hb131 => ?_)
     obtain ⟨i132, w133, v134, es135, cs136, rfl, rfl, o137, hl138, hd139, hd140, g141, r142⟩ := hI
     refine .gn 0 ?_
     cases w133 with
     | nil =>
      rw [solve_reduced_lead_L4] at r142; try dsimp only at r142
      refine .go 5 ?_
      refine .cond_dec rfl (fun c => absurd c (drop_nil g141)) (fun _ => ?_)
      refine .exit rfl ?_
      exact (hb130 _ ⟨v134, es135, cs136, rfl, o137, hl138, hd139, r142⟩).ar
     | cons x143 xs144 =>
      have r145 : solve_reduced_lead_B4 (solve_reduced_lead_J3 x1 x0_3 x0_0 x0_4) x0_3 u32 x0_0 (solve_reduced_lead_L4 (solve_reduced_lead_J3 x1 x0_3 x0_0 x0_4) x0_3 u32 x0_0 xs144 (i132 + 1)) x143 i132 v134 = some r := r142; clear r142; unfold solve_reduced_lead_B4 at r145; try dsimp only at r145
      refine .go 5 ?_
      refine .cond_dec rfl (fun _ => ?_) (fun c => absurd (drop_lt g141) c)
      refine .go 2 ?_
      refine .block (.go 3 ?_)
      obtain ⟨u146, hu146, r147⟩ := bind_some r145
      obtain ⟨e148, he149, hn150, ho151, p152, ea153, ek154, el155⟩ := NL.getH o137 hu146 hd140 hn24
      obtain ⟨u156, hu156, r157⟩ := bind_some r147
      obtain ⟨c158, p159, h160⟩ := OL.get ho151 hu156
      obtain rfl := h160
      refine .q .ro (.idxNH 1 (l := u146) rfl he149 hn150 ea153 ek154 el155 rfl rfl hu156 sl22 ty3.sz) rfl (.q .ro (.inN 1 rfl he149 hn150 (.loadO (l := u146) 0 0 rfl hu156 p159 rfl (.inl ⟨rfl, rfl⟩) ty3 rfl)) rfl (.go 12 ?_))
      obtain ⟨u161, hu161, r162⟩ := bind_some r157
      refine .cV [_, _, _] Tryz.call77 (residue_Field_Mul_c mcs  hu161) ?_
      obtain ⟨u163, hu163, r164⟩ := bind_some r162
      obtain ⟨e165, he166, hn167, ho168, p169, ea170, ek171, el172⟩ := NL.getH o137 hu163 hd139 hn24
      obtain ⟨u173, hu173, r174⟩ := bind_some r164
      obtain ⟨c175, p176, h177⟩ := OL.get ho168 hu173
      obtain rfl := h177
      refine .q .ro (.idxNH 1 (l := u163) rfl he166 hn167 ea170 ek171 el172 rfl rfl hu173 sl22 ty3.sz) rfl (.takeN 1 rfl he166 hn167 ?_)
      obtain ⟨u178, hu178, r179⟩ := bind_some r174
      refine .storeR 0 0 (Q := ri) .ro rfl rfl ho168 hu178 rfl (.inl ⟨rfl, rfl⟩) rfl ty3 p176 ((Rep.intI .i64 u161) :) rfl rfl (fun cs180 hlcs180 o181 => ?_)
      obtain ⟨u182, hu182, r183⟩ := bind_some r179
      refine .backN 0 1 rfl rfl rfl o137 he166 (Eq.trans hlcs180 hn167.symm) o181 hu182 (fun es184 hles184 o185 hmes184 => ?_)
      refine .recell 0 (([_, _, .slice a0_2 u182.length k0_2, _] : List Value) ++ List.map (Value.int .i64) x0_4) rfl (by rw [hles184] <;> rfl) [_] rfl (.go 6 ?_)
      exact (hb131 _ _ ⟨(i132 + 1), xs144, u182, es184, cs136, rfl, rfl, o185, (hles184.trans hl138), (HD.of hmes184 hd139), (HD.of hmes184 hd140), (drop_succ g141), r183⟩ (Nat.lt_succ_self _)).ax ⟨(congrArg (fun z => some (Value.int .i64 z)) (idx_wrap (OL.len' ho25) g141)), rfl, rfl, rfl, rfl, rfl, rfl, trivial⟩
   ·intro hb186
    refine .drawL (.q 0 (.q 1 (.q 2 (.q 3 (.q 4 (.q 5 (.q 6 (.q 7 (.q 8 (.q 9 (.q 10 (.q 11 (.q 12 (.q 13 (.q 14 (.q 15 (.q 16 (.q 17 (.q 20 (.q 21 (.q 22 (.q 23 (.q 24 (.q 25 (.q 26 (.q 27 (.alt (.e 18 1 (.alt (.e 19 1 (.e 28 1 (.e 29 1 (.e 30 1 (.e 31 1 (.e 32 2 (.e 33 2 .nil))))))) (.e 28 1 (.alt (.e 19 1 (.e 29 1 (.e 30 1 (.e 31 1 (.e 32 2 (.e 33 2 .nil)))))) (.e 29 1 (.e 19 1 (.e 30 1 (.e 31 1 (.e 32 2 (.e 33 2 .nil)))))))))) (.e 28 1 (.alt (.e 18 1 (.alt (.e 19 1 (.e 29 1 (.e 30 1 (.e 31 1 (.e 32 2 (.e 33 2 .nil)))))) (.e 29 1 (.e 19 1 (.e 30 1 (.e 31 1 (.e 32 2 (.e 33 2 .nil)))))))) (.e 29 1 (.e 18 1 (.e 19 1 (.e 30 1 (.e 31 1 (.e 32 2 (.e 33 2 .nil)))))))))))))))))))))))))))))))))))) [_] (by kernel_rfl) (by kernel_rfl) (pick_mem [0] rfl) ?_
    obtain ⟨u187, hu187, r188⟩ := bind_some r12
    obtain ⟨u189, hu189, r191⟩ := bind_some r188
    obtain ⟨u192, hu192, r193⟩ := bind_some r191
    obtain ⟨u194, hu194, r195⟩ := bind_some r193
    obtain ⟨u196, hu196, r198⟩ := bind_some r195
    obtain ⟨u199, hu199, r200⟩ := bind_some r198
    refine .go 26 ?_
    refine .alt ?_ ?_
    ·obtain ⟨e202, he203, hn204, ho205, p206⟩ := NL.get oo0_2 hu187
     refine .q .d1 (.idxO 0 rfl rfl rfl hu187 sl51 ty22.sz) rfl (.clsL (HpLe.refl _) (pick_mem [0] rfl) ?_)
     refine .alt ?_ ?_
     ·refine .q .d1 (.loadO 0 0 rfl hu187 p206 rfl (.inl ⟨rfl, rfl⟩) ty22 rfl) rfl ?_
      refine .clsL (HpLe.refl _) (pick_mem [0] rfl) ?_
      obtain ⟨e207, he208, hn209, ho210, p211⟩ := NL.get oo0_2 hu189
      refine .q .d1 (.idxO 0 rfl rfl rfl hu189 sl51 ty22.sz) rfl (.clsL (HpLe.refl _) (pick_mem [0] rfl) (.q .d1 (.loadO 0 0 rfl hu189 p211 rfl (.inl ⟨rfl, rfl⟩) ty22 rfl) rfl (.clsL (HpLe.refl _) (pick_mem [0] rfl) ?_)))
      obtain ⟨e212, he213, hn214, ho215, p216⟩ := NL.get oo0_2 hu192
      refine .q .d1 (.idxO 0 rfl rfl rfl hu192 sl51 ty22.sz) rfl (.clsL (HpLe.refl _) (pick_mem [0] rfl) ?_)
      refine .swap1 0 (Q := ri) (ej := e202) .d1 rfl oo0_2 hu192 hn204 rfl (.inl ⟨rfl, rfl⟩) rfl ty22 (fun cs217 o218 => ?_)
      refine .clsL (HpLe.refl _) (pick_mem [0] rfl) (.q .d2 (.idxO 0 (l := x0_2) rfl rfl rfl hu194 sl51 ty22.sz) rfl ?_)
      refine .swap2 0 1 (Q := ri) (i := x0_3) (j := v95) .d2 rfl rfl oo0_2 o218 hu189 hu187 he208 he203 hn209 hu196 hu199 rfl (.inl ⟨rfl, rfl⟩) rfl ty22 rfl (fun es219 cs220 hlcs220 o221 => ?_)
      refine .reval 41 hlcs220 rfl (.reval 47 hlcs220 rfl (.reval 55 hlcs220 rfl (.reval 60 hlcs220 rfl (.reval 67 hlcs220 rfl (.recell 0 (([_, _, .slice a0_2 u199.length k0_2, _] : List Value) ++ List.map (Value.int .i64) x0_4) rfl (by rw [hlcs220] <;> rfl) [_] rfl (.go 1 ?_))))))
      exact (hb186 _ ⟨u199, es219, cs220, rfl, o221, hlcs220, r200⟩).ar
     ·obtain ⟨e222, he223, hn224, ho225, p226⟩ := NL.get oo0_2 hu189
      refine .q .d1 (.idxO 0 rfl rfl rfl hu189 sl51 ty22.sz) rfl (.clsL (HpLe.refl _) (pick_mem [0] rfl) ?_)
      refine .alt ?_ ?_
      ·refine .q .d1 (.loadO 0 0 rfl hu187 p206 rfl (.inl ⟨rfl, rfl⟩) ty22 rfl) rfl ?_
       refine .clsL (HpLe.refl _) (pick_mem [0] rfl) (.q .d1 (.loadO 0 0 rfl hu189 p226 rfl (.inl ⟨rfl, rfl⟩) ty22 rfl) rfl (.clsL (HpLe.refl _) (pick_mem [0] rfl) ?_))
       obtain ⟨e227, he228, hn229, ho230, p231⟩ := NL.get oo0_2 hu192
       refine .q .d1 (.idxO 0 rfl rfl rfl hu192 sl51 ty22.sz) rfl (.clsL (HpLe.refl _) (pick_mem [0] rfl) ?_)
       refine .swap1 0 (Q := ri) (ej := e202) .d1 rfl oo0_2 hu192 hn204 rfl (.inl ⟨rfl, rfl⟩) rfl ty22 (fun cs232 o233 => ?_)
       refine .clsL (HpLe.refl _) (pick_mem [0] rfl) (.q .d2 (.idxO 0 (l := x0_2) rfl rfl rfl hu194 sl51 ty22.sz) rfl ?_)
       refine .swap2 0 1 (Q := ri) (i := x0_3) (j := v95) .d2 rfl rfl oo0_2 o233 hu189 hu187 he223 he203 hn224 hu196 hu199 rfl (.inl ⟨rfl, rfl⟩) rfl ty22 rfl (fun es234 cs235 hlcs235 o236 => ?_)
       refine .reval 41 hlcs235 rfl (.reval 47 hlcs235 rfl (.reval 55 hlcs235 rfl (.reval 60 hlcs235 rfl (.reval 67 hlcs235 rfl (.recell 0 (([_, _, .slice a0_2 u199.length k0_2, _] : List Value) ++ List.map (Value.int .i64) x0_4) rfl (by rw [hlcs235] <;> rfl) [_] rfl (.go 1 ?_))))))
       exact (hb186 _ ⟨u199, es234, cs235, rfl, o236, hlcs235, r200⟩).ar
      ·refine .q .d1 (.loadO 0 0 rfl hu189 p226 rfl (.inl ⟨rfl, rfl⟩) ty22 rfl) rfl ?_
       refine .clsL (HpLe.refl _) (pick_mem [0] rfl) (.q .d1 (.loadO 0 0 rfl hu187 p206 rfl (.inl ⟨rfl, rfl⟩) ty22 rfl) rfl (.clsL (HpLe.refl _) (pick_mem [0] rfl) ?_))
       obtain ⟨e237, he238, hn239, ho240, p241⟩ := NL.get oo0_2 hu192
       refine .q .d1 (.idxO 0 rfl rfl rfl hu192 sl51 ty22.sz) rfl (.clsL (HpLe.refl _) (pick_mem [0] rfl) ?_)
       refine .swap1 0 (Q := ri) (ej := e202) .d1 rfl oo0_2 hu192 hn204 rfl (.inl ⟨rfl, rfl⟩) rfl ty22 (fun cs242 o243 => ?_)
       refine .clsL (HpLe.refl _) (pick_mem [0] rfl) (.q .d2 (.idxO 0 (l := x0_2) rfl rfl rfl hu194 sl51 ty22.sz) rfl ?_)
       refine .swap2 0 1 (Q := ri) (i := x0_3) (j := v95) .d2 rfl rfl oo0_2 o243 hu189 hu187 he223 he203 hn224 hu196 hu199 rfl (.inl ⟨rfl, rfl⟩) rfl ty22 rfl (fun es244 cs245 hlcs245 o246 => ?_)
       refine .reval 41 hlcs245 rfl (.reval 47 hlcs245 rfl (.reval 55 hlcs245 rfl (.reval 60 hlcs245 rfl (.reval 67 hlcs245 rfl (.recell 0 (([_, _, .slice a0_2 u199.length k0_2, _] : List Value) ++ List.map (Value.int .i64) x0_4) rfl (by rw [hlcs245] <;> rfl) [_] rfl (.go 1 ?_))))))
       exact (hb186 _ ⟨u199, es244, cs245, rfl, o246, hlcs245, r200⟩).ar
    ·obtain ⟨e247, he248, hn249, ho250, p251⟩ := NL.get oo0_2 hu189
     refine .q .d1 (.idxO 0 rfl rfl rfl hu189 sl51 ty22.sz) rfl (.clsL (HpLe.refl _) (pick_mem [0] rfl) ?_)
     refine .alt ?_ ?_
     ·obtain ⟨e252, he253, hn254, ho255, p256⟩ := NL.get oo0_2 hu187
      refine .q .d1 (.idxO 0 rfl rfl rfl hu187 sl51 ty22.sz) rfl (.clsL (HpLe.refl _) (pick_mem [0] rfl) ?_)
      refine .alt ?_ ?_
      ·refine .q .d1 (.loadO 0 0 rfl hu187 p256 rfl (.inl ⟨rfl, rfl⟩) ty22 rfl) rfl ?_
       refine .clsL (HpLe.refl _) (pick_mem [0] rfl) (.q .d1 (.loadO 0 0 rfl hu189 p251 rfl (.inl ⟨rfl, rfl⟩) ty22 rfl) rfl (.clsL (HpLe.refl _) (pick_mem [0] rfl) ?_))
       obtain ⟨e257, he258, hn259, ho260, p261⟩ := NL.get oo0_2 hu192
       refine .q .d1 (.idxO 0 rfl rfl rfl hu192 sl51 ty22.sz) rfl (.clsL (HpLe.refl _) (pick_mem [0] rfl) ?_)
       refine .swap1 0 (Q := ri) (ej := e252) .d1 rfl oo0_2 hu192 hn254 rfl (.inl ⟨rfl, rfl⟩) rfl ty22 (fun cs262 o263 => ?_)
       refine .clsL (HpLe.refl _) (pick_mem [0] rfl) (.q .d2 (.idxO 0 (l := x0_2) rfl rfl rfl hu194 sl51 ty22.sz) rfl ?_)
       refine .swap2 0 1 (Q := ri) (i := x0_3) (j := v95) .d2 rfl rfl oo0_2 o263 hu189 hu187 he248 he253 hn249 hu196 hu199 rfl (.inl ⟨rfl, rfl⟩) rfl ty22 rfl (fun es264 cs265 hlcs265 o266 => ?_)
       refine .reval 41 hlcs265 rfl (.reval 47 hlcs265 rfl (.reval 55 hlcs265 rfl (.reval 60 hlcs265 rfl (.reval 67 hlcs265 rfl (.recell 0 (([_, _, .slice a0_2 u199.length k0_2, _] : List Value) ++ List.map (Value.int .i64) x0_4) rfl (by rw [hlcs265] <;> rfl) [_] rfl (.go 1 ?_))))))
       exact (hb186 _ ⟨u199, es264, cs265, rfl, o266, hlcs265, r200⟩).ar
      ·refine .q .d1 (.loadO 0 0 rfl hu189 p251 rfl (.inl ⟨rfl, rfl⟩) ty22 rfl) rfl ?_
       refine .clsL (HpLe.refl _) (pick_mem [0] rfl) (.q .d1 (.loadO 0 0 rfl hu187 p256 rfl (.inl ⟨rfl, rfl⟩) ty22 rfl) rfl (.clsL (HpLe.refl _) (pick_mem [0] rfl) ?_))
       obtain ⟨e267, he268, hn269, ho270, p271⟩ := NL.get oo0_2 hu192
       refine .q .d1 (.idxO 0 rfl rfl rfl hu192 sl51 ty22.sz) rfl (.clsL (HpLe.refl _) (pick_mem [0] rfl) ?_)
       refine .swap1 0 (Q := ri) (ej := e252) .d1 rfl oo0_2 hu192 hn254 rfl (.inl ⟨rfl, rfl⟩) rfl ty22 (fun cs272 o273 => ?_)
       refine .clsL (HpLe.refl _) (pick_mem [0] rfl) (.q .d2 (.idxO 0 (l := x0_2) rfl rfl rfl hu194 sl51 ty22.sz) rfl ?_)
       refine .swap2 0 1 (Q := ri) (i := x0_3) (j := v95) .d2 rfl rfl oo0_2 o273 hu189 hu187 he248 he253 hn249 hu196 hu199 rfl (.inl ⟨rfl, rfl⟩) rfl ty22 rfl (fun es274 cs275 hlcs275 o276 => ?_)
       refine .reval 41 hlcs275 rfl (.reval 47 hlcs275 rfl (.reval 55 hlcs275 rfl (.reval 60 hlcs275 rfl (.reval 67 hlcs275 rfl (.recell 0 (([_, _, .slice a0_2 u199.length k0_2, _] : List Value) ++ List.map (Value.int .i64) x0_4) rfl (by rw [hlcs275] <;> rfl) [_] rfl (.go 1 ?_))))))
       exact (hb186 _ ⟨u199, es274, cs275, rfl, o276, hlcs275, r200⟩).ar
     ·refine .q .d1 (.loadO 0 0 rfl hu189 p251 rfl (.inl ⟨rfl, rfl⟩) ty22 rfl) rfl ?_
      refine .clsL (HpLe.refl _) (pick_mem [0] rfl) ?_
      obtain ⟨e277, he278, hn279, ho280, p281⟩ := NL.get oo0_2 hu187
      refine .q .d1 (.idxO 0 rfl rfl rfl hu187 sl51 ty22.sz) rfl (.clsL (HpLe.refl _) (pick_mem [0] rfl) (.q .d1 (.loadO 0 0 rfl hu187 p281 rfl (.inl ⟨rfl, rfl⟩) ty22 rfl) rfl (.clsL (HpLe.refl _) (pick_mem [0] rfl) ?_)))
      obtain ⟨e282, he283, hn285, ho286, p287⟩ := NL.get oo0_2 hu192
      refine .q .d1 (.idxO 0 rfl rfl rfl hu192 sl51 ty22.sz) rfl (.clsL (HpLe.refl _) (pick_mem [0] rfl) ?_)
      refine .swap1 0 (Q := ri) (ej := e277) .d1 rfl oo0_2 hu192 hn279 rfl (.inl ⟨rfl, rfl⟩) rfl ty22 (fun cs288 o289 => ?_)
      refine .clsL (HpLe.refl _) (pick_mem [0] rfl) (.q .d2 (.idxO 0 (l := x0_2) rfl rfl rfl hu194 sl51 ty22.sz) rfl ?_)
      refine .swap2 0 1 (Q := ri) (i := x0_3) (j := v95) .d2 rfl rfl oo0_2 o289 hu189 hu187 he248 he278 hn249 hu196 hu199 rfl (.inl ⟨rfl, rfl⟩) rfl ty22 rfl (fun es290 cs291 hlcs291 o292 => ?_)
      refine .reval 41 hlcs291 rfl (.reval 47 hlcs291 rfl (.reval 55 hlcs291 rfl (.reval 60 hlcs291 rfl (.reval 67 hlcs291 rfl (.recell 0 (([_, _, .slice a0_2 u199.length k0_2, _] : List Value) ++ List.map (Value.int .i64) x0_4) rfl (by rw [hlcs291] <;> rfl) [_] rfl (.go 1 ?_))))))
      exact (hb186 _ ⟨u199, es290, cs291, rfl, o292, hlcs291, r200⟩).ar
 ·intro hb293
  refine .block ?_
  refine .lp (fun y m => ∃ (Z0 : Nat) (Z1 : _), y = ⟨[(4, .int .i64 Z1)], [], [], []⟩ ∧ Z0 = m ∧ solve_reduced_lead_L7 (solve_reduced_lead_J6 x1 x0_0 x0_3 x0_4 x0_2) x1 x0_2 Z0 Z1 = some r) [(0, _), (1, _)] [_] [_, _] ⟨big, x0_3, rfl, rfl, h⟩ (fun y m hI hb294 => ?_)
  obtain ⟨n295, v296, rfl, rfl, r297⟩ := hI
  refine .gn 0 ?_
  obtain ⟨m298, rfl⟩ : ∃ m, n295 = m + 1 := by cases n295 with | zero => exact absurd (show (none : Option _) = some _ from r297) (by simp) | succ m => exact ⟨m, rfl⟩
  have r299 : solve_reduced_lead_B7 (solve_reduced_lead_J6 x1 x0_0 x0_3 x0_4 x0_2) x1 x0_2 (solve_reduced_lead_L7 (solve_reduced_lead_J6 x1 x0_0 x0_3 x0_4 x0_2) x1 x0_2 m298) v296 = some r := r297; clear r297; unfold solve_reduced_lead_B7 at r299; try dsimp only at r299
  refine .go 11 ?_
  obtain ⟨u300, h301, r302⟩ := bind_some r299
  refine .kR (fun y => y = ⟨[(34, .bool u300)], G :: Fs, [], []⟩) [(4, _), (0, _), (1, _)] [_] [0] [_, _] [0, 1] 12 ?_ ?_
  ·rintro _ rfl
   refine .gn 1 ?_
   refine .cB r302 (fun c303 r304 => ?_) (fun c303 r305 => ?_)
   ·refine .go 1 ?_
    refine .block (.go 6 ?_)
    exact (hb294 _ _ ⟨m298, (w64 (v296 + 1)), rfl, rfl, r304⟩ (Nat.lt_succ_self _)).ar
   ·refine .exit rfl ?_
    exact (hb293 _ ⟨(v296), rfl, r305⟩).ar
  ·intro hb306
   refine .split 22 rfl (fun c307 => ?_) (fun c307 => ?_)
   ·have r308 := ifT h301 c307
    refine .go 11 ?_
    obtain ⟨u309, hu309, r310⟩ := bind_some r308
    obtain ⟨e311, he312, hn313, ho314, p315⟩ := NL.get oo0_2 hu309
    refine .q .ro (.idxO 0 rfl rfl rfl hu309 sl51 ty22.sz) rfl (.go 1 ?_)
    refine .q .ro (.loadO 0 0 rfl hu309 p315 rfl (.inl ⟨rfl, rfl⟩) ty22 rfl) rfl (.go 3 ?_)
    obtain ⟨u316, hu316, r317⟩ := bind_some r310
    obtain ⟨c318, p319, h320⟩ := OL.get ho314 hu316
    obtain rfl := h320
    refine .q .ro (.inN 1 rfl he312 hn313 (.idxO (l := u309) 0 rfl rfl rfl hu316 sl22 ty3.sz)) rfl (.go 1 ?_)
    refine .q .ro (.inN 1 rfl he312 hn313 (.loadO (l := u309) 0 0 rfl hu316 p319 rfl (.inl ⟨rfl, rfl⟩) ty3 rfl)) rfl (.go 3 ?_)
    exact (hb306 _ rfl).ax ⟨sval r317, rfl, rfl, rfl, trivial⟩
   ·have r321 := ifF h301 c307
    refine .go 12 ?_
    exact (hb306 _ rfl).ax ⟨sval r321, rfl, rfl, rfl, trivial⟩
theorem solve_reduce_c {x0_0 : Int} {x0_1 : Int} {x0_2 : Int} {x0_3 : List Int} {x0_4 : List Int} {r : (Int × Int × (List (List Int)) × Int × (List Int))} (hG : G ∈ Fs) (s0_3 : SlR ri G a0_3 k0_3 x0_3) (s0_4 : SlR ri G a0_4 k0_4 x0_4) (h : solve_reduce (x0_0, x0_1, x0_2, x0_3, x0_4) = some r) : RetW Tryz.prog 192 #[.agg #[.int .i64 x0_0, .int .i64 x0_1, .int .i64 x0_2, .slice a0_3 x0_3.length k0_3, .slice a0_4 x0_4.length k0_4]] Fs [] [] (fun v bo so G => ∃ a0 : Option Addr, ∃ k0 : Nat, ∃ b0 : Nat, v = .pointer (some ⟨b0, 0, none⟩) ∧ bo = [(b0, .cells (([.int .i64 r.1, .int .i64 r.2.1, .slice a0 r.2.2.1.length k0, .int .i64 r.2.2.2.1] : List Value) ++ List.map (Value.int .i64) r.2.2.2.2).toArray 286 (0, 0))] ∧ so = [] ∧ SlR (Rep.sl ri) G a0 k0 r.2.2.1 ∧ r.2.2.2.2.length = 32) := by
 unfold solve_reduce at h
 try dsimp only at h
 refine RetW.st [(0, _)] Tryz.func192 Tryz.ntmps192 hG fun w0 S0 hS0 B0 => ?_
 refine .go 2 ?_
 refine .box [_, _, _, _, _] .ro rfl rfl rfl (fun b1 hb1 => ?_)
 refine .go 9 ?_
 refine .q .ro (.build [_, _, _, _, _, _, _, _, _, _, _, _, _, _, _, _, _, _, _, _, _, _, _, _, _, _, _, _, _, _, _, _, _, _, _, _] [(0, _), (1, _)] ty286 pl286 rfl rfl) rfl ?_
 refine .box [_, _, _, _, _, _, _, _, _, _, _, _, _, _, _, _, _, _, _, _, _, _, _, _, _, _, _, _, _, _, _, _, _, _, _, _] .ro rfl rfl rfl (fun b2 hb2 => ?_)
 refine .recell 0 ([_, _, _, _] ++ List.map (Value.int .i64) (List.replicate 32 (0 : Int))) rfl rfl [_, _] rfl (.go 9 ?_)
 refine .kB (fun y => ∃ (Z0 Z1 : _) (Z2 : List (List Int)) (Z3 : _) (Z4 : Nat) (Z5 Z6 Z7 : _) (Z8 : List Int) (Z9 Z10 Z11 : _), y = ⟨[], G :: Fs, [(b2, .cells (([.int .i64 Z0, .int .i64 Z1, .slice Z3 Z2.length Z4, .int .i64 Z7] : List Value) ++ List.map (Value.int .i64) Z8).toArray 286 (0, 0)), (b1, .cells #[.int .i64 Z9, .int .i64 Z10, .int .i64 Z11, .slice a0_3 x0_3.length k0_3, .slice a0_4 x0_4.length k0_4] 256 (0, 0))], [.s (.slice Z3 Z2.length Z4) 22 1 Z2.length Z6, .g (packG 3 1 Z5)]⟩ ∧ NL ri G Z5 Z6 Z2 ∧ Z8.length = 32 ∧ solve_reduce_J2 Z0 Z1 Z2 Z7 Z8 Z9 Z10 Z11 = some r) [(1, _), (3, _)] [] [] [] [] ?_ ?_
 ·rintro _ ⟨v12, v13, v14, a15, k16, es17, cs18, v19, v20, v21, v23, v24, rfl, o25, hl26, r27⟩
  refine .gn 0 ?_
  unfold solve_reduce_J2 at r27
  try dsimp only at r27
  refine .go 7 ?_
  refine .block (.pullS 1 rfl [_, _] rfl (.pullS 1 rfl [_, _] rfl ?_))
  refine .lp (fun y m => ∃ (Z0 : Nat) (Z1 : _) (Z2 : List (List Int)) (Z3 Z4 Z5 : _) (Z6 : List Int), y = ⟨[(52, .int .i64 Z1)], [], [(b2, .cells (([.int .i64 v12, .int .i64 v13, .slice a15 Z2.length k16, .int .i64 Z5] : List Value) ++ List.map (Value.int .i64) Z6).toArray 286 (0, 0))], [.s (.slice a15 Z2.length k16) 22 1 Z2.length Z4, .g (packG 3 1 Z3)]⟩ ∧ Z0 = m ∧ NL ri G Z3 Z4 Z2 ∧ Z2.length = v14.length ∧ Z6.length = 32 ∧ solve_reduce_L1 v24 v12 v13 Z0 Z1 Z2 Z5 Z6 = some r) [(3, _), (51, _)] [_] [] ⟨big, 0, v14, es17, cs18, v19, v20, rfl, rfl, o25, rfl, hl26, r27⟩ (fun y m hI hb28 => ?_)
  obtain ⟨n29, v30, v31, es32, cs33, v34, v35, rfl, rfl, o36, hl37, hl38, r39⟩ := hI
  refine .gn 0 ?_
  obtain ⟨m40, rfl⟩ : ∃ m, n29 = m + 1 := by cases n29 with | zero => exact absurd (show (none : Option _) = some _ from r39) (by simp) | succ m => exact ⟨m, rfl⟩
  have r41 : solve_reduce_B1 v24 v12 v13 (solve_reduce_L1 v24 v12 v13 m40) v30 v31 v34 v35 = some r := r39; clear r39; unfold solve_reduce_B1 at r41; try dsimp only at r41
  refine .go 5 ?_
  refine .cH r41 (fun c42 r43 => ?_) (fun c42 r44 => ?_)
  ·refine .go 2 ?_
   refine .block (.go 8 ?_)
   obtain ⟨u45, hu45, r46⟩ := bind_some r43
   refine .pullS 1 rfl [_, _] rfl (.pullS 1 rfl [_, _] rfl ?_)
   refine .callS (b1 := [_]) (b2 := [_]) (s1 := [_, _]) [_, _] [] .ro rfl rfl Tryz.call201 rfl rfl (solve_reduced_lead_c mcs o36 hl38 hu45) rfl (fun v47 bo so h48 => ?_)
   obtain ⟨es49, cs50, rfl, rfl, rfl, o52, hl53, hl54⟩ := h48
   refine .gn 0 ?_
   refine .recell 0 (([_, _, .slice a15 u45.1.length k16, _] : List Value) ++ List.map (Value.int .i64) u45.2.2) rfl (by rw [hl53] <;> rfl) [_, _] rfl (.go 6 ?_)
   exact (hb28 _ _ ⟨m40, (w64 (v30 + 1)), u45.1, es49, cs50, u45.2.1, u45.2.2, rfl, rfl, o52, (hl53.trans hl37), hl54, r46⟩ (Nat.lt_succ_self _)).ar
  ·refine .exit rfl ?_
   refine .go 5 ?_
   refine .pullS 1 rfl [_, _] rfl (.pullS 1 rfl [_, _] rfl ?_)
   refine .freezeN (Q := ri) rfl o36 rfl B0 (fun G55 e56 B57 s58 => ?_)
   cases r44
   refine .pull 1 rfl [_, _] rfl (.drop 1 0 [_] _ rfl rfl ?_)
   refine .rW 0 [.tmp 2] [_] Tryz.func192 Tryz.results192 ⟨RV.tmp rfl, trivial⟩ B57 hS0 (fun G' hg => ⟨a15, k16, _, rfl, rfl, rfl, (SlR.mono hg s58), hl38⟩)
 ·intro hb59
  refine .block (.packE 3 1 (.own_nil 22 1 (.pullS 1 rfl [_, _] rfl (.pullS 1 rfl [_, _] rfl ?_))))
  refine .lp (fun y m => ∃ (Z0 : Nat) (Z1 : _) (Z2 : List (List Int)) (Z3 : _) (Z4 : Nat) (Z5 Z6 : _), y = ⟨[(16, .int .i64 Z1)], [], [(b2, .cells (([.int .i64 x0_0, .int .i64 x0_2, .slice Z3 Z2.length Z4, .int .i64 0] : List Value) ++ List.map (Value.int .i64) (List.replicate 32 (0 : Int))).toArray 286 (0, 0))], [.s (.slice Z3 Z2.length Z4) 22 1 Z2.length Z6, .g (packG 3 1 Z5)]⟩ ∧ Z0 = m ∧ NL ri G Z5 Z6 Z2 ∧ solve_reduce_L3 solve_reduce_J2 x0_1 x0_0 x0_2 (List.replicate 32 (0 : Int)) x0_3 x0_4 Z0 Z1 Z2 = some r) [(1, _), (3, _), (15, _)] [_] [] ⟨big, 0, ([] : List (List Int)), none, 0, [], [], rfl, rfl, (NL.nil (Q := ri)), h⟩ (fun y m hI hb60 => ?_)
  obtain ⟨n61, v62, v63, a65, k66, es67, cs68, rfl, rfl, o69, r70⟩ := hI
  refine .gn 0 ?_
  obtain ⟨m71, rfl⟩ : ∃ m, n61 = m + 1 := by cases n61 with | zero => exact absurd (show (none : Option _) = some _ from r70) (by simp) | succ m => exact ⟨m, rfl⟩
  have r72 : solve_reduce_B3 solve_reduce_J2 x0_1 x0_0 x0_2 (List.replicate 32 (0 : Int)) x0_3 x0_4 (solve_reduce_L3 solve_reduce_J2 x0_1 x0_0 x0_2 (List.replicate 32 (0 : Int)) x0_3 x0_4 m71) v62 v63 = some r := r70; clear r70; unfold solve_reduce_B3 at r72; try dsimp only at r72
  refine .go 5 ?_
  refine .cH r72 (fun c73 r74 => ?_) (fun c73 r75 => ?_)
  ·refine .go 2 ?_
   refine .block (.go 18 ?_)
   obtain ⟨u76, hu76, r77⟩ := bind_some r74
   obtain ⟨a78, k79, h80, s81⟩ := SlR.sub s0_3 hu76
   refine .q .ro (.sliceR s0_3 rfl hu76 sl22 ty3.sz (fun h => .yes' rfl h) (fun h => .yes' rfl h) h80) rfl (.own_nil 3 1 ?_)
   obtain ⟨u82, hu82, r83⟩ := bind_some r77
   refine .appR (Q := ri) 0 .ro sl22 ty3 rfl rfl rfl rfl rfl (OL.nil (Rp' := ri)) rfl rfl s81 rfl mcs hu82 rfl (fun a84 k85 cs86 o87 => ?_)
   refine .go 2 ?_
   refine .drawL (.q 0 (.q 1 (.q 2 (.q 3 (.q 4 (.q 5 (.q 6 (.q 7 (.q 8 (.q 9 (.q 10 (.e 11 1 (.e 12 1 (.e 13 1 (.e 14 1 (.q 15 (.q 16 (.e 17 2 .nil)))))))))))))))))) [_, _] (by kernel_rfl) (by kernel_rfl) (pick_mem [0, 1] rfl) (.go 9 ?_)
   obtain ⟨u88, hu88, r89⟩ := bind_some r83
   obtain ⟨c90, p91, h92⟩ := SlR.get s0_4 hu88
   obtain rfl := h92
   refine .dq (.idxR s0_4 rfl rfl hu88 sl22 ty3.sz) rfl (.dq (.load_rp p91 mcs rfl ty3 rfl) rfl ?_)
   refine .lit [_] [(0, _)] .d1 sl22 ty3 rfl rfl rfl rfl rfl rfl (fun b93 hb93 => ?_)
   have o94 : OL ri G [.int .i64 u88] ([u88] : List Int) := ((OL.cons rfl (Rep.intI .i64 u88) (OL.nil (Rp' := ri))) :)
   refine .reval 43 (n' := ([u88] : List Int).length) rfl rfl (.clsL (HpLe.refl _) (pick_mem [0, 1] rfl) ?_)
   obtain ⟨u95, hu95, r96⟩ := bind_some r89
   refine .appO (Q := ri) 0 .d1 sl22 ty3 rfl rfl rfl rfl rfl rfl o87 o94 rfl rfl rfl B0 hu95 rfl (fun a97 k98 cs99 o100 => ?_)
   refine .clsL (HpLe.refl _) (pick_mem [0, 1] rfl) ?_
   refine .lit [_] [(0, _)] .d1 sl51 ty22 rfl rfl rfl rfl rfl rfl (fun b101 hb101 => ?_)
   refine .pullS 1 rfl [_, _, _, _] rfl (.pack1 rfl ?_)
   have o102 : NL ri G [⟨a97, u95.length, k98, cs99⟩] [.slice a97 u95.length k98] ([u95] : List (List Int)) := (NL.one o100 :)
   refine .reval 45 (n' := ([u95] : List (List Int)).length) rfl rfl (.clsL (HpLe.refl _) (pick_mem [0, 1] rfl) ?_)
   obtain ⟨u103, hu103, r104⟩ := bind_some r96
   refine .pullS 1 rfl [_, _, _, _] rfl ?_
   refine .appN 0 1 (Q := ri) .d1 sl51 ty22 rfl rfl rfl rfl rfl rfl o69 o102 rfl rfl hu103 rfl B0 (fun a105 k106 cs107 o108 => ?_)
   refine .clsL (HpLe.refl _) (pick_mem [0, 1] rfl) (.go 2 ?_)
   refine .store 0 ([_, _, _, _] ++ List.map (Value.int .i64) (List.replicate 32 (0 : Int))) [_, _] .d2 rfl rfl rfl ty51 rfl rfl rfl rfl (.go 6 ?_)
   exact (hb60 _ _ ⟨m71, (w64 (v62 + 1)), u103, a105, k106, (es67 ++ [⟨a97, u95.length, k98, cs99⟩]), cs107, rfl, rfl, o108, r104⟩ (Nat.lt_succ_self _)).ar
  ·refine .exit rfl ?_
   exact (hb59 _ ⟨x0_0, x0_2, v63, a65, k66, es67, cs68, 0, (List.replicate 32 (0 : Int)), x0_0, x0_1, x0_2, rfl, o69, rfl, r75⟩).ar
theorem solve_reduced_solvable_c {x0_0 : Int} {x0_1 : Int} {x0_2 : List (List Int)} {x0_3 : Int} {x0_4 : List Int} {r : Bool} (hG : G ∈ Fs) (s0_2 : SlR (Rep.sl ri) G a0_2 k0_2 x0_2) (hnx0_4 : x0_4.length = 32) (h : solve_reduced_solvable (x0_0, x0_1, x0_2, x0_3, x0_4) = some r) : RetS Tryz.prog 193 #[.pointer (some ⟨p0, 0, none⟩)] Fs [(p0, .cells (([.int .i64 x0_0, .int .i64 x0_1, .slice a0_2 x0_2.length k0_2, .int .i64 x0_3] : List Value) ++ List.map (Value.int .i64) x0_4).toArray 286 (0, 0))] [] (fun v bo so => v = .bool r ∧ bo = [(p0, .cells (([.int .i64 x0_0, .int .i64 x0_1, .slice a0_2 x0_2.length k0_2, .int .i64 x0_3] : List Value) ++ List.map (Value.int .i64) x0_4).toArray 286 (0, 0))] ∧ so = []) := by
 unfold solve_reduced_solvable at h
 try dsimp only at h
 refine RetS.st [(0, _)] Tryz.func193 Tryz.ntmps193 hG fun w0 S0 hS0 B0 => ?_
 refine .go 6 ?_
 refine .drawL (.q 0 (.q 1 (.q 2 (.q 3 (.q 4 (.q 5 (.q 6 (.q 7 (.q 8 (.q 9 (.q 10 .nil))))))))))) [_] (by kernel_rfl) (by kernel_rfl) (pick_mem [0] rfl) (.go 8 ?_)
 obtain ⟨u1, hu1, r2⟩ := bind_some h
 obtain ⟨a3, k4, h5, s6⟩ := SlR.sub s0_2 hu1
 refine .dq (.sliceR s0_2 rfl hu1 sl51 ty22.sz (fun h => .yes' rfl h) (fun _ => .no) h5) rfl (.go 3 ?_)
 refine .block ?_
 refine .lp (fun y m => ∃ (Z0 : Nat) (Z1 : List (List Int)), y = ⟨[(15, .int .i64 (Z0 : Int))], [], [], []⟩ ∧ Z1.length = m ∧ List.drop Z0 u1 = Z1 ∧ solve_reduced_solvable_L1 x0_1 Z1  = some r) [(0, _), (13, _), (14, _)] [_] [] ⟨0, u1, rfl, rfl, rfl, r2⟩ (fun y m hI hb38 => ?_)
 obtain ⟨i34, w35, rfl, rfl, g36, r37⟩ := hI
 refine .gn 0 ?_
 cases w35 with
 | nil =>
  rw [solve_reduced_solvable_L1] at r37; try dsimp only at r37
  refine .go 5 ?_
  refine .cond_dec rfl (fun c => absurd c (drop_nil g36)) (fun _ => ?_)
  refine .exit rfl (.go 4 ?_)
  cases r37
  refine .rS [.tmp 2] [_] Tryz.func193 Tryz.results193 ⟨rfl, rfl, rfl⟩
 | cons x47 xs48 =>
  have r46 : solve_reduced_solvable_B1 x0_1 (solve_reduced_solvable_L1 x0_1 xs48) x47  = some r := r37; clear r37; unfold solve_reduced_solvable_B1 at r46; try dsimp only at r46
  refine .go 5 ?_
  refine .cond_dec rfl (fun _ => ?_) (fun c => absurd (drop_lt g36) c)
  refine .go 2 ?_
  refine .block (.go 2 ?_)
  obtain ⟨c49, p50, h51⟩ := SlR.get s6 (drop_idx g36)
  obtain ⟨a52, k53, rfl, s54⟩ := h51
  refine .q .ro (.idxR s6 rfl rfl (drop_idx g36) sl51 ty22.sz) rfl (.q .ro (.load_rp p50 mcs rfl ty22 rfl) rfl (.go 9 ?_))
  obtain ⟨u55, hu55, r56⟩ := bind_some r46
  obtain ⟨c57, p58, h59⟩ := SlR.get s54 hu55
  obtain rfl := h59
  refine .q .ro (.idxR s54 rfl rfl hu55 sl22 ty3.sz) rfl (.q .ro (.load_rp p58 mcs rfl ty3 rfl) rfl (.go 2 ?_))
  refine .cH r56 (fun c60 r61 => ?_) (fun c60 r62 => ?_)
  ·refine .go 4 ?_
   cases r61
   refine .rS [.tmp 2] [_] Tryz.func193 Tryz.results193 ⟨rfl, rfl, rfl⟩
  ·refine .go 6 ?_
   exact (hb38 _ _ ⟨(i34 + 1), xs48, rfl, rfl, (drop_succ g36), r62⟩ (Nat.lt_succ_self _)).ax ⟨(congrArg (fun z => some (Value.int .i64 z)) (idx_wrap (SlR.len s6) g36)), rfl, rfl, rfl, trivial⟩
theorem solve_Solve_c {x0_0 : Int} {x0_1 : Int} {x0_2 : Int} {x0_3 : List Int} {x0_4 : List Int} {r : ((List Int) × Int)} (hG : G ∈ Fs) (s0_3 : SlR ri G a0_3 k0_3 x0_3) (s0_4 : SlR ri G a0_4 k0_4 x0_4) (h : solve_Solve (x0_0, x0_1, x0_2, x0_3, x0_4) = some r) : RetS Tryz.prog 175 #[.agg #[.int .i64 x0_0, .int .i64 x0_1, .int .i64 x0_2, .slice a0_3 x0_3.length k0_3, .slice a0_4 x0_4.length k0_4]] Fs [] [] (fun v bo so => ∃ (oa0 : Option Addr) (ok0 : Nat) (oc0 : List Value), v = .tuple #[.slice oa0 r.1.length ok0, .int .i64 r.2] ∧ bo = [] ∧ so = [.s (.slice oa0 r.1.length ok0) 3 1 r.1.length oc0] ∧ OL ri G oc0 r.1) := by
 unfold solve_Solve at h
 try dsimp only at h
 refine RetS.st [(0, _)] Tryz.func175 Tryz.ntmps175 hG fun w0 S0 hS0 B0 => ?_
 refine .go 2 ?_
 refine .box [_, _, _, _, _] .ro rfl rfl rfl (fun b1 hb1 => ?_)
 refine .go 6 ?_
 refine .q .ro (.load_own_a 0 [_, _, _, _, _] rfl rfl ty256 rfl) rfl ?_
 obtain ⟨u2, hu2, r3⟩ := bind_some h
 refine .cV [_] Tryz.call191 (solve_Check_c mcs s0_3 s0_4 hu2) ?_
 refine .go 7 ?_
 refine .cH r3 (fun c6 r7 => ?_) (fun c6 r9 => ?_)
 ·refine .go 6 ?_
  refine .own_nil 3 1 ?_
  cases r7
  refine .drop 1 0 [] _ rfl rfl ?_
  refine .rS [.tmp 2, .tmp 3] [_, _] Tryz.func175 Tryz.results175 ⟨none, 0, [], rfl, rfl, rfl, (OL.nil (Rp' := ri))⟩
 ·refine .go 3 ?_
  refine .q .ro (.load_own_a 0 [_, _, _, _, _] rfl rfl ty256 rfl) rfl ?_
  obtain ⟨u10, hu10, r11⟩ := bind_some r9
  refine .cW [_] Tryz.call192 (solve_reduce_c mcs s0_3 s0_4 hu10) B0 (fun v13 bo so G14 e15 B16 h12 => ?_)
  obtain ⟨a19, k20, b18, rfl, rfl, rfl, s21, hl22⟩ := h12
  refine .gn 6 ?_
  obtain ⟨u23, hu23, r24⟩ := bind_some r11
  refine .callS (b1 := [_]) (b2 := [_]) (s1 := []) [_] [] .ro rfl rfl Tryz.call193 rfl rfl (solve_reduced_solvable_c mcs s21 hl22 hu23) rfl (fun v26 bo so h25 => ?_)
  obtain ⟨rfl, rfl, rfl⟩ := h25
  refine .gn 2 ?_
  refine .cB r24 (fun c27 r28 => ?_) (fun c27 r30 => ?_)
  ·refine .go 5 ?_
   refine .own_nil 3 1 ?_
   cases r28
   refine .drop 2 0 [] _ rfl rfl ?_
   refine .rS [.tmp 2, .tmp 3] [_, _] Tryz.func175 Tryz.results175 ⟨none, 0, [], rfl, rfl, rfl, (OL.nil (Rp' := ri))⟩
  ·refine .go 5 ?_
   obtain ⟨u31, hu31, r32⟩ := bind_some r30
   refine .makeR (G := G14) (Q := ri) .ro sl22 ty3 rfl rfl rfl ((Rep.intI .i64 0) :) rfl rfl hu31 rfl rfl (fun b33 cs34 hb33 o35 => ?_)
   refine .go 9 ?_
   refine .block ?_
   refine .lp (fun y m => ∃ (Z0 : Nat) (Z1 Z2 : List Int) (Z3 : _) (Z4 : Nat) (Z5 : _), y = ⟨[(6, .slice Z3 Z2.length Z4), (24, .int .i64 (Z0 : Int))], [], [], [.s (.slice Z3 Z2.length Z4) 3 1 Z2.length Z5]⟩ ∧ Z1.length = m ∧ OL ri G14 Z5 Z2 ∧ List.drop Z0 u31 = Z1 ∧ solve_Solve_L1 u10.2.2.1 u10.2.2.2.2 x0_2 Z1 Z0 Z2 = some r) [(1, _), (5, _), (23, _)] [_, _] [] ⟨0, u31, u31, (some ⟨b33, 0, none⟩), u31.length, cs34, rfl, rfl, o35, rfl, r32⟩ (fun y m hI hb89 => ?_)
   obtain ⟨i79, w80, v82, a83, k84, cs85, rfl, rfl, o86, g81, r88⟩ := hI
   refine .gn 0 ?_
   cases w80 with
   | nil =>
    rw [solve_Solve_L1] at r88; try dsimp only at r88
    refine .go 5 ?_
    refine .cond_dec rfl (fun c => absurd c (drop_nil g81)) (fun _ => ?_)
    refine .exit rfl (.go 6 ?_)
    cases r88
    refine .drop 2 0 [] _ rfl rfl ?_
    refine .rS [.tmp 2, .tmp 3] [_, _] Tryz.func175 Tryz.results175 ⟨a83, k84, cs85, rfl, rfl, rfl, (OL.flat (Rep.flat_int _) o86)⟩
   | cons x17 xs29 =>
    have r36 : solve_Solve_B1 u10.2.2.1 u10.2.2.2.2 x0_2 (solve_Solve_L1 u10.2.2.1 u10.2.2.2.2 x0_2 xs29 (i79 + 1)) x17 i79 v82 = some r := r88; clear r88; unfold solve_Solve_B1 at r36; try dsimp only at r36
    refine .go 5 ?_
    refine .cond_dec rfl (fun _ => ?_) (fun c => absurd (drop_lt g81) c)
    refine .go 2 ?_
    refine .block (.go 11 ?_)
    obtain ⟨u37, hu37, r38⟩ := bind_some r36
    refine .q .ro (.indexAddr_ar (4 + ((i79 : Int)).toNat) rfl rfl ar284 ty3.sz (lidx_some hu37).1 (lt_of_lt_of_len (lidx_some hu37).2.1 hl22) (by rw [Nat.mul_one])) rfl (.q .ro (.load_own 0 rfl rfl ty3 (arr_get (pre := [_, _, _, _]) (f := Value.int .i64) (L := u10.2.2.2.2) hu37)) rfl (.go 7 ?_))
    refine .cH r38 (fun c39 r40 => ?_) (fun c39 r41 => ?_)
    ·refine .drawL (.q 0 (.q 1 (.q 2 (.q 3 (.q 4 (.q 5 (.q 6 (.q 7 (.q 8 (.q 9 (.q 10 (.q 11 (.q 12 (.q 13 (.e 14 2 (.e 15 2 .nil)))))))))))))))) [_, _] (by kernel_rfl) (by kernel_rfl) (pick_mem [0, 1] rfl) ?_
     refine .go 8 ?_
     obtain ⟨u42, hu42, r43⟩ := bind_some r40
     obtain ⟨c44, p45, h46⟩ := SlR.get s21 hu42
     obtain ⟨a47, k48, rfl, s49⟩ := h46
     refine .dq (.idxR s21 rfl rfl hu42 sl51 ty22.sz) rfl (.dq (.load_rp p45 mcs rfl ty22 rfl) rfl (.go 2 ?_))
     obtain ⟨u50, hu50, r52⟩ := bind_some r43
     obtain ⟨c53, p54, h55⟩ := SlR.get s49 hu50
     obtain rfl := h55
     refine .dq (.idxR s49 rfl rfl hu50 sl22 ty3.sz) rfl (.dq (.load_rp p54 mcs rfl ty3 rfl) rfl ?_)
     obtain ⟨u56, hu56, r57⟩ := bind_some r52
     obtain ⟨c58, p59, h60⟩ := OL.get o86 hu56
     obtain rfl := h60
     refine .q .d2 (.idxO 0 rfl rfl rfl hu56 sl22 ty3.sz) rfl ?_
     obtain ⟨u61, hu61, r62⟩ := bind_some r57
     refine .storeR 0 0 (Q := ri) .d2 rfl rfl o86 hu61 rfl (.inl ⟨rfl, rfl⟩) rfl ty3 p59 ((Rep.intI .i64 u50) :) rfl rfl (fun cs63 hlcs63 o65 => ?_)
     refine .reval 6 hlcs63 rfl (.reval 35 hlcs63 rfl (.go 6 ?_))
     exact (hb89 _ _ ⟨(i79 + 1), xs29, u61, a83, k84, cs63, rfl, rfl, o65, (drop_succ g81), r62⟩ (Nat.lt_succ_self _)).ax ⟨rfl, (congrArg (fun z => some (Value.int .i64 z)) (idx_wrap (OL.len' o35) g81)), rfl, rfl, rfl, trivial⟩
    ·refine .go 6 ?_
     exact (hb89 _ _ ⟨(i79 + 1), xs29, v82, a83, k84, cs85, rfl, rfl, o86, (drop_succ g81), r41⟩ (Nat.lt_succ_self _)).ax ⟨rfl, (congrArg (fun z => some (Value.int .i64 z)) (idx_wrap (OL.len' o35) g81)), rfl, rfl, rfl, trivial⟩
theorem poly_Divide_c {x0_0 : Int} {x1 : List Int} {x2 : List Int} {r : ((List Int) × (List Int) × Int)} (hG : G ∈ Fs) (s1 : SlR ri G a1 k1 x1) (s2 : SlR ri G a2 k2 x2) (h : poly_Divide x0_0 x1 x2 = some r) : RetS Tryz.prog 176 #[.agg #[.int .i64 x0_0], .slice a1 x1.length k1, .slice a2 x2.length k2] Fs [] [] (fun v bo so => ∃ (oa0 : Option Addr) (ok0 : Nat) (oc0 : List Value), ∃ (oa1 : Option Addr) (ok1 : Nat) (oc1 : List Value), v = .tuple #[.slice oa0 r.1.length ok0, .slice oa1 r.2.1.length ok1, .int .i64 r.2.2] ∧ bo = [] ∧ so = [.s (.slice oa0 r.1.length ok0) 3 1 r.1.length oc0, .s (.slice oa1 r.2.1.length ok1) 3 1 r.2.1.length oc1] ∧ OL ri G oc0 r.1 ∧ OL ri G oc1 r.2.1) := by
 unfold poly_Divide at h
 try dsimp only at h
 refine RetS.st [(0, _), (1, _), (2, _)] Tryz.func176 Tryz.ntmps176 hG fun w0 S0 hS0 B0 => ?_
 refine .go 2 ?_
 refine .box [_] .ro rfl rfl rfl (fun b1 hb1 => ?_)
 refine .go 6 ?_
 refine .q .ro (.load_own_a 0 [_] rfl rfl ty45 rfl) rfl (.go 2 ?_)
 refine .lit [_, _] [(0, _), (1, _)] .ro sl51 ty22 rfl rfl rfl rfl rfl rfl (fun b2 hb2 => ?_)
 have o3 : OL (Rep.sl ri) G [.slice a1 x1.length k1, .slice a2 x2.length k2] ([x1, x2] : List (List Int)) := ((OL.cons rfl (Rep.slI s1) (OL.cons rfl (Rep.slI s2) (OL.nil (Rp' := (Rep.sl ri))))) :)
 refine .reval 21 (n' := ([x1, x2] : List (List Int)).length) rfl rfl ?_
 refine .freezeR 0 rfl rfl o3 [] rfl B0 (fun G5 e6 B7 s8 => ?_)
 obtain ⟨u10, hu10, r11⟩ := bind_some h
 refine .cV [_, _] Tryz.call194 (poly_open_c mcs s8 hu10) ?_
 refine .go 12 ?_
 refine .cH r11 (fun c14 r15 => ?_) (fun c14 r18 => ?_)
 ·refine .go 7 ?_
  refine .own_nil 3 1 (.own_nil 3 1 ?_)
  cases r15
  refine .drop 1 0 [] _ rfl rfl (.pullS 1 rfl [_, _] rfl ?_)
  refine .rS [.tmp 6, .tmp 7, .tmp 8] [_, _, _] Tryz.func176 Tryz.results176 ⟨none, 0, [], none, 0, [], rfl, rfl, rfl, (OL.nil (Rp' := ri)), (OL.nil (Rp' := ri))⟩
 ·refine .go 4 ?_
  obtain ⟨u19, hu19, r20⟩ := bind_some r18
  refine .cS [_] Tryz.call195 (poly_own_c mcs (SlR.mono e6 s1) hu19) (fun v22 bo so h21 => ?_)
  obtain ⟨a24, k25, cs26, rfl, rfl, rfl, o27⟩ := h21
  refine .gn 1 ?_
  obtain ⟨u28, hu28, r29⟩ := bind_some r20
  refine .cS [_] Tryz.call196 (residue_Trim_c mcs (SlR.mono e6 s2) hu28) (fun v31 bo so h30 => ?_)
  obtain ⟨a32, k33, rfl, rfl, rfl, s34⟩ := h30
  refine .gn 15 ?_
  refine .cH r29 (fun c35 r36 => ?_) (fun c35 r39 => ?_)
  ·refine .go 6 ?_
   refine .own_nil 3 1 (.own_nil 3 1 ?_)
   cases r36
   refine .drop 1 0 [] _ rfl rfl (.pullS 1 rfl [_, _, _] rfl (.pullS 2 rfl [_, _, _] rfl (.drop 0 1 _ [_, _] rfl rfl ?_)))
   refine .rS [.tmp 6, .tmp 7, .tmp 8] [_, _, _] Tryz.func176 Tryz.results176 ⟨none, 0, [], none, 0, [], rfl, rfl, rfl, (OL.nil (Rp' := ri)), (OL.nil (Rp' := ri))⟩
  ·refine .go 8 ?_
   refine .q .ro (.max2 rfl rfl) rfl ?_
   obtain ⟨u40, hu40, r41⟩ := bind_some r39
   refine .makeR (G := G5) (Q := ri) .ro sl22 ty3 rfl rfl rfl ((Rep.intI .i64 0) :) rfl rfl hu40 rfl rfl (fun b42 cs43 hb42 o44 => ?_)
   refine .go 8 ?_
   obtain ⟨u46, hu46, r47⟩ := bind_some r41
   obtain ⟨c48, p49, h50⟩ := SlR.get s34 hu46
   obtain rfl := h50
   refine .q .ro (.idxR s34 rfl rfl hu46 sl22 ty3.sz) rfl (.q .ro (.load_rp p49 mcs rfl ty3 rfl) rfl ?_)
   obtain ⟨u51, hu51, r52⟩ := bind_some r47
   refine .cV [_, _] Tryz.call197 (residue_Field_Inverse_c mcs  hu51) ?_
   refine .go 3 ?_
   refine .kB (fun y => ∃ (Z0 : List Int) (Z1 : _) (Z2 : Nat) (Z3 Z4 Z5 : _) (Z6 : Value) (Z7 : List Int) (Z8 : _) (Z9 : Nat) (Z10 : _), y = ⟨[(11, Z6), (13, .slice Z8 Z7.length Z9)], G5 :: Fs, [], [.s (.slice Z1 Z0.length Z2) 3 1 Z0.length Z3, .s (.slice Z8 Z7.length Z9) 3 1 Z7.length Z10]⟩ ∧ OL ri G5 Z3 Z0 ∧ PartV Z1 1 Z6 Z4.toNat (Z5 - Z4).toNat ∧ OL ri G5 Z10 Z7 ∧ poly_Divide_J1 Z0 Z4 Z5 Z7 = some r) [] [_] [0] [] [] ?_ ?_
   ·rintro _ ⟨v12, a13, k16, cs17, v23, v37, vv38, v53, a54, k55, cs56, rfl, o57, pv58, o59, r60⟩
    refine .gn 0 ?_
    unfold poly_Divide_J1 at r60
    try dsimp only at r60
    refine .go 3 ?_
    refine .freezeR 1 rfl rfl o59 [_] rfl B7 (fun G61 e62 B63 s65 => ?_)
    obtain ⟨u66, hu66, r68⟩ := bind_some r60
    refine .cS [_] Tryz.call195 (poly_own_c mcs s65 hu66) (fun v69 bo so h70 => ?_)
    obtain ⟨a71, k72, cs73, rfl, rfl, rfl, o74⟩ := h70
    refine .gn 1 ?_
    refine .freezeR 1 rfl rfl (OL.mono e62 o57) [_] rfl B63 (fun G75 e76 B78 s79 => ?_)
    obtain ⟨u80, hu80, r81⟩ := bind_some r68
    obtain ⟨a82, k83, h84, s85⟩ := SlR.part s79 pv58 hu80
    refine .revalV 91 h84.symm rfl ?_
    obtain ⟨u86, hu86, r87⟩ := bind_some r81
    refine .cS [_] Tryz.call195 (poly_own_c mcs s85 hu86) (fun v88 bo so h89 => ?_)
    obtain ⟨a90, k91, cs92, rfl, rfl, rfl, o93⟩ := h89
    refine .gn 4 ?_
    cases r87
    refine .drop 1 0 [] _ rfl rfl (.pullS 1 rfl [_, _] rfl ?_)
    refine .rS [.tmp 6, .tmp 7, .tmp 8] [_, _, _] Tryz.func176 Tryz.results176 ⟨a71, k72, cs73, a90, k91, cs92, rfl, rfl, rfl, (OL.flat (Rep.flat_int _) o74), (OL.flat (Rep.flat_int _) o93)⟩
   ·intro hb94
    refine .block ?_
    refine .owncap 1 rfl (fun h95 => ?_)
    refine .pullS 1 rfl [_, _] rfl ?_
    refine .lp (fun y m => ∃ (Z0 : Nat) (Z1 : List Int) (Z2 Z3 Z4 : _) (Z5 : Value) (Z6 : List Int) (Z7 : _) (Z8 : Nat) (Z9 : _), y = ⟨[(11, Z5), (13, .slice Z7 Z6.length Z8)], [], [], [.s (.slice a24 Z1.length k25) 3 1 Z1.length Z2, .s (.slice Z7 Z6.length Z8) 3 1 Z6.length Z9]⟩ ∧ Z0 = m ∧ OL ri G5 Z2 Z1 ∧ Z1.length = u19.length ∧ PartV a24 1 Z5 Z3.toNat (Z4 - Z3).toNat ∧ OL ri G5 Z9 Z6 ∧ poly_Divide_L3 poly_Divide_J1 u28 u10.1 (u28.length : Int) u51 Z0 Z1 Z3 Z4 Z6 = some r) [(2, _), (9, _), (12, _), (14, _)] [_] [] ⟨big, u19, cs26, 0, (u19.length : Int), _, u40, (some ⟨b42, 0, none⟩), u40.length, cs43, rfl, rfl, o27, rfl, (PartV.all h95), o44, r52⟩ (fun y m hI hb96 => ?_)
    obtain ⟨n97, v98, cs99, v100, v101, vv102, v103, a104, k105, cs106, rfl, rfl, o107, hl108, pv109, o110, r111⟩ := hI
    refine .gn 0 ?_
    obtain ⟨m112, rfl⟩ : ∃ m, n97 = m + 1 := by cases n97 with | zero => exact absurd (show (none : Option _) = some _ from r111) (by simp) | succ m => exact ⟨m, rfl⟩
    have r113 : poly_Divide_B3 poly_Divide_J1 u28 u10.1 (u28.length : Int) u51 (poly_Divide_L3 poly_Divide_J1 u28 u10.1 (u28.length : Int) u51 m112) v98 v100 v101 v103 = some r := r111; clear r111; unfold poly_Divide_B3 at r113; try dsimp only at r113
    refine .go 4 ?_
    refine .q .ro (.len_p rfl pv109 sl22) rfl (.go 3 ?_)
    refine .cH r113 (fun c114 r115 => ?_) (fun c114 r116 => ?_)
    ·refine .go 1 ?_
     refine .block (.go 3 ?_)
     refine .q .ro (.len_p rfl pv109 sl22) rfl (.go 9 ?_)
     refine .q .ro (.len_p rfl pv109 sl22) rfl (.go 1 ?_)
     obtain ⟨u117, hu117, r118⟩ := bind_some r115
     obtain ⟨u119, hu119, r120⟩ := bind_some r118
     obtain ⟨c121, p122, h123⟩ := OL.get o107 hu119
     obtain rfl := h123
     refine .q .ro (.idxP 0 rfl rfl pv109 rfl hu117 hu119 sl22 ty3.sz) rfl (.q .ro (.loadO 0 0 rfl hu119 p122 rfl (.inl ⟨rfl, rfl⟩) ty3 rfl) rfl (.go 1 ?_))
     obtain ⟨u124, hu124, r125⟩ := bind_some r120
     refine .cV [_, _, _] Tryz.call77 (residue_Field_Mul_c mcs  hu124) ?_
     refine .go 7 ?_
     obtain ⟨u126, hu126, r127⟩ := bind_some r125
     obtain ⟨c128, p129, h130⟩ := OL.get o110 hu126
     obtain rfl := h130
     refine .q .ro (.idxO 1 rfl rfl rfl hu126 sl22 ty3.sz) rfl ?_
     obtain ⟨u131, hu131, r132⟩ := bind_some r127
     refine .storeR 1 0 (Q := ri) .ro rfl rfl o110 hu131 rfl (.inl ⟨rfl, rfl⟩) rfl ty3 p129 ((Rep.intI .i64 u124) :) rfl rfl (fun cs133 hlcs133 o134 => ?_)
     refine .reval 13 hlcs133 rfl (.reval 67 hlcs133 rfl (.go 2 ?_))
     refine .kG (fun y => ∃ (Z0 : List Int) (Z1 : _), y = ⟨[], G5 :: Fs, [], [.s (.slice a24 Z0.length k25) 3 1 Z0.length Z1]⟩ ∧ OL ri G5 Z1 Z0 ∧ Z0.length = u19.length ∧ (poly_Divide_J2 (poly_Divide_L3 poly_Divide_J1 u28 u10.1 (u28.length : Int) u51 m112) v100 v101 u131) Z0 = some r) [(11, _), (13, _), (2, _), (9, _), (12, _), (14, _)] [_] [0] [_] [1] ?_ ?_
     ·rintro _ ⟨v135, cs136, rfl, o137, hl138, r139⟩
      refine .gn 0 ?_
      unfold poly_Divide_J2 at r139
      try dsimp only at r139
      refine .go 3 ?_
      refine .q .ro (.len_p rfl pv109 sl22) rfl (.go 2 ?_)
      refine .q .ro (.len_p rfl pv109 sl22) rfl (.go 1 ?_)
      obtain ⟨u140, hu140, r141⟩ := bind_some r139
      refine .q .ro (.sliceP3 rfl pv109 hu140 sl22 ty3.sz rfl rfl) rfl ?_
      refine .toV 0 rfl (fun vb142 po143 va144 vb145 => ?_)
      obtain ⟨u146, hu146, r147⟩ := bind_some r141
      refine .lendP 0 87 rfl va144 o137 (PartV.psub3 pv109 hu140) rfl hu146 rfl (fun a148 k149 h150 o151 va152 => ?_)
      obtain ⟨u153, hu153, r154⟩ := bind_some r147
      refine .callS (b1 := []) (b2 := [_]) (s1 := [_]) [_] [] .ro rfl rfl Tryz.call196 rfl rfl (residue_Trim_p_c mcs va152 o151 hu153) rfl (fun v155 bo so h156 => ?_)
      obtain ⟨vv157, cs158, rfl, rfl, rfl, pv159, o160, hl161⟩ := h156
      refine .gn 0 ?_
      refine .backP 0 rfl va144 o137 rfl hu146 o160 hl161 (fun cs162 hl163 o164 va165 => ?_)
      refine .ofV 0 rfl vb145 hl163 o164 rfl ?_
      obtain ⟨u166, hu166, r167⟩ := bind_some r154
      refine .go 3 ?_
      exact (hb96 _ _ ⟨m112, (lcpy v135 u140.1 u146.length u153.2), cs162, u166.1, u166.2, _, u131, a104, k105, cs133, rfl, rfl, o164, (hl163.trans hl138), (PartV.comp (PartV.psub3 pv109 hu140) h150 pv159 hu166), o134, r167⟩ (Nat.lt_succ_self _)).ar
     ·intro hb168
      refine .drawL (.q 0 (.q 1 (.q 2 (.q 4 (.q 5 (.q 7 (.alt (.e 3 1 (.e 6 1 (.e 8 2 .nil))) (.e 6 1 (.e 3 1 (.e 8 2 .nil)))))))))) [_] (by kernel_rfl) (by kernel_rfl) (pick_mem [0] rfl) ?_
      obtain ⟨u169, hu169, r170⟩ := bind_some r132
      obtain ⟨u171, hu171, r172⟩ := bind_some r170
      obtain ⟨u173, hu173, r174⟩ := bind_some r172
      obtain ⟨u175, hu175, r177⟩ := bind_some r174
      refine .go 6 ?_
      refine .alt ?_ ?_
      ·refine .q .d1 (.sliceP rfl pv109 hu169 sl22 ty3.sz (fun h => .yes' rfl h) (fun _ => .no)) rfl ?_
       refine .clsL (HpLe.refl _) (pick_mem [0] rfl) (.cVd [_, _, _] Tryz.call190 (residue_Field_Sub_c mcs  hu171) ?_)
       refine .clsL (HpLe.refl _) (pick_mem [0] rfl) ?_
       refine .toV 0 rfl (fun vb178 po179 va180 vb181 => ?_)
       refine .lendP 0 74 rfl va180 o107 (PartV.psub pv109 hu169) rfl hu173 rfl (fun a182 k183 h184 o185 va186 => ?_)
       refine .callS (b1 := []) (b2 := [_]) (s1 := [_]) [_, _, _, _] [] .d2 rfl rfl Tryz.call67 rfl rfl (residue_Field_AddTimes_c mcs va186 o185 s34 hu175) rfl (fun v187 bo so h188 => ?_)
       obtain ⟨cs189, rfl, rfl, rfl, o191, hl192⟩ := h188
       refine .gn 0 ?_
       refine .backP 0 rfl va180 o107 rfl hu173 o191 hl192 (fun cs193 hl198 o199 va200 => ?_)
       refine .ofV 0 rfl vb181 hl198 o199 rfl (.go 1 ?_)
       exact (hb168 _ ⟨(lcpy v98 u169.1 u173.length u175), cs193, rfl, o199, (hl198.trans hl108), r177⟩).ar
      ·refine .cVd [_, _, _] Tryz.call190 (residue_Field_Sub_c mcs  hu171) ?_
       refine .clsL (HpLe.refl _) (pick_mem [0] rfl) (.q .d1 (.sliceP rfl pv109 hu169 sl22 ty3.sz (fun h => .yes' rfl h) (fun _ => .no)) rfl (.clsL (HpLe.refl _) (pick_mem [0] rfl) ?_))
       refine .toV 0 rfl (fun vb201 po202 va203 vb204 => ?_)
       refine .lendP 0 74 rfl va203 o107 (PartV.psub pv109 hu169) rfl hu173 rfl (fun a205 k206 h207 o208 va209 => ?_)
       refine .callS (b1 := []) (b2 := [_]) (s1 := [_]) [_, _, _, _] [] .d2 rfl rfl Tryz.call67 rfl rfl (residue_Field_AddTimes_c mcs va209 o208 s34 hu175) rfl (fun v210 bo so h211 => ?_)
       obtain ⟨cs212, rfl, rfl, rfl, o213, hl214⟩ := h211
       refine .gn 0 ?_
       refine .backP 0 rfl va203 o107 rfl hu173 o213 hl214 (fun cs215 hl216 o217 va218 => ?_)
       refine .ofV 0 rfl vb204 hl216 o217 rfl (.go 1 ?_)
       exact (hb168 _ ⟨(lcpy v98 u169.1 u173.length u175), cs215, rfl, o217, (hl216.trans hl108), r177⟩).ar
    ·refine .exit rfl ?_
     exact (hb94 _ ⟨v98, a24, k25, cs99, v100, v101, _, v103, a104, k105, cs106, rfl, o107, pv109, o110, r116⟩).ar
theorem unique_wrongs_c {x0 : Int} {x1 : List (Int × Bool)} {x2 : List Int} {r : (List Int)} (hG : G ∈ Fs) (s1 : SlR (Rep.pair ri Rep.bool) G a1 k1 x1) (s2 : SlR ri G a2 k2 x2) (h : unique_wrongs x0 x1 x2 = some r) : RetS Tryz.prog 177 #[.int .i64 x0, .slice a1 x1.length k1, .slice a2 x2.length k2] Fs [] [] (fun v bo so => ∃ (oa0 : Option Addr) (ok0 : Nat) (oc0 : List Value), v = .slice oa0 r.length ok0 ∧ bo = [] ∧ so = [.s (.slice oa0 r.length ok0) 3 1 r.length oc0] ∧ OL ri G oc0 r) := by
 unfold unique_wrongs at h
 try dsimp only at h
 refine RetS.st [(0, _), (1, _), (2, _)] Tryz.func177 Tryz.ntmps177 hG fun w0 S0 hS0 B0 => ?_
 refine .go 15 ?_
 refine .block (.own_nil 3 1 ?_)
 refine .lp (fun y m => ∃ (Z0 : Nat) (Z1 : List (Int × Bool)) (Z2 : List Int) (Z3 : _) (Z4 : Nat) (Z5 : _), y = ⟨[(7, .slice Z3 Z2.length Z4), (12, .int .i64 (Z0 : Int))], [], [], [.s (.slice Z3 Z2.length Z4) 3 1 Z2.length Z5]⟩ ∧ Z1.length = m ∧ OL ri G Z5 Z2 ∧ List.drop Z0 x1 = Z1 ∧ unique_wrongs_L1 x0 x2 Z1 Z0 Z2 = some r) [(0, _), (2, _), (10, _), (11, _)] [] [] ⟨0, x1, ([] : List Int), none, 0, [], rfl, rfl, (OL.nil (Rp' := ri)), rfl, h⟩ (fun y m hI hb99 => ?_)
 obtain ⟨i89, w90, v92, a93, k94, cs95, rfl, rfl, o96, g91, r98⟩ := hI
 refine .gn 0 ?_
 cases w90 with
 | nil =>
  rw [unique_wrongs_L1] at r98; try dsimp only at r98
  refine .go 5 ?_
  refine .cond_dec rfl (fun c => absurd c (drop_nil g91)) (fun _ => ?_)
  refine .exit rfl (.go 5 ?_)
  cases r98
  refine .rS [.tmp 6] [_] Tryz.func177 Tryz.results177 ⟨a93, k94, cs95, rfl, rfl, rfl, o96⟩
 | cons x10 xs11 =>
  have r12 : unique_wrongs_B1 x0 x2 (unique_wrongs_L1 x0 x2 xs11 (i89 + 1)) x10 i89 v92 = some r := r98; clear r98; unfold unique_wrongs_B1 at r12; try dsimp only at r12
  refine .go 5 ?_
  refine .cond_dec rfl (fun _ => ?_) (fun c => absurd (drop_lt g91) c)
  refine .go 2 ?_
  refine .block (.go 3 ?_)
  obtain ⟨c13, p14, h15⟩ := SlR.get s1 (drop_idx g91)
  obtain ⟨_, _, rfl, rfl, rfl⟩ := h15
  refine .q .ro (.idxR s1 rfl rfl (drop_idx g91) sl218 ty220.sz) rfl (.q .ro (.load_rp_a [_, _] p14 mcs rfl ty220 rfl) rfl ?_)
  refine .alloc .ro ty220 rfl (fun b16 hb16 => ?_)
  refine .go 1 ?_
  refine .store 0 [_, _] [_] .ro rfl rfl rfl ty220 rfl rfl rfl rfl (.go 2 ?_)
  refine .drawL (.q 0 (.q 1 (.q 2 (.q 3 (.q 4 (.q 5 (.q 6 (.q 8 (.q 9 (.e 7 1 (.q 10 (.q 11 .nil)))))))))))) [_] (by kernel_rfl) (by kernel_rfl) (pick_mem [0] rfl) (.go 3 ?_)
  obtain ⟨u17, h18, r19⟩ := bind_some r12
  refine .kD (fun y => y = ⟨[(28, .bool u17)], G :: Fs, [], []⟩) [(7, _), (12, _), (0, _), (2, _), (10, _), (11, _), (8, _)] [_] [0] [_] [0] 9 ?_ ?_
  ·rintro _ rfl
   refine .gn 1 ?_
   refine .cB r19 (fun c20 r21 => ?_) (fun c20 r23 => ?_)
   ·refine .go 4 ?_
    refine .lit [_] [(0, _)] .ro sl22 ty3 rfl rfl rfl rfl rfl rfl (fun b24 hb24 => ?_)
    have o25 : OL ri G [.int .i64 (w64 ((i89 : Int) + 1))] ([(w64 ((i89 : Int) + 1))] : List Int) := ((OL.cons rfl (Rep.intI .i64 (w64 ((i89 : Int) + 1))) (OL.nil (Rp' := ri))) :)
    refine .reval 32 (n' := ([(w64 ((i89 : Int) + 1))] : List Int).length) rfl rfl ?_
    obtain ⟨u26, hu26, r27⟩ := bind_some r21
    refine .appO (Q := ri) 0 .ro sl22 ty3 rfl rfl rfl rfl rfl rfl o96 o25 rfl rfl rfl B0 hu26 rfl (fun a28 k29 cs30 o31 => ?_)
    refine .go 7 ?_
    refine .drop 1 0 [] _ rfl rfl ?_
    exact (hb99 _ _ ⟨(i89 + 1), xs11, u26, a28, k29, cs30, rfl, rfl, o31, (drop_succ g91), r27⟩ (Nat.lt_succ_self _)).ax ⟨rfl, (congrArg (fun z => some (Value.int .i64 z)) (idx_wrap (SlR.len s1) g91)), rfl, rfl, rfl, rfl, trivial⟩
   ·refine .go 6 ?_
    refine .drop 1 0 [] _ rfl rfl ?_
    exact (hb99 _ _ ⟨(i89 + 1), xs11, v92, a93, k94, cs95, rfl, rfl, o96, (drop_succ g91), r23⟩ (Nat.lt_succ_self _)).ax ⟨rfl, (congrArg (fun z => some (Value.int .i64 z)) (idx_wrap (SlR.len s1) g91)), rfl, rfl, rfl, rfl, trivial⟩
  ·intro hb32
   refine .split_b 19 rfl (fun c33 => ?_) (fun c33 => ?_)
   ·have r34 := ifT h18 c33
    refine .dgq_on rfl (.go 1 ?_)
    refine .dgq_on rfl (.go 1 ?_)
    refine .dgq_on rfl (.go 1 ?_)
    refine .dgq_on rfl (.go 1 ?_)
    refine .dgq_on rfl (.go 1 ?_)
    refine .dgq_on rfl (.go 1 ?_)
    refine .dge_on rfl ?_
    obtain ⟨u35, hu35, r36⟩ := bind_some r34
    refine .cVd [_, _, _] Tryz.call79 (residue_Field_Value_c mcs s2 hu35) ?_
    refine .clsL (HpLe.refl _) (pick_mem [0] rfl) (.dgq_on rfl (.go 2 ?_))
    exact (hb32 _ rfl).ax ⟨sval r36, rfl, rfl, rfl, rfl, rfl, rfl, rfl, trivial⟩
   ·have r37 := ifBF h18 c33
    refine .dgq_off rfl rfl rfl (.dgq_off rfl rfl rfl (.dgq_off rfl rfl rfl (.dgq_off rfl rfl rfl (.dgq_off rfl rfl rfl (.dgq_off rfl rfl rfl (.dge_offL rfl rfl rfl (HpLe.refl _) (pick_mem [0] rfl) (.dgq_off rfl rfl rfl (.go 1 ?_))))))))
    exact (hb32 _ rfl).ax ⟨sval r37, rfl, rfl, rfl, rfl, rfl, rfl, rfl, trivial⟩
end Go.Proofs.YtfcicopgdahmcaaGreatDoor
end

section
set_option maxHeartbeats 4000000
set_option maxRecDepth 100000
namespace Go.Proofs.YtfcicopgdahmcaaGreatDoor
open Go.RowKit
set_option linter.unusedSimpArgs false
set_option linter.unusedVariables false
set_option synthInstance.maxSize 2000
set_option synthInstance.maxHeartbeats 400000
variable {Fs : List Hp} {G : Hp} {a1 a0_2 a0 : Option Addr} {k1 k0_2 k0 p0 : Nat} {cc0 : List Value} {bb0 : Option Nat}
theorem unique_decode_c {x0_0 : Int} {x1 : List (Int × Bool)} {x2 : Int} {r : (((List Int) × (List Int)) × (Option Int))} (hG : G ∈ Fs) (hg0 : Rp G (.pointer (some ⟨0, 0, none⟩)) [ifc233 (some 12)]) (s1 : SlR (Rep.pair ri Rep.bool) G a1 k1 x1) (h : unique_decode x0_0 x1 x2 = some r) : RetW Tryz.prog 152 #[.agg #[.int .i64 x0_0], .slice a1 x1.length k1, .int .i64 x2] Fs [] [] (fun v bo so G => ∃ a0 : Option Addr, ∃ k0 : Nat, ∃ a1 : Option Addr, ∃ k1 : Nat, v = .tuple #[.agg #[.slice a0 r.1.1.length k0, .slice a1 r.1.2.length k1], (ifc233 r.2)] ∧ bo = [] ∧ so = [] ∧ SlR ri G a0 k0 r.1.1 ∧ SlR ri G a1 k1 r.1.2) := by
 unfold unique_decode at h
 try dsimp only at h
 refine RetW.st [(0, _), (1, _), (2, _)] Tryz.func152 Tryz.ntmps152 hG fun w0 S0 hS0 B0 => ?_
 refine .go 2 ?_
 refine .box [_] .ro rfl rfl rfl (fun b1 hb1 => ?_)
 refine .alloc .ro ty215 rfl (fun b2 hb2 => ?_)
 refine .go 5 ?_
 refine .q .ro (.load_own_a 1 [_] rfl rfl ty45 rfl) rfl (.go 2 ?_)
 obtain ⟨u3, hu3, r4⟩ := bind_some h
 refine .cS [_, _, _] Tryz.call170 (code_Fill_c mcs s1 hu3) (fun v6 bo so h5 => ?_)
 obtain ⟨a8, k9, cs10, rfl, rfl, rfl, o11⟩ := h5
 refine .gn 11 ?_
 refine .cH r4 (fun c12 r13 => ?_) (fun c12 r18 => ?_)
 ·refine .go 2 ?_
  refine .q .ro (.build [_, _] [] ty215 pl215 rfl rfl) rfl (.go 1 ?_)
  obtain ⟨u14, hu14, r15⟩ := bind_some r13
  refine .cV [_] Tryz.call171 (unique_of_c mcs  hu14) ?_
  refine .store 0 [_, _] [_, _] .ro rfl rfl rfl ty215 rfl rfl rfl rfl (.go 2 ?_)
  cases r15
  refine .drop 0 1 _ [] rfl rfl ?_
  refine .rW 2 [.cell 6 215, .tmp 7] [_, _] Tryz.func152 Tryz.results152 ⟨RV.cell_a 0 [_, _] rfl rfl ty215 rfl, RV.tmp rfl, trivial⟩ B0 hS0 (fun G' hg => ⟨none, 0, none, 0, rfl, rfl, rfl, (SlR.mono hg (SlR.nil (Rp' := ri))), (SlR.mono hg (SlR.nil (Rp' := ri)))⟩)
 ·refine .go 4 ?_
  obtain ⟨u19, hu19, r20⟩ := bind_some r18
  refine .cV [_] Tryz.call173 (unique_count_c mcs s1 hu19) ?_
  refine .go 1 ?_
  obtain ⟨u23, hu23, r24⟩ := bind_some r20
  refine .cV [_, _] Tryz.call172 (unique_Radius_c mcs  hu23) ?_
  refine .go 8 ?_
  refine .q .ro (.load_own_a 1 [_] rfl rfl ty45 rfl) rfl (.go 3 ?_)
  obtain ⟨u27, hu27, r28⟩ := bind_some r24
  refine .cW [_, _, _, _] Tryz.call174 (unique_Key_c mcs s1 hu27) B0 (fun v30 bo so G31 e32 B33 h29 => ?_)
  obtain ⟨a35, k36, a38, k39, rfl, rfl, rfl, s37, s40⟩ := h29
  refine .gn 3 ?_
  refine .alloc .ro ty256 rfl (fun b41 hb41 => ?_)
  refine .store 0 [_, _, _, _, _] [_, _, _] .ro rfl rfl rfl ty256 rfl rfl rfl rfl (.go 8 ?_)
  refine .cH r28 (fun c42 r43 => ?_) (fun c42 r48 => ?_)
  ·refine .go 2 ?_
   refine .q .ro (.build [_, _] [] ty215 pl215 rfl rfl) rfl (.go 1 ?_)
   obtain ⟨u44, hu44, r45⟩ := bind_some r43
   refine .cV [_] Tryz.call171 (unique_of_c mcs  hu44) ?_
   refine .store 1 [_, _] [_, _, _] .ro rfl rfl rfl ty215 rfl rfl rfl rfl (.go 2 ?_)
   cases r45
   refine .drop 0 1 _ [] rfl rfl ?_
   refine .rW 3 [.cell 6 215, .tmp 7] [_, _] Tryz.func152 Tryz.results152 ⟨RV.cell_a 1 [_, _] rfl rfl ty215 rfl, RV.tmp rfl, trivial⟩ B33 hS0 (fun G' hg => ⟨none, 0, none, 0, rfl, rfl, rfl, (SlR.mono hg (SlR.nil (Rp' := ri))), (SlR.mono hg (SlR.nil (Rp' := ri)))⟩)
  ·refine .go 3 ?_
   refine .q .ro (.load_own_a 0 [_, _, _, _, _] rfl rfl ty256 rfl) rfl ?_
   obtain ⟨u49, hu49, r50⟩ := bind_some r48
   refine .cS [_] Tryz.call175 (solve_Solve_c mcs s37 s40 hu49) (fun v52 bo so h51 => ?_)
   obtain ⟨a54, k55, cs56, rfl, rfl, rfl, o57⟩ := h51
   refine .gn 12 ?_
   refine .cH r50 (fun c58 r59 => ?_) (fun c58 r60 => ?_)
   ·refine .go 1 ?_
    refine .drawL (.q 0 (.q 1 (.e 2 1 (.q 3 .nil)))) [_, _] (by kernel_rfl) (by kernel_rfl) (pick_mem [0, 2] rfl) (.dq (.build [_, _] [] ty215 pl215 rfl rfl) rfl (.dq (.load_rp (Rp.mono e32 hg0) mcs rfl ty233 rfl) rfl (.store 1 [_, _] [_, _, _] .d1 rfl rfl rfl ty215 rfl rfl rfl rfl (.clsL (HpLe.refl _) (pick_mem [0, 2] rfl) (.go 2 ?_)))))
    cases r59
    refine .drop 0 2 _ [] rfl rfl ?_
    refine .rW 3 [.cell 6 215, .tmp 7] [_, _] Tryz.func152 Tryz.results152 ⟨RV.cell_a 1 [_, _] rfl rfl ty215 rfl, RV.tmp rfl, trivial⟩ B33 hS0 (fun G' hg => ⟨none, 0, none, 0, rfl, rfl, rfl, (SlR.mono hg (SlR.nil (Rp' := ri))), (SlR.mono hg (SlR.nil (Rp' := ri)))⟩)
   ·refine .go 2 ?_
    refine .kG (fun y => ∃ (Z0 : _) (Z1 : List Int) (Z2 : _) (Z3 : Nat) (Z4 : List Int) (Z5 : _) (Z6 : Nat) (Z7 : _), y = ⟨[(15, .slice Z2 Z1.length Z3), (16, .slice Z5 Z4.length Z6)], Z0 :: Fs, [], [.s (.slice Z5 Z4.length Z6) 3 1 Z4.length Z7]⟩ ∧ HpLe G31 Z0 ∧ Bd w0 S0 Fs Z0 ∧ SlR ri Z0 Z2 Z3 Z1 ∧ OL ri Z0 Z7 Z4 ∧ (unique_decode_J1 x1 x2 u23.1 x0_0) Z1 Z4 = some r) [(1, _), (2, _), (3, _), (6, _), (10, _)] [_, _, _] [0, 1, 2] [_] [1] ?_ ?_
    ·rintro _ ⟨G16, v17, a21, k25, v26, a34, k46, cs47, rfl, e53, B61, s62, o63, r65⟩
     refine .gn 0 ?_
     unfold unique_decode_J1 at r65
     try dsimp only at r65
     refine .go 2 ?_
     refine .q .ro (.load_own_a 2 [_] rfl rfl ty45 rfl) rfl (.go 2 ?_)
     refine .freezeR 0 rfl rfl o63 [_] rfl B61 (fun G66 e67 B68 s69 => ?_)
     obtain ⟨u70, hu70, r71⟩ := bind_some r65
     refine .cS [_, _, _] Tryz.call176 (poly_Divide_c mcs (SlR.mono e67 s62) s69 hu70) (fun v72 bo so h73 => ?_)
     obtain ⟨a74, k75, cs76, a77, k78, cs79, rfl, rfl, rfl, o80, o81⟩ := h73
     refine .gn 14 ?_
     refine .kR (fun y => y = ⟨[(88, .bool (decide ((u70.2.2 ≠ 0) ∨ (0 < (u70.2.1.length : Int)))))], G66 :: Fs, [], []⟩) [(1, _), (2, _), (3, _), (6, _), (10, _), (17, _)] [_, _, _] [0, 1, 2] [_, _, _] [0, 1, 2] 4 ?_ ?_
     ·rintro _ rfl
      refine .gn 1 ?_
      refine .kR (fun y => y = ⟨[(94, .bool (decide (((u70.2.2 ≠ 0) ∨ (0 < (u70.2.1.length : Int))) ∨ (x2 < (u70.1.length : Int)))))], G66 :: Fs, [], []⟩) [(1, _), (3, _), (6, _), (10, _), (17, _)] [_, _, _] [0, 1, 2] [_, _, _] [0, 1, 2] 5 ?_ ?_
      ·rintro _ rfl
       refine .gn 1 ?_
       refine .cH r71 (fun c82 r83 => ?_) (fun c82 r84 => ?_)
       ·refine .go 1 ?_
        refine .drawL (.q 0 (.q 1 (.e 2 1 (.q 3 .nil)))) [_, _] (by kernel_rfl) (by kernel_rfl) (pick_mem [0, 2] rfl) (.dq (.build [_, _] [] ty215 pl215 rfl rfl) rfl (.dq (.load_rp (Rp.mono (HpLe.trans (HpLe.trans e32 e53) e67) hg0) mcs rfl ty233 rfl) rfl (.store 1 [_, _] [_, _, _] .d1 rfl rfl rfl ty215 rfl rfl rfl rfl (.clsL (HpLe.refl _) (pick_mem [0, 2] rfl) (.go 2 ?_)))))
        cases r83
        refine .drop 0 3 _ [] rfl rfl ?_
        refine .rW 3 [.cell 6 215, .tmp 7] [_, _] Tryz.func152 Tryz.results152 ⟨RV.cell_a 1 [_, _] rfl rfl ty215 rfl, RV.tmp rfl, trivial⟩ B68 hS0 (fun G' hg => ⟨none, 0, none, 0, rfl, rfl, rfl, (SlR.mono hg (SlR.nil (Rp' := ri))), (SlR.mono hg (SlR.nil (Rp' := ri)))⟩)
       ·refine .go 8 ?_
        refine .freezeR 0 rfl rfl o80 [_, _] rfl B68 (fun G85 e86 B87 s88 => ?_)
        obtain ⟨u89, hu89, r90⟩ := bind_some r84
        refine .cS [_, _, _] Tryz.call177 (unique_wrongs_c mcs (SlR.mono (HpLe.trans (HpLe.trans (HpLe.trans e32 e53) e67) e86) s1) s88 hu89) (fun v91 bo so h92 => ?_)
        obtain ⟨a93, k94, cs95, rfl, rfl, rfl, o96⟩ := h92
        refine .gn 0 ?_
        refine .q .ro (.build [_, _] [(0, _), (1, _)] ty215 pl215 rfl rfl) rfl ?_
        refine .alloc .ro ty215 rfl (fun b97 hb97 => ?_)
        refine .store 0 [_, _] [_, _, _, _] .ro rfl rfl rfl ty215 rfl rfl rfl rfl (.go 10 ?_)
        refine .cH r90 (fun c98 r99 => ?_) (fun c98 r101 => ?_)
        ·refine .go 1 ?_
         refine .drawL (.q 0 (.q 1 (.e 2 1 (.q 3 .nil)))) [_, _, _] (by kernel_rfl) (by kernel_rfl) (pick_mem [0, 1, 3] rfl) (.dq (.build [_, _] [] ty215 pl215 rfl rfl) rfl (.dq (.load_rp (Rp.mono (HpLe.trans (HpLe.trans (HpLe.trans e32 e53) e67) e86) hg0) mcs rfl ty233 rfl) rfl (.store 2 [_, _] [_, _, _, _] .d1 rfl rfl rfl ty215 rfl rfl rfl rfl (.clsL (HpLe.refl _) (pick_mem [0, 1, 3] rfl) (.go 2 ?_)))))
         cases r99
         refine .drop 0 3 _ [] rfl rfl ?_
         refine .rW 4 [.cell 6 215, .tmp 7] [_, _] Tryz.func152 Tryz.results152 ⟨RV.cell_a 2 [_, _] rfl rfl ty215 rfl, RV.tmp rfl, trivial⟩ B87 hS0 (fun G' hg => ⟨none, 0, none, 0, rfl, rfl, rfl, (SlR.mono hg (SlR.nil (Rp' := ri))), (SlR.mono hg (SlR.nil (Rp' := ri)))⟩)
        ·refine .go 3 ?_
         refine .q .ro (.load_own_a 0 [_, _] rfl rfl ty215 rfl) rfl (.store 2 [_, _] [_, _, _, _] .ro rfl rfl rfl ty215 rfl rfl rfl rfl (.go 2 ?_))
         refine .freezeR 0 rfl rfl o96 [_, _] rfl B87 (fun G102 e103 B104 s105 => ?_)
         cases r101
         refine .drop 0 2 _ [] rfl rfl ?_
         refine .rW 4 [.cell 6 215, .tmp 7] [_, _] Tryz.func152 Tryz.results152 ⟨RV.cell_a 2 [_, _] rfl rfl ty215 rfl, RV.tmp rfl, trivial⟩ B104 hS0 (fun G' hg => ⟨a74, k75, a93, k94, rfl, rfl, rfl, (SlR.mono hg (SlR.mono e103 s88)), (SlR.mono hg s105)⟩)
      ·intro hb106
       refine .split 89 rfl (fun c107 => ?_) (fun c107 => ?_)
       ·refine .go 5 ?_
        exact (hb106 _ rfl).ax ⟨dor_t c107, rfl, rfl, rfl, rfl, rfl, trivial⟩
       ·refine .go 9 ?_
        exact (hb106 _ rfl).ax ⟨dor_f c107, rfl, rfl, rfl, rfl, rfl, trivial⟩
     ·intro hb108
      refine .split 84 rfl (fun c109 => ?_) (fun c109 => ?_)
      ·refine .go 4 ?_
       exact (hb108 _ rfl).ax ⟨dor_t c109, rfl, rfl, rfl, rfl, rfl, rfl, trivial⟩
      ·refine .go 7 ?_
       exact (hb108 _ rfl).ax ⟨dor_f c109, rfl, rfl, rfl, rfl, rfl, rfl, trivial⟩
    ·intro hb110
     refine .freezeR 0 rfl rfl o57 [_] rfl B33 (fun G111 e112 B113 s114 => ?_)
     refine .drawL (.q 0 (.q 1 (.q 2 (.q 3 (.q 4 (.q 5 (.q 6 (.q 7 (.q 8 (.q 9 (.alt (.e 10 1 (.e 11 1 (.e 12 1 (.q 13 (.q 14 .nil))))) (.e 11 1 (.e 10 1 (.e 12 1 (.q 13 (.q 14 .nil)))))))))))))))) [_, _, _] (by kernel_rfl) (by kernel_rfl) (pick_mem [0, 1, 2] rfl) ?_
     obtain ⟨u115, hu115, r116⟩ := bind_some r60
     obtain ⟨u117, hu117, r118⟩ := bind_some r116
     obtain ⟨u119, hu119, r120⟩ := bind_some r118
     obtain ⟨u121, hu121, r122⟩ := bind_some r120
     refine .go 4 ?_
     obtain ⟨a123, k124, h125, s126⟩ := SlR.sub s114 hu115
     refine .dq (.sliceR s114 rfl hu115 sl22 ty3.sz (fun _ => .no) (fun h => .yes' rfl h) h125) rfl (.go 4 ?_)
     obtain ⟨a127, k128, h129, s130⟩ := SlR.sub s114 hu117
     refine .dq (.sliceR s114 rfl hu117 sl22 ty3.sz (fun h => .yes' rfl h) (fun _ => .no) h129) rfl ?_
     refine .alt ?_ ?_
     ·refine .cSd [_] Tryz.call100 (slices_Clone_Lintint_c mcs s130 hu119) (fun v131 bo so h132 => ?_)
      obtain ⟨a133, k134, cs135, rfl, rfl, rfl, o136⟩ := h132
      refine .gn 0 ?_
      refine .clsL (HpLe.refl _) (pick_mem [0, 1, 2] rfl) ?_
      refine .lit [_] [(0, _)] .d1 sl22 ty3 rfl rfl rfl rfl rfl rfl (fun b137 hb137 => ?_)
      have o138 : OL ri G111 [.int .i64 1] ([1] : List Int) := ((OL.cons rfl (Rep.intI .i64 1) (OL.nil (Rp' := ri))) :)
      refine .reval 72 (n' := ([1] : List Int).length) rfl rfl (.clsL (HpLe.refl _) (pick_mem [0, 1, 2] rfl) ?_)
      refine .appO (Q := ri) 0 .d1 sl22 ty3 rfl rfl rfl rfl rfl rfl o136 o138 rfl rfl rfl B113 hu121 rfl (fun a139 k140 cs141 o142 => ?_)
      refine .clsL (HpLe.refl _) (pick_mem [0, 1, 2] rfl) (.go 3 ?_)
      exact (hb110 _ ⟨G111, u115, a123, k124, u121, a139, k140, cs141, rfl, e112, B113, s126, o142, r122⟩).ar
     ·refine .lit [_] [(0, _)] .d1 sl22 ty3 rfl rfl rfl rfl rfl rfl (fun b143 hb143 => ?_)
      have o144 : OL ri G111 [.int .i64 1] ([1] : List Int) := ((OL.cons rfl (Rep.intI .i64 1) (OL.nil (Rp' := ri))) :)
      refine .reval 72 (n' := ([1] : List Int).length) rfl rfl (.clsL (HpLe.refl _) (pick_mem [0, 1, 2] rfl) ?_)
      refine .cSd [_] Tryz.call100 (slices_Clone_Lintint_c mcs s130 hu119) (fun v145 bo so h146 => ?_)
      obtain ⟨a147, k148, cs149, rfl, rfl, rfl, o150⟩ := h146
      refine .gn 0 ?_
      refine .clsL (HpLe.refl _) (pick_mem [0, 1, 2] rfl) (.pullS 1 rfl [_, _, _] rfl ?_)
      refine .appO (Q := ri) 0 .d1 sl22 ty3 rfl rfl rfl rfl rfl rfl o150 o144 rfl rfl rfl B113 hu121 rfl (fun a151 k153 cs154 o155 => ?_)
      refine .clsL (HpLe.refl _) (pick_mem [0, 1, 2] rfl) (.go 3 ?_)
      exact (hb110 _ ⟨G111, u115, a123, k124, u121, a151, k153, cs154, rfl, e112, B113, s126, o155, r122⟩).ar
theorem unique_Decode_c {x0_0 : Int} {x1 : List (Int × Bool)} {x2 : Int} {r : (((List Int) × (List Int)) × Int)} (hG : G ∈ Fs) (hg0 : Rp G (.pointer (some ⟨0, 0, none⟩)) [ifc233 (some 12)]) (s1 : SlR (Rep.pair ri Rep.bool) G a1 k1 x1) (h : unique_Decode x0_0 x1 x2 = some r) : RetW Tryz.prog 131 #[.agg #[.int .i64 x0_0], .slice a1 x1.length k1, .int .i64 x2] Fs [] [] (fun v bo so G => ∃ a0 : Option Addr, ∃ k0 : Nat, ∃ a1 : Option Addr, ∃ k1 : Nat, v = .tuple #[.agg #[.slice a0 r.1.1.length k0, .slice a1 r.1.2.length k1], .int .i64 r.2] ∧ bo = [] ∧ so = [] ∧ SlR ri G a0 k0 r.1.1 ∧ SlR ri G a1 k1 r.1.2) := by
 unfold unique_Decode at h
 try dsimp only at h
 refine RetW.st [(0, _), (1, _), (2, _)] Tryz.func131 Tryz.ntmps131 hG fun w0 S0 hS0 B0 => ?_
 refine .go 2 ?_
 refine .box [_] .ro rfl rfl rfl (fun b1 hb1 => ?_)
 refine .alloc .ro ty215 rfl (fun b2 hb2 => ?_)
 refine .go 4 ?_
 refine .q .ro (.load_own_a 1 [_] rfl rfl ty45 rfl) rfl (.go 2 ?_)
 obtain ⟨u3, hu3, r4⟩ := bind_some h
 refine .cW [_, _, _] Tryz.call152 (unique_decode_c mcs hg0 s1 hu3) B0 (fun v6 bo so G7 e8 B9 h5 => ?_)
 obtain ⟨a11, k12, a14, k15, rfl, rfl, rfl, s13, s16⟩ := h5
 refine .gn 3 ?_
 refine .alloc .ro ty215 rfl (fun b17 hb17 => ?_)
 refine .store 0 [_, _] [_, _, _] .ro rfl rfl rfl ty215 rfl rfl rfl rfl (.go 6 ?_)
 refine .q .ro (.load_rp (Rp.mono e8 hg0) mcs rfl ty233 rfl) rfl ?_
 obtain ⟨u18, hu18, r19⟩ := bind_some r4
 refine .cV [_, _] Tryz.call153 (errors_Is_c mcs  hu18) ?_
 refine .go 1 ?_
 refine .cB r19 (fun c22 r23 => ?_) (fun c22 r24 => ?_)
 ·refine .go 2 ?_
  refine .q .ro (.build [_, _] [] ty215 pl215 rfl rfl) rfl (.store 1 [_, _] [_, _, _] .ro rfl rfl rfl ty215 rfl rfl rfl rfl (.go 2 ?_))
  cases r23
  refine .rW 3 [.cell 6 215, .tmp 7] [_, _] Tryz.func131 Tryz.results131 ⟨RV.cell_a 1 [_, _] rfl rfl ty215 rfl, RV.tmp rfl, trivial⟩ B9 hS0 (fun G' hg => ⟨none, 0, none, 0, rfl, rfl, rfl, (SlR.mono hg (SlR.nil (Rp' := ri))), (SlR.mono hg (SlR.nil (Rp' := ri)))⟩)
 ·refine .go 2 ?_
  refine .drawL (.q 0 (.q 1 (.e 2 1 (.e 3 1 (.q 4 .nil))))) [_, _] (by kernel_rfl) (by kernel_rfl) (pick_mem [0, 2] rfl) (.dq (.load_own_a 0 [_, _] rfl rfl ty215 rfl) rfl (.go 1 ?_))
  obtain ⟨u25, hu25, r26⟩ := bind_some r24
  refine .cVd [_] Tryz.call154 (unique_number_c mcs  hu25) ?_
  refine .clsL (HpLe.refl _) (pick_mem [0, 2] rfl) (.store 1 [_, _] [_, _, _] .d1 rfl rfl rfl ty215 rfl rfl rfl rfl (.clsL (HpLe.refl _) (pick_mem [0, 2] rfl) (.go 2 ?_)))
  cases r26
  refine .rW 3 [.cell 6 215, .tmp 7] [_, _] Tryz.func131 Tryz.results131 ⟨RV.cell_a 1 [_, _] rfl rfl ty215 rfl, RV.tmp rfl, trivial⟩ B9 hS0 (fun G' hg => ⟨a11, k12, a14, k15, rfl, rfl, rfl, (SlR.mono hg s13), (SlR.mono hg s16)⟩)
theorem columns_Columns_Decode_c {x0_0 : Int} {x0_1 : Int} {x0_2 : List (Bool × (List Int))} {x1 : Int} {r : (((List Int) × (List Int)) × Int)} (hG : G ∈ Fs) (hg0 : Rp G (.pointer (some ⟨0, 0, none⟩)) [ifc233 (some 12)]) (s0_2 : SlR (Rep.pair Rep.bool (Rep.sl ri)) G a0_2 k0_2 x0_2) (h : columns_Columns_Decode (x0_0, x0_1, x0_2) x1 = some r) : RetW Tryz.prog 86 #[.agg #[.int .i64 x0_0, .int .i64 x0_1, .slice a0_2 x0_2.length k0_2], .int .i64 x1] Fs [] [] (fun v bo so G => ∃ a0 : Option Addr, ∃ k0 : Nat, ∃ a1 : Option Addr, ∃ k1 : Nat, v = .tuple #[.agg #[.slice a0 r.1.1.length k0, .slice a1 r.1.2.length k1], .int .i64 r.2] ∧ bo = [] ∧ so = [] ∧ SlR ri G a0 k0 r.1.1 ∧ SlR ri G a1 k1 r.1.2) := by
 unfold columns_Columns_Decode at h
 try dsimp only at h
 refine RetW.st [(0, _), (1, _)] Tryz.func86 Tryz.ntmps86 hG fun w0 S0 hS0 B0 => ?_
 refine .go 2 ?_
 refine .box [_, _, _] .ro rfl rfl rfl (fun b1 hb1 => ?_)
 refine .alloc .ro ty215 rfl (fun b2 hb2 => ?_)
 refine .go 14 ?_
 refine .kB (fun y => ∃ (Z0 : List (Int × Bool)) (Z1 : _) (Z2 : Nat) (Z3 Z4 Z5 : _), y = ⟨[(6, .slice Z1 Z0.length Z2)], G :: Fs, [(b1, .cells #[.int .i64 Z4, .int .i64 Z5, .slice a0_2 x0_2.length k0_2] 162 (0, 0))], [.s (.slice Z1 Z0.length Z2) 220 2 Z0.length Z3]⟩ ∧ OL (Rep.pair ri Rep.bool) G Z3 Z0 ∧ columns_Columns_Decode_J1 Z0 Z4 Z5 = some r) [(2, _), (4, _)] [_] [0] [] [] ?_ ?_
 ·rintro _ ⟨v10, a11, k12, cs13, v14, v15, rfl, o16, r17⟩
  refine .gn 0 ?_
  unfold columns_Columns_Decode_J1 at r17
  try dsimp only at r17
  refine .go 3 ?_
  refine .q .ro (.load_own_a 0 [_] rfl rfl ty45 rfl) rfl (.go 3 ?_)
  refine .freezeR 0 rfl rfl o16 [] rfl B0 (fun G18 e19 B20 s21 => ?_)
  obtain ⟨u23, hu23, r24⟩ := bind_some r17
  refine .cW [_, _, _] Tryz.call131 (unique_Decode_c mcs (Rp.mono e19 hg0) s21 hu23) B20 (fun v25 bo so G26 e27 B28 h29 => ?_)
  obtain ⟨a30, k31, a32, k33, rfl, rfl, rfl, s34, s35⟩ := h29
  refine .gn 2 ?_
  refine .store 1 [_, _] [_, _] .ro rfl rfl rfl ty215 rfl rfl rfl rfl (.go 2 ?_)
  cases r24
  refine .rW 2 [.cell 4 215, .tmp 5] [_, _] Tryz.func86 Tryz.results86 ⟨RV.cell_a 1 [_, _] rfl rfl ty215 rfl, RV.tmp rfl, trivial⟩ B28 hS0 (fun G' hg => ⟨a30, k31, a32, k33, rfl, rfl, rfl, (SlR.mono hg s34), (SlR.mono hg s35)⟩)
 ·intro hb36
  refine .block (.own_nil 220 2 ?_)
  refine .lp (fun y m => ∃ (Z0 : Nat) (Z1 : List (Bool × (List Int))) (Z2 : List (Int × Bool)) (Z3 : _) (Z4 : Nat) (Z5 : _), y = ⟨[(6, .slice Z3 Z2.length Z4), (13, .int .i64 (Z0 : Int))], [], [], [.s (.slice Z3 Z2.length Z4) 220 2 Z2.length Z5]⟩ ∧ Z1.length = m ∧ OL (Rep.pair ri Rep.bool) G Z5 Z2 ∧ List.drop Z0 x0_2 = Z1 ∧ columns_Columns_Decode_L3 columns_Columns_Decode_J1 x1 x0_0 x0_1 Z1 Z2 = some r) [(1, _), (2, _), (4, _), (11, _), (12, _)] [_, _] [] ⟨0, x0_2, ([] : List (Int × Bool)), none, 0, [], rfl, rfl, (OL.nil (Rp' := (Rep.pair ri Rep.bool))), rfl, h⟩ (fun y m hI hb37 => ?_)
  obtain ⟨i38, w39, v40, a41, k42, cs43, rfl, rfl, o44, g46, r47⟩ := hI
  refine .gn 0 ?_
  cases w39 with
  | nil =>
   rw [columns_Columns_Decode_L3] at r47; try dsimp only at r47
   refine .go 5 ?_
   refine .cond_dec rfl (fun c => absurd c (drop_nil g46)) (fun _ => ?_)
   refine .exit rfl (.pull 1 rfl [_, _] rfl ?_)
   exact (hb36 _ ⟨v40, a41, k42, cs43, x0_0, x0_1, rfl, o44, r47⟩).ar
  | cons x48 xs49 =>
   have r50 : columns_Columns_Decode_B3 columns_Columns_Decode_J1 x1 x0_0 x0_1 (columns_Columns_Decode_L3 columns_Columns_Decode_J1 x1 x0_0 x0_1 xs49) x48 v40 = some r := r47; clear r47; unfold columns_Columns_Decode_B3 at r50; try dsimp only at r50
   refine .go 5 ?_
   refine .cond_dec rfl (fun _ => ?_) (fun c => absurd (drop_lt g46) c)
   refine .go 2 ?_
   refine .block (.go 2 ?_)
   obtain ⟨c51, p52, h53⟩ := SlR.get s0_2 (drop_idx g46)
   obtain ⟨_, _, rfl, rfl, a54, k55, rfl, s56⟩ := h53
   refine .q .ro (.idxR s0_2 rfl rfl (drop_idx g46) sl60 ty63.sz) rfl (.q .ro (.load_rp_a [_, _] p52 mcs rfl ty63 rfl) rfl ?_)
   refine .alloc .ro ty63 rfl (fun b57 hb57 => ?_)
   refine .store 0 [_, _] [_, _, _] .ro rfl rfl rfl ty63 rfl rfl rfl rfl (.go 5 ?_)
   refine .q .ro (.build [_, _] [(1, _)] ty220 pl220 rfl rfl) rfl ?_
   refine .alloc .ro ty220 rfl (fun b58 hb58 => ?_)
   refine .store 0 [_, _] [_, _, _, _] .ro rfl rfl rfl ty220 rfl rfl rfl rfl (.go 7 ?_)
   refine .kI (fun y => ∃ (Z0 : _), y = ⟨[], G :: Fs, [(b58, .cells #[.int .i64 Z0, .bool x48.1] 220 (0, 0))], []⟩ ∧ (columns_Columns_Decode_J2 (columns_Columns_Decode_L3 columns_Columns_Decode_J1 x1 x0_0 x0_1 xs49) x48.1 v40) Z0 = some r) [(6, _), (13, _), (1, _), (2, _), (4, _), (11, _), (12, _), (9, _)] [_, _, _] [1, 2, 3] [_] [0] ?_ ?_
   ·rintro _ ⟨v59, rfl, r61⟩
    refine .gn 0 ?_
    unfold columns_Columns_Decode_J2 at r61
    try dsimp only at r61
    refine .go 2 ?_
    refine .q .ro (.load_own_a 0 [_, _] rfl rfl ty220 rfl) rfl ?_
    refine .lit [_, _] [(0, _)] .ro sl218 ty220 rfl rfl rfl rfl rfl rfl (fun b62 hb62 => ?_)
    have o65 : OL (Rep.pair ri Rep.bool) G [.int .i64 v59, .bool x48.1] ([(v59, x48.1)] : List (Int × Bool)) := ((OL.cons rfl (Rep.pairI (Rep.intI .i64 v59) (Rep.boolI x48.1)) (OL.nil (Rp' := (Rep.pair ri Rep.bool)))) :)
    refine .reval 30 (n' := ([(v59, x48.1)] : List (Int × Bool)).length) rfl rfl ?_
    obtain ⟨u66, hu66, r67⟩ := bind_some r61
    refine .appO (Q := (Rep.pair ri Rep.bool)) 0 .ro sl218 ty220 rfl rfl rfl rfl rfl rfl o44 o65 rfl rfl rfl B0 hu66 rfl (fun a68 k69 cs70 o71 => ?_)
    refine .go 7 ?_
    refine .drop 2 0 [_, _] _ rfl rfl ?_
    exact (hb37 _ _ ⟨(i38 + 1), xs49, u66, a68, k69, cs70, rfl, rfl, o71, (drop_succ g46), r67⟩ (Nat.lt_succ_self _)).ax ⟨rfl, (congrArg (fun z => some (Value.int .i64 z)) (idx_wrap (SlR.len s0_2) g46)), rfl, rfl, rfl, rfl, rfl, trivial⟩
   ·intro hb72
    refine .cB r50 (fun c73 r74 => ?_) (fun c73 r75 => ?_)
    ·refine .go 4 ?_
     obtain ⟨u76, hu76, r77⟩ := bind_some r74
     obtain ⟨c78, p79, h80⟩ := SlR.get s56 hu76
     obtain rfl := h80
     refine .q .ro (.idxR s56 rfl rfl hu76 sl22 ty3.sz) rfl (.q .ro (.load_rp p79 mcs rfl ty3 rfl) rfl (.go 1 ?_))
     refine .store 0 [_, _] [_, _, _, _] .ro rfl rfl rfl ty3 rfl rfl rfl rfl (.go 1 ?_)
     exact (hb72 _ ⟨(u76), rfl, r77⟩).ar
    ·refine .go 1 ?_
     exact (hb72 _ ⟨(0), rfl, r75⟩).ar
theorem cmp_isNaN_int_c {x0 : Int} {r : Bool} (hG : G ∈ Fs)  (h : cmp_isNaN_int x0 = some r) : RetS Tryz.prog 186 #[.int .i64 x0] Fs [] [] (rv (.bool r)) := by
 unfold cmp_isNaN_int at h
 try dsimp only at h
 refine RetS.st [(0, _)] Tryz.func186 Tryz.ntmps186 hG fun w0 S0 hS0 B0 => ?_
 refine .go 11 ?_
 cases h
 refine .rS [.tmp 2] [_] Tryz.func186 Tryz.results186 ⟨rfl, rfl, rfl⟩
theorem cmp_Less_int_c {x0 : Int} {x1 : Int} {r : Bool} (hG : G ∈ Fs)  (h : cmp_Less_int x0 x1 = some r) : RetS Tryz.prog 165 #[.int .i64 x0, .int .i64 x1] Fs [] [] (rv (.bool r)) := by
 unfold cmp_Less_int at h
 try dsimp only at h
 refine RetS.st [(0, _), (1, _)] Tryz.func165 Tryz.ntmps165 hG fun w0 S0 hS0 B0 => ?_
 refine .go 7 ?_
 obtain ⟨u1, hu1, r2⟩ := bind_some h
 refine .cV [_] Tryz.call186 (cmp_isNaN_int_c mcs  hu1) ?_
 refine .go 1 ?_
 obtain ⟨u11, h12, r13⟩ := bind_some r2
 refine .kR (fun y => y = ⟨[(11, .bool u11)], G :: Fs, [], []⟩) [(0, _), (1, _), (4, _)] [] [] [] [] 4 ?_ ?_
 ·rintro _ rfl
  refine .gn 1 ?_
  refine .kR (fun y => y = ⟨[(16, .bool (decide ((u11 = true) ∨ (x0 < x1))))], G :: Fs, [], []⟩) [(4, _)] [] [] [] [] 4 ?_ ?_
  ·rintro _ rfl
   refine .gn 2 ?_
   cases r13
   refine .rS [.tmp 4] [_] Tryz.func165 Tryz.results165 ⟨rfl, rfl, rfl⟩
  ·intro hb17
   refine .split_b 12 rfl (fun c16 => ?_) (fun c16 => ?_)
   ·refine .go 4 ?_
    exact (hb17 _ rfl).ax ⟨dor_t c16, rfl, trivial⟩
   ·refine .go 7 ?_
    exact (hb17 _ rfl).ax ⟨dor_f (bne_of c16), rfl, trivial⟩
 ·intro hb10
  refine .split_b 7 rfl (fun c9 => ?_) (fun c9 => ?_)
  ·have r20 := ifT h12 c9
   refine .go 3 ?_
   obtain ⟨u21, hu21, r22⟩ := bind_some r20
   refine .cV [_] Tryz.call186 (cmp_isNaN_int_c mcs  hu21) ?_
   refine .go 3 ?_
   exact (hb10 _ rfl).ax ⟨sval r22, rfl, rfl, rfl, trivial⟩
  ·have r25 := ifBF h12 c9
   refine .go 4 ?_
   exact (hb10 _ rfl).ax ⟨sval r25, rfl, rfl, rfl, trivial⟩
theorem slices_insertionSortOrdered_int_c {x0 : List Int} {pre0 post0 : List Value} {x1 : Int} {x2 : Int} {r : (List Int)} (hG : G ∈ Fs) (vva0 : VA a0 bb0 x0.length k0 pre0 cc0) (oo0 : OL ri G cc0 x0) (h : slices_insertionSortOrdered_int x0 x1 x2 = some r) : RetS Tryz.prog 159 #[.slice a0 x0.length k0, .int .i64 x1, .int .i64 x2] Fs [] [.g (viewG bb0 3 pre0 cc0 post0)] (fun v bo so => ∃ lc0 : List Value, v = .tuple #[] ∧ bo = [] ∧ so = [.g (viewG bb0 3 pre0 lc0 post0)] ∧ OL ri G lc0 r ∧ r.length = x0.length) := by
 unfold slices_insertionSortOrdered_int at h
 try dsimp only at h
 refine RetS.st [(0, _), (1, _), (2, _)] Tryz.func159 Tryz.ntmps159 hG fun w0 S0 hS0 B0 => ?_
 refine .go 6 ?_
 refine .block ?_
 refine .lp (fun y m => ∃ (Z0 : Nat) (Z1 : _) (Z2 : List Int) (Z3 : _), y = ⟨[(6, .int .i64 Z1), (0, .slice a0 Z2.length k0)], [], [], [.g (viewG bb0 3 pre0 Z3 post0)]⟩ ∧ Z0 = m ∧ OL ri G Z3 Z2 ∧ VA a0 bb0 Z2.length k0 pre0 Z3 ∧ Z2.length = x0.length ∧ slices_insertionSortOrdered_int_L3 x1 x2 Z0 Z1 Z2 = some r) [(1, _), (2, _)] [] [] ⟨big, (w64 (x1 + 1)), x0, cc0, rfl, rfl, oo0, vva0, rfl, h⟩ (fun y m hI hb10 => ?_)
 obtain ⟨n11, v12, v13, cs14, rfl, rfl, o15, va16, hl17, r18⟩ := hI
 refine .gn 0 ?_
 obtain ⟨m19, rfl⟩ : ∃ m, n11 = m + 1 := by cases n11 with | zero => exact absurd (show (none : Option _) = some _ from r18) (by simp) | succ m => exact ⟨m, rfl⟩
 have r20 : slices_insertionSortOrdered_int_B3 x1 x2 (slices_insertionSortOrdered_int_L3 x1 x2 m19) v12 v13 = some r := r18; clear r18; unfold slices_insertionSortOrdered_int_B3 at r20; try dsimp only at r20
 refine .go 7 ?_
 refine .cH r20 (fun c21 r23 => ?_) (fun c21 r24 => ?_)
 ·refine .go 2 ?_
  refine .block (.go 5 ?_)
  refine .block ?_
  refine .lp (fun y m => ∃ (Z0 : Nat) (Z1 : _) (Z2 : List Int) (Z3 : _), y = ⟨[(7, .int .i64 Z1), (0, .slice a0 Z2.length k0)], [], [], [.g (viewG bb0 3 pre0 Z3 post0)]⟩ ∧ Z0 = m ∧ OL ri G Z3 Z2 ∧ VA a0 bb0 Z2.length k0 pre0 Z3 ∧ Z2.length = x0.length ∧ slices_insertionSortOrdered_int_L2 (slices_insertionSortOrdered_int_L3 x1 x2 m19) v12 x1 Z0 Z1 Z2 = some r) [(6, _), (1, _), (2, _)] [] [] ⟨big, v12, v13, cs14, rfl, rfl, o15, va16, hl17, r23⟩ (fun y m hI hb25 => ?_)
  obtain ⟨n26, v27, v28, cs29, rfl, rfl, o30, va31, hl32, r33⟩ := hI
  refine .gn 0 ?_
  obtain ⟨m34, rfl⟩ : ∃ m, n26 = m + 1 := by cases n26 with | zero => exact absurd (show (none : Option _) = some _ from r33) (by simp) | succ m => exact ⟨m, rfl⟩
  have r35 : slices_insertionSortOrdered_int_B2 (slices_insertionSortOrdered_int_L3 x1 x2 m19) v12 x1 (slices_insertionSortOrdered_int_L2 (slices_insertionSortOrdered_int_L3 x1 x2 m19) v12 x1 m34) v27 v28 = some r := r33; clear r33; unfold slices_insertionSortOrdered_int_B2 at r35; try dsimp only at r35
  refine .go 2 ?_
  refine .kG (fun y => ∃ (Z0 : _), y = ⟨[(30, .bool Z0)], G :: Fs, [], []⟩ ∧ (slices_insertionSortOrdered_int_J1 (slices_insertionSortOrdered_int_L2 (slices_insertionSortOrdered_int_L3 x1 x2 m19) v12 x1 m34) (slices_insertionSortOrdered_int_L3 x1 x2 m19) v27 v12 v28) Z0 = some r) [(7, _), (0, _), (6, _), (1, _), (2, _)] [] [] [_] [0] ?_ ?_
  ·rintro _ ⟨v36, rfl, r37⟩
   refine .gn 0 ?_
   unfold slices_insertionSortOrdered_int_J1 at r37
   try dsimp only at r37
   refine .cB r37 (fun c38 r39 => ?_) (fun c38 r40 => ?_)
   ·refine .go 2 ?_
    refine .block (.drawL (.q 0 (.q 1 (.q 2 (.q 3 (.q 4 (.q 5 (.q 6 (.q 7 (.q 10 (.q 11 (.alt (.e 8 1 (.alt (.e 9 1 (.e 12 1 (.e 13 1 (.e 14 1 (.e 15 1 (.e 16 2 (.e 17 2 .nil))))))) (.e 12 1 (.alt (.e 9 1 (.e 13 1 (.e 14 1 (.e 15 1 (.e 16 2 (.e 17 2 .nil)))))) (.e 13 1 (.e 9 1 (.e 14 1 (.e 15 1 (.e 16 2 (.e 17 2 .nil)))))))))) (.e 12 1 (.alt (.e 8 1 (.alt (.e 9 1 (.e 13 1 (.e 14 1 (.e 15 1 (.e 16 2 (.e 17 2 .nil)))))) (.e 13 1 (.e 9 1 (.e 14 1 (.e 15 1 (.e 16 2 (.e 17 2 .nil)))))))) (.e 13 1 (.e 8 1 (.e 9 1 (.e 14 1 (.e 15 1 (.e 16 2 (.e 17 2 .nil)))))))))))))))))))) [] (by kernel_rfl) (by kernel_rfl) (pick_mem [] rfl) ?_)
    obtain ⟨u41, hu41, r42⟩ := bind_some r39
    obtain ⟨u43, hu43, r44⟩ := bind_some r42
    obtain ⟨u45, hu45, r46⟩ := bind_some r44
    obtain ⟨u47, hu47, r48⟩ := bind_some r46
    obtain ⟨u49, hu49, r50⟩ := bind_some r48
    obtain ⟨u51, hu51, r52⟩ := bind_some r50
    refine .go 10 ?_
    refine .alt ?_ ?_
    ·obtain ⟨c53, p54, h55⟩ := OL.get o30 hu41
     obtain rfl := h55
     refine .q .d1 (.idxV 0 rfl va31 o30 rfl rfl hu41 sl22 ty3.sz rfl rfl) rfl (.clsL (HpLe.refl _) (pick_mem [] rfl) ?_)
     refine .alt ?_ ?_
     ·refine .q .d1 (.loadV 0 0 rfl va31 o30 rfl rfl hu41 p54 rfl (.inl ⟨rfl, rfl⟩) ty3 rfl) rfl ?_
      refine .clsL (HpLe.refl _) (pick_mem [] rfl) ?_
      obtain ⟨c56, p57, h58⟩ := OL.get o30 hu43
      obtain rfl := h58
      refine .q .d1 (.idxV 0 rfl va31 o30 rfl rfl hu43 sl22 ty3.sz rfl rfl) rfl (.clsL (HpLe.refl _) (pick_mem [] rfl) (.q .d1 (.loadV 0 0 rfl va31 o30 rfl rfl hu43 p57 rfl (.inl ⟨rfl, rfl⟩) ty3 rfl) rfl (.clsL (HpLe.refl _) (pick_mem [] rfl) ?_)))
      obtain ⟨c59, p60, h61⟩ := OL.get o30 hu45
      obtain rfl := h61
      refine .q .d1 (.idxV 0 rfl va31 o30 rfl rfl hu45 sl22 ty3.sz rfl rfl) rfl (.clsL (HpLe.refl _) (pick_mem [] rfl) ?_)
      refine .storeV 0 0 (Q := ri) .d1 rfl va31 rfl rfl o30 hu47 rfl (.inl ⟨rfl, rfl⟩) rfl ty3 p60 ((Rep.intI .i64 u41) :) rfl rfl (fun cs62 hlcs62 o63 va65 => ?_)
      refine .reval 0 hlcs62 rfl (.reval 33 hlcs62 rfl (.reval 35 hlcs62 rfl (.reval 38 hlcs62 rfl (.reval 43 hlcs62 rfl (.clsL (HpLe.refl _) (pick_mem [] rfl) ?_)))))
      obtain ⟨c66, p67, h68⟩ := OL.get o63 hu49
      obtain rfl := h68
      refine .q .d2 (.idxV 0 rfl va65 o63 rfl rfl hu49 sl22 ty3.sz rfl rfl) rfl ?_
      refine .storeV 0 0 (Q := ri) .d2 rfl va65 rfl rfl o63 hu51 rfl (.inl ⟨rfl, rfl⟩) rfl ty3 p67 ((Rep.intI .i64 u43) :) rfl rfl (fun cs69 hlcs69 o70 va71 => ?_)
      refine .reval 0 hlcs69 rfl (.reval 33 hlcs69 rfl (.reval 35 hlcs69 rfl (.reval 38 hlcs69 rfl (.reval 43 hlcs69 rfl (.go 7 ?_)))))
      exact (hb25 _ _ ⟨m34, (w64 (v27 - 1)), u51, cs69, rfl, rfl, o70, va71, (hlcs69.trans (hlcs62.trans hl32)), r52⟩ (Nat.lt_succ_self _)).ar
     ·obtain ⟨c72, p73, h74⟩ := OL.get o30 hu43
      obtain rfl := h74
      refine .q .d1 (.idxV 0 rfl va31 o30 rfl rfl hu43 sl22 ty3.sz rfl rfl) rfl (.clsL (HpLe.refl _) (pick_mem [] rfl) ?_)
      refine .alt ?_ ?_
      ·refine .q .d1 (.loadV 0 0 rfl va31 o30 rfl rfl hu41 p54 rfl (.inl ⟨rfl, rfl⟩) ty3 rfl) rfl ?_
       refine .clsL (HpLe.refl _) (pick_mem [] rfl) (.q .d1 (.loadV 0 0 rfl va31 o30 rfl rfl hu43 p73 rfl (.inl ⟨rfl, rfl⟩) ty3 rfl) rfl (.clsL (HpLe.refl _) (pick_mem [] rfl) ?_))
       obtain ⟨c75, p76, h77⟩ := OL.get o30 hu45
       obtain rfl := h77
       refine .q .d1 (.idxV 0 rfl va31 o30 rfl rfl hu45 sl22 ty3.sz rfl rfl) rfl (.clsL (HpLe.refl _) (pick_mem [] rfl) ?_)
       refine .storeV 0 0 (Q := ri) .d1 rfl va31 rfl rfl o30 hu47 rfl (.inl ⟨rfl, rfl⟩) rfl ty3 p76 ((Rep.intI .i64 u41) :) rfl rfl (fun cs78 hlcs78 o79 va80 => ?_)
       refine .reval 0 hlcs78 rfl (.reval 33 hlcs78 rfl (.reval 35 hlcs78 rfl (.reval 38 hlcs78 rfl (.reval 43 hlcs78 rfl (.clsL (HpLe.refl _) (pick_mem [] rfl) ?_)))))
       obtain ⟨c81, p82, h83⟩ := OL.get o79 hu49
       obtain rfl := h83
       refine .q .d2 (.idxV 0 rfl va80 o79 rfl rfl hu49 sl22 ty3.sz rfl rfl) rfl ?_
       refine .storeV 0 0 (Q := ri) .d2 rfl va80 rfl rfl o79 hu51 rfl (.inl ⟨rfl, rfl⟩) rfl ty3 p82 ((Rep.intI .i64 u43) :) rfl rfl (fun cs84 hlcs84 o85 va86 => ?_)
       refine .reval 0 hlcs84 rfl (.reval 33 hlcs84 rfl (.reval 35 hlcs84 rfl (.reval 38 hlcs84 rfl (.reval 43 hlcs84 rfl (.go 7 ?_)))))
       exact (hb25 _ _ ⟨m34, (w64 (v27 - 1)), u51, cs84, rfl, rfl, o85, va86, (hlcs84.trans (hlcs78.trans hl32)), r52⟩ (Nat.lt_succ_self _)).ar
      ·refine .q .d1 (.loadV 0 0 rfl va31 o30 rfl rfl hu43 p73 rfl (.inl ⟨rfl, rfl⟩) ty3 rfl) rfl ?_
       refine .clsL (HpLe.refl _) (pick_mem [] rfl) (.q .d1 (.loadV 0 0 rfl va31 o30 rfl rfl hu41 p54 rfl (.inl ⟨rfl, rfl⟩) ty3 rfl) rfl (.clsL (HpLe.refl _) (pick_mem [] rfl) ?_))
       obtain ⟨c87, p88, h89⟩ := OL.get o30 hu45
       obtain rfl := h89
       refine .q .d1 (.idxV 0 rfl va31 o30 rfl rfl hu45 sl22 ty3.sz rfl rfl) rfl (.clsL (HpLe.refl _) (pick_mem [] rfl) ?_)
       refine .storeV 0 0 (Q := ri) .d1 rfl va31 rfl rfl o30 hu47 rfl (.inl ⟨rfl, rfl⟩) rfl ty3 p88 ((Rep.intI .i64 u41) :) rfl rfl (fun cs90 hlcs90 o91 va92 => ?_)
       refine .reval 0 hlcs90 rfl (.reval 33 hlcs90 rfl (.reval 35 hlcs90 rfl (.reval 38 hlcs90 rfl (.reval 43 hlcs90 rfl (.clsL (HpLe.refl _) (pick_mem [] rfl) ?_)))))
       obtain ⟨c93, p94, h95⟩ := OL.get o91 hu49
       obtain rfl := h95
       refine .q .d2 (.idxV 0 rfl va92 o91 rfl rfl hu49 sl22 ty3.sz rfl rfl) rfl ?_
       refine .storeV 0 0 (Q := ri) .d2 rfl va92 rfl rfl o91 hu51 rfl (.inl ⟨rfl, rfl⟩) rfl ty3 p94 ((Rep.intI .i64 u43) :) rfl rfl (fun cs96 hlcs96 o97 va98 => ?_)
       refine .reval 0 hlcs96 rfl (.reval 33 hlcs96 rfl (.reval 35 hlcs96 rfl (.reval 38 hlcs96 rfl (.reval 43 hlcs96 rfl (.go 7 ?_)))))
       exact (hb25 _ _ ⟨m34, (w64 (v27 - 1)), u51, cs96, rfl, rfl, o97, va98, (hlcs96.trans (hlcs90.trans hl32)), r52⟩ (Nat.lt_succ_self _)).ar
    ·obtain ⟨c99, p100, h101⟩ := OL.get o30 hu43
     obtain rfl := h101
     refine .q .d1 (.idxV 0 rfl va31 o30 rfl rfl hu43 sl22 ty3.sz rfl rfl) rfl (.clsL (HpLe.refl _) (pick_mem [] rfl) ?_)
     refine .alt ?_ ?_
     ·obtain ⟨c102, p103, h104⟩ := OL.get o30 hu41
      obtain rfl := h104
      refine .q .d1 (.idxV 0 rfl va31 o30 rfl rfl hu41 sl22 ty3.sz rfl rfl) rfl (.clsL (HpLe.refl _) (pick_mem [] rfl) ?_)
      refine .alt ?_ ?_
      ·refine .q .d1 (.loadV 0 0 rfl va31 o30 rfl rfl hu41 p103 rfl (.inl ⟨rfl, rfl⟩) ty3 rfl) rfl ?_
       refine .clsL (HpLe.refl _) (pick_mem [] rfl) (.q .d1 (.loadV 0 0 rfl va31 o30 rfl rfl hu43 p100 rfl (.inl ⟨rfl, rfl⟩) ty3 rfl) rfl (.clsL (HpLe.refl _) (pick_mem [] rfl) ?_))
       obtain ⟨c105, p106, h107⟩ := OL.get o30 hu45
       obtain rfl := h107
       refine .q .d1 (.idxV 0 rfl va31 o30 rfl rfl hu45 sl22 ty3.sz rfl rfl) rfl (.clsL (HpLe.refl _) (pick_mem [] rfl) ?_)
       refine .storeV 0 0 (Q := ri) .d1 rfl va31 rfl rfl o30 hu47 rfl (.inl ⟨rfl, rfl⟩) rfl ty3 p106 ((Rep.intI .i64 u41) :) rfl rfl (fun cs108 hlcs108 o109 va110 => ?_)
       refine .reval 0 hlcs108 rfl (.reval 33 hlcs108 rfl (.reval 35 hlcs108 rfl (.reval 38 hlcs108 rfl (.reval 43 hlcs108 rfl (.clsL (HpLe.refl _) (pick_mem [] rfl) ?_)))))
       obtain ⟨c111, p112, h113⟩ := OL.get o109 hu49
       obtain rfl := h113
       refine .q .d2 (.idxV 0 rfl va110 o109 rfl rfl hu49 sl22 ty3.sz rfl rfl) rfl ?_
       refine .storeV 0 0 (Q := ri) .d2 rfl va110 rfl rfl o109 hu51 rfl (.inl ⟨rfl, rfl⟩) rfl ty3 p112 ((Rep.intI .i64 u43) :) rfl rfl (fun cs114 hlcs114 o115 va116 => ?_)
       refine .reval 0 hlcs114 rfl (.reval 33 hlcs114 rfl (.reval 35 hlcs114 rfl (.reval 38 hlcs114 rfl (.reval 43 hlcs114 rfl (.go 7 ?_)))))
       exact (hb25 _ _ ⟨m34, (w64 (v27 - 1)), u51, cs114, rfl, rfl, o115, va116, (hlcs114.trans (hlcs108.trans hl32)), r52⟩ (Nat.lt_succ_self _)).ar
      ·refine .q .d1 (.loadV 0 0 rfl va31 o30 rfl rfl hu43 p100 rfl (.inl ⟨rfl, rfl⟩) ty3 rfl) rfl ?_
       refine .clsL (HpLe.refl _) (pick_mem [] rfl) (.q .d1 (.loadV 0 0 rfl va31 o30 rfl rfl hu41 p103 rfl (.inl ⟨rfl, rfl⟩) ty3 rfl) rfl (.clsL (HpLe.refl _) (pick_mem [] rfl) ?_))
       obtain ⟨c117, p118, h119⟩ := OL.get o30 hu45
       obtain rfl := h119
       refine .q .d1 (.idxV 0 rfl va31 o30 rfl rfl hu45 sl22 ty3.sz rfl rfl) rfl (.clsL (HpLe.refl _) (pick_mem [] rfl) ?_)
       refine .storeV 0 0 (Q := ri) .d1 rfl va31 rfl rfl o30 hu47 rfl (.inl ⟨rfl, rfl⟩) rfl ty3 p118 ((Rep.intI .i64 u41) :) rfl rfl (fun cs120 hlcs120 o121 va122 => ?_)
       refine .reval 0 hlcs120 rfl (.reval 33 hlcs120 rfl (.reval 35 hlcs120 rfl (.reval 38 hlcs120 rfl (.reval 43 hlcs120 rfl (.clsL (HpLe.refl _) (pick_mem [] rfl) ?_)))))
       obtain ⟨c123, p124, h125⟩ := OL.get o121 hu49
       obtain rfl := h125
       refine .q .d2 (.idxV 0 rfl va122 o121 rfl rfl hu49 sl22 ty3.sz rfl rfl) rfl ?_
       refine .storeV 0 0 (Q := ri) .d2 rfl va122 rfl rfl o121 hu51 rfl (.inl ⟨rfl, rfl⟩) rfl ty3 p124 ((Rep.intI .i64 u43) :) rfl rfl (fun cs126 hlcs126 o127 va128 => ?_)
       refine .reval 0 hlcs126 rfl (.reval 33 hlcs126 rfl (.reval 35 hlcs126 rfl (.reval 38 hlcs126 rfl (.reval 43 hlcs126 rfl (.go 7 ?_)))))
       exact (hb25 _ _ ⟨m34, (w64 (v27 - 1)), u51, cs126, rfl, rfl, o127, va128, (hlcs126.trans (hlcs120.trans hl32)), r52⟩ (Nat.lt_succ_self _)).ar
     ·refine .q .d1 (.loadV 0 0 rfl va31 o30 rfl rfl hu43 p100 rfl (.inl ⟨rfl, rfl⟩) ty3 rfl) rfl ?_
      refine .clsL (HpLe.refl _) (pick_mem [] rfl) ?_
      obtain ⟨c129, p130, h131⟩ := OL.get o30 hu41
      obtain rfl := h131
      refine .q .d1 (.idxV 0 rfl va31 o30 rfl rfl hu41 sl22 ty3.sz rfl rfl) rfl (.clsL (HpLe.refl _) (pick_mem [] rfl) (.q .d1 (.loadV 0 0 rfl va31 o30 rfl rfl hu41 p130 rfl (.inl ⟨rfl, rfl⟩) ty3 rfl) rfl (.clsL (HpLe.refl _) (pick_mem [] rfl) ?_)))
      obtain ⟨c132, p133, h134⟩ := OL.get o30 hu45
      obtain rfl := h134
      refine .q .d1 (.idxV 0 rfl va31 o30 rfl rfl hu45 sl22 ty3.sz rfl rfl) rfl (.clsL (HpLe.refl _) (pick_mem [] rfl) ?_)
      refine .storeV 0 0 (Q := ri) .d1 rfl va31 rfl rfl o30 hu47 rfl (.inl ⟨rfl, rfl⟩) rfl ty3 p133 ((Rep.intI .i64 u41) :) rfl rfl (fun cs135 hlcs135 o136 va137 => ?_)
      refine .reval 0 hlcs135 rfl (.reval 33 hlcs135 rfl (.reval 35 hlcs135 rfl (.reval 38 hlcs135 rfl (.reval 43 hlcs135 rfl (.clsL (HpLe.refl _) (pick_mem [] rfl) ?_)))))
      obtain ⟨c138, p139, h140⟩ := OL.get o136 hu49
      obtain rfl := h140
      refine .q .d2 (.idxV 0 rfl va137 o136 rfl rfl hu49 sl22 ty3.sz rfl rfl) rfl ?_
      refine .storeV 0 0 (Q := ri) .d2 rfl va137 rfl rfl o136 hu51 rfl (.inl ⟨rfl, rfl⟩) rfl ty3 p139 ((Rep.intI .i64 u43) :) rfl rfl (fun cs141 hlcs141 o142 va143 => ?_)
      refine .reval 0 hlcs141 rfl (.reval 33 hlcs141 rfl (.reval 35 hlcs141 rfl (.reval 38 hlcs141 rfl (.reval 43 hlcs141 rfl (.go 7 ?_)))))
      exact (hb25 _ _ ⟨m34, (w64 (v27 - 1)), u51, cs141, rfl, rfl, o142, va143, (hlcs141.trans (hlcs135.trans hl32)), r52⟩ (Nat.lt_succ_self _)).ar
   ·refine .exit rfl ?_
    refine .go 6 ?_
    exact (hb10 _ _ ⟨m19, (w64 (v12 + 1)), v28, cs29, rfl, rfl, o30, va31, hl32, r40⟩ (Nat.lt_succ_self _)).ar
  ·intro hb144
   refine .drawL (.q 0 (.q 1 (.q 2 (.q 3 (.q 4 (.q 5 (.q 8 (.q 9 (.q 10 (.alt (.e 6 1 (.alt (.e 7 1 (.e 11 1 (.e 12 1 (.e 13 1 (.q 14 .nil))))) (.e 11 1 (.alt (.e 7 1 (.e 12 1 (.e 13 1 (.q 14 .nil)))) (.e 12 1 (.e 7 1 (.e 13 1 (.q 14 .nil)))))))) (.e 11 1 (.alt (.e 6 1 (.alt (.e 7 1 (.e 12 1 (.e 13 1 (.q 14 .nil)))) (.e 12 1 (.e 7 1 (.e 13 1 (.q 14 .nil)))))) (.e 12 1 (.e 6 1 (.e 7 1 (.e 13 1 (.q 14 .nil))))))))))))))))) [] (by kernel_rfl) (by kernel_rfl) (pick_mem [] rfl) (.go 4 ?_)
   obtain ⟨u145, h146, r147⟩ := bind_some r35
   refine .kD (fun y => y = ⟨[(30, .bool u145)], G :: Fs, [], []⟩) [(7, _), (0, _), (6, _), (1, _), (2, _)] [] [] [_] [0] 11 ?_ ?_
   ·rintro _ rfl
    refine .gn 1 ?_
    exact (hb144 _ ⟨(u145), rfl, r147⟩).ar
   ·intro hb148
    refine .split 19 rfl (fun c149 => ?_) (fun c149 => ?_)
    ·have r150 := ifT h146 c149
     refine .dgq_on rfl (.go 1 ?_)
     refine .dgq_on rfl (.go 1 ?_)
     refine .dgq_on rfl (.go 1 ?_)
     refine .dgq_on rfl (.go 1 ?_)
     refine .dgq_on rfl (.go 1 ?_)
     obtain ⟨u151, hu151, r152⟩ := bind_some r150
     obtain ⟨u153, hu153, r154⟩ := bind_some r152
     obtain ⟨u155, hu155, r156⟩ := bind_some r154
     refine .alt ?_ ?_
     ·refine .dge_on rfl ?_
      obtain ⟨c157, p158, h160⟩ := OL.get o30 hu151
      obtain rfl := h160
      refine .q .d1 (.idxV 0 rfl va31 o30 rfl rfl hu151 sl22 ty3.sz rfl rfl) rfl (.clsL (HpLe.refl _) (pick_mem [] rfl) ?_)
      refine .alt ?_ ?_
      ·refine .dge_on rfl ?_
       refine .q .d1 (.loadV 0 0 rfl va31 o30 rfl rfl hu151 p158 rfl (.inl ⟨rfl, rfl⟩) ty3 rfl) rfl (.clsL (HpLe.refl _) (pick_mem [] rfl) (.dge_on rfl ?_))
       obtain ⟨c161, p162, h163⟩ := OL.get o30 hu153
       obtain rfl := h163
       refine .q .d1 (.idxV 0 rfl va31 o30 rfl rfl hu153 sl22 ty3.sz rfl rfl) rfl (.clsL (HpLe.refl _) (pick_mem [] rfl) (.dge_on rfl (.q .d1 (.loadV 0 0 rfl va31 o30 rfl rfl hu153 p162 rfl (.inl ⟨rfl, rfl⟩) ty3 rfl) rfl (.clsL (HpLe.refl _) (pick_mem [] rfl) (.dge_on rfl (.cVd [_, _] Tryz.call165 (cmp_Less_int_c mcs  hu155) ?_))))))
       refine .clsL (HpLe.refl _) (pick_mem [] rfl) (.go 1 ?_)
       exact (hb148 _ rfl).ax ⟨sval r156, rfl, rfl, rfl, rfl, rfl, trivial⟩
      ·refine .dge_on rfl ?_
       obtain ⟨c164, p166, h167⟩ := OL.get o30 hu153
       obtain rfl := h167
       refine .q .d1 (.idxV 0 rfl va31 o30 rfl rfl hu153 sl22 ty3.sz rfl rfl) rfl (.clsL (HpLe.refl _) (pick_mem [] rfl) ?_)
       refine .alt ?_ ?_
       ·refine .dge_on rfl ?_
        refine .q .d1 (.loadV 0 0 rfl va31 o30 rfl rfl hu151 p158 rfl (.inl ⟨rfl, rfl⟩) ty3 rfl) rfl (.clsL (HpLe.refl _) (pick_mem [] rfl) (.dge_on rfl (.q .d1 (.loadV 0 0 rfl va31 o30 rfl rfl hu153 p166 rfl (.inl ⟨rfl, rfl⟩) ty3 rfl) rfl (.clsL (HpLe.refl _) (pick_mem [] rfl) (.dge_on rfl (.cVd [_, _] Tryz.call165 (cmp_Less_int_c mcs  hu155) ?_))))))
        refine .clsL (HpLe.refl _) (pick_mem [] rfl) (.go 1 ?_)
        exact (hb148 _ rfl).ax ⟨sval r156, rfl, rfl, rfl, rfl, rfl, trivial⟩
       ·refine .dge_on rfl ?_
        refine .q .d1 (.loadV 0 0 rfl va31 o30 rfl rfl hu153 p166 rfl (.inl ⟨rfl, rfl⟩) ty3 rfl) rfl (.clsL (HpLe.refl _) (pick_mem [] rfl) (.dge_on rfl (.q .d1 (.loadV 0 0 rfl va31 o30 rfl rfl hu151 p158 rfl (.inl ⟨rfl, rfl⟩) ty3 rfl) rfl (.clsL (HpLe.refl _) (pick_mem [] rfl) (.dge_on rfl (.cVd [_, _] Tryz.call165 (cmp_Less_int_c mcs  hu155) ?_))))))
        refine .clsL (HpLe.refl _) (pick_mem [] rfl) (.go 1 ?_)
        exact (hb148 _ rfl).ax ⟨sval r156, rfl, rfl, rfl, rfl, rfl, trivial⟩
     ·refine .dge_on rfl ?_
      obtain ⟨c168, p169, h170⟩ := OL.get o30 hu153
      obtain rfl := h170
      refine .q .d1 (.idxV 0 rfl va31 o30 rfl rfl hu153 sl22 ty3.sz rfl rfl) rfl (.clsL (HpLe.refl _) (pick_mem [] rfl) ?_)
      refine .alt ?_ ?_
      ·refine .dge_on rfl ?_
       obtain ⟨c171, p172, h173⟩ := OL.get o30 hu151
       obtain rfl := h173
       refine .q .d1 (.idxV 0 rfl va31 o30 rfl rfl hu151 sl22 ty3.sz rfl rfl) rfl (.clsL (HpLe.refl _) (pick_mem [] rfl) ?_)
       refine .alt ?_ ?_
       ·refine .dge_on rfl ?_
        refine .q .d1 (.loadV 0 0 rfl va31 o30 rfl rfl hu151 p172 rfl (.inl ⟨rfl, rfl⟩) ty3 rfl) rfl (.clsL (HpLe.refl _) (pick_mem [] rfl) (.dge_on rfl (.q .d1 (.loadV 0 0 rfl va31 o30 rfl rfl hu153 p169 rfl (.inl ⟨rfl, rfl⟩) ty3 rfl) rfl (.clsL (HpLe.refl _) (pick_mem [] rfl) (.dge_on rfl (.cVd [_, _] Tryz.call165 (cmp_Less_int_c mcs  hu155) ?_))))))
        refine .clsL (HpLe.refl _) (pick_mem [] rfl) (.go 1 ?_)
        exact (hb148 _ rfl).ax ⟨sval r156, rfl, rfl, rfl, rfl, rfl, trivial⟩
       ·refine .dge_on rfl ?_
        refine .q .d1 (.loadV 0 0 rfl va31 o30 rfl rfl hu153 p169 rfl (.inl ⟨rfl, rfl⟩) ty3 rfl) rfl (.clsL (HpLe.refl _) (pick_mem [] rfl) (.dge_on rfl (.q .d1 (.loadV 0 0 rfl va31 o30 rfl rfl hu151 p172 rfl (.inl ⟨rfl, rfl⟩) ty3 rfl) rfl (.clsL (HpLe.refl _) (pick_mem [] rfl) (.dge_on rfl (.cVd [_, _] Tryz.call165 (cmp_Less_int_c mcs  hu155) ?_))))))
        refine .clsL (HpLe.refl _) (pick_mem [] rfl) (.go 1 ?_)
        exact (hb148 _ rfl).ax ⟨sval r156, rfl, rfl, rfl, rfl, rfl, trivial⟩
      ·refine .dge_on rfl ?_
       refine .q .d1 (.loadV 0 0 rfl va31 o30 rfl rfl hu153 p169 rfl (.inl ⟨rfl, rfl⟩) ty3 rfl) rfl (.clsL (HpLe.refl _) (pick_mem [] rfl) (.dge_on rfl ?_))
       obtain ⟨c174, p175, h176⟩ := OL.get o30 hu151
       obtain rfl := h176
       refine .q .d1 (.idxV 0 rfl va31 o30 rfl rfl hu151 sl22 ty3.sz rfl rfl) rfl (.clsL (HpLe.refl _) (pick_mem [] rfl) (.dge_on rfl (.q .d1 (.loadV 0 0 rfl va31 o30 rfl rfl hu151 p175 rfl (.inl ⟨rfl, rfl⟩) ty3 rfl) rfl (.clsL (HpLe.refl _) (pick_mem [] rfl) (.dge_on rfl (.cVd [_, _] Tryz.call165 (cmp_Less_int_c mcs  hu155) ?_))))))
       refine .clsL (HpLe.refl _) (pick_mem [] rfl) (.go 1 ?_)
       exact (hb148 _ rfl).ax ⟨sval r156, rfl, rfl, rfl, rfl, rfl, trivial⟩
    ·have r177 := ifF h146 c149
     refine .dgq_off rfl rfl rfl (.dgq_off rfl rfl rfl (.dgq_off rfl rfl rfl (.dgq_off rfl rfl rfl (.dgq_off rfl rfl rfl ?_))))
     refine .alt ?_ ?_
     ·refine .dge_offL rfl rfl rfl (HpLe.refl _) (pick_mem [] rfl) ?_
      refine .alt ?_ ?_
      ·refine .dge_offL rfl rfl rfl (HpLe.refl _) (pick_mem [] rfl) ?_
       refine .dge_offL rfl rfl rfl (HpLe.refl _) (pick_mem [] rfl) (.dge_offL rfl rfl rfl (HpLe.refl _) (pick_mem [] rfl) (.dge_offL rfl rfl rfl (HpLe.refl _) (pick_mem [] rfl) (.go 1 ?_)))
       exact (hb148 _ rfl).ax ⟨sval r177, rfl, rfl, rfl, rfl, rfl, trivial⟩
      ·refine .dge_offL rfl rfl rfl (HpLe.refl _) (pick_mem [] rfl) ?_
       refine .alt ?_ ?_
       ·refine .dge_offL rfl rfl rfl (HpLe.refl _) (pick_mem [] rfl) ?_
        refine .dge_offL rfl rfl rfl (HpLe.refl _) (pick_mem [] rfl) (.dge_offL rfl rfl rfl (HpLe.refl _) (pick_mem [] rfl) (.go 1 ?_))
        exact (hb148 _ rfl).ax ⟨sval r177, rfl, rfl, rfl, rfl, rfl, trivial⟩
       ·refine .dge_offL rfl rfl rfl (HpLe.refl _) (pick_mem [] rfl) ?_
        refine .dge_offL rfl rfl rfl (HpLe.refl _) (pick_mem [] rfl) (.dge_offL rfl rfl rfl (HpLe.refl _) (pick_mem [] rfl) (.go 1 ?_))
        exact (hb148 _ rfl).ax ⟨sval r177, rfl, rfl, rfl, rfl, rfl, trivial⟩
     ·refine .dge_offL rfl rfl rfl (HpLe.refl _) (pick_mem [] rfl) ?_
      refine .alt ?_ ?_
      ·refine .dge_offL rfl rfl rfl (HpLe.refl _) (pick_mem [] rfl) ?_
       refine .alt ?_ ?_
       ·refine .dge_offL rfl rfl rfl (HpLe.refl _) (pick_mem [] rfl) ?_
        refine .dge_offL rfl rfl rfl (HpLe.refl _) (pick_mem [] rfl) (.dge_offL rfl rfl rfl (HpLe.refl _) (pick_mem [] rfl) (.go 1 ?_))
        exact (hb148 _ rfl).ax ⟨sval r177, rfl, rfl, rfl, rfl, rfl, trivial⟩
       ·refine .dge_offL rfl rfl rfl (HpLe.refl _) (pick_mem [] rfl) ?_
        refine .dge_offL rfl rfl rfl (HpLe.refl _) (pick_mem [] rfl) (.dge_offL rfl rfl rfl (HpLe.refl _) (pick_mem [] rfl) (.go 1 ?_))
        exact (hb148 _ rfl).ax ⟨sval r177, rfl, rfl, rfl, rfl, rfl, trivial⟩
      ·refine .dge_offL rfl rfl rfl (HpLe.refl _) (pick_mem [] rfl) ?_
       refine .dge_offL rfl rfl rfl (HpLe.refl _) (pick_mem [] rfl) (.dge_offL rfl rfl rfl (HpLe.refl _) (pick_mem [] rfl) (.dge_offL rfl rfl rfl (HpLe.refl _) (pick_mem [] rfl) (.go 1 ?_)))
       exact (hb148 _ rfl).ax ⟨sval r177, rfl, rfl, rfl, rfl, rfl, trivial⟩
 ·refine .exit rfl ?_
  cases r24
  refine .rS [] [] Tryz.func159 Tryz.results159 ⟨cs14, rfl, rfl, rfl, o15, hl17⟩
theorem math_bits_Len64_c {x0 : Int} {r : Int} (hG : G ∈ Fs)  (h : math_bits_Len64 x0 = some r) : RetS Tryz.prog 169 #[.int .u64 x0] Fs [] [] (rv (.int .i64 r)) := by
 unfold math_bits_Len64 at h
 try dsimp only at h
 refine RetS.st [(0, _)] Tryz.func169 Tryz.ntmps169 hG fun w0 S0 hS0 B0 => ?_
 refine .go 10 ?_
 refine .kI (fun y => ∃ (Z0 Z1 : _), y = ⟨[(0, .int .u64 Z0), (2, .int .i64 Z1)], G :: Fs, [], []⟩ ∧ math_bits_Len64_J3 Z0 Z1 = some r) [] [] [] [] [] ?_ ?_
 ·rintro _ ⟨v5, v6, rfl, r8⟩
  refine .gn 0 ?_
  unfold math_bits_Len64_J3 at r8
  try dsimp only at r8
  refine .go 6 ?_
  refine .kI (fun y => ∃ (Z0 Z1 : _), y = ⟨[(0, .int .u64 Z0), (2, .int .i64 Z1)], G :: Fs, [], []⟩ ∧ math_bits_Len64_J2 Z0 Z1 = some r) [] [] [] [] [] ?_ ?_
  ·rintro _ ⟨v13, v14, rfl, r16⟩
   refine .gn 0 ?_
   unfold math_bits_Len64_J2 at r16
   try dsimp only at r16
   refine .go 6 ?_
   refine .kI (fun y => ∃ (Z0 Z1 : _), y = ⟨[(0, .int .u64 Z0), (2, .int .i64 Z1)], G :: Fs, [], []⟩ ∧ math_bits_Len64_J1 Z0 Z1 = some r) [] [] [] [] [] ?_ ?_
   ·rintro _ ⟨v21, v22, rfl, r24⟩
    refine .gn 0 ?_
    unfold math_bits_Len64_J1 at r24
    try dsimp only at r24
    refine .go 4 ?_
    refine .q .ro (.convw Tryz.underlying251 Tryz.underlying5 rfl) rfl ?_
    obtain ⟨u25, hu25, r26⟩ := bind_some r24
    refine .q .ro (.sidx rfl rfl Tryz.underlying9 hu25) rfl (.q .ro (.convw Tryz.underlying5 Tryz.underlying3 rfl) rfl (.go 3 ?_))
    cases r26
    refine .rS [.tmp 2] [_] Tryz.func169 Tryz.results169 ⟨rfl, rfl, rfl⟩
   ·intro hb27
    refine .cH r16 (fun c28 r29 => ?_) (fun c28 r30 => ?_)
    ·refine .go 3 ?_
     refine .q .ro (.shrw rfl rfl (by decide)) rfl (.go 7 ?_)
     exact (hb27 _ ⟨(shrI .u64 v13 8), (w64 (v14 + 8)), rfl, r29⟩).ar
    ·refine .go 1 ?_
     exact (hb27 _ ⟨v13, v14, rfl, r30⟩).ar
  ·intro hb31
   refine .cH r8 (fun c32 r33 => ?_) (fun c32 r34 => ?_)
   ·refine .go 3 ?_
    refine .q .ro (.shrw rfl rfl (by decide)) rfl (.go 7 ?_)
    exact (hb31 _ ⟨(shrI .u64 v5 16), (w64 (v6 + 16)), rfl, r33⟩).ar
   ·refine .go 1 ?_
    exact (hb31 _ ⟨v5, v6, rfl, r34⟩).ar
 ·intro hb35
  refine .cH h (fun c36 r37 => ?_) (fun c36 r38 => ?_)
  ·refine .go 3 ?_
   refine .q .ro (.shrw rfl rfl (by decide)) rfl (.go 5 ?_)
   exact (hb35 _ ⟨(shrI .u64 x0 32), 32, rfl, r37⟩).ar
  ·refine .go 1 ?_
   exact (hb35 _ ⟨x0, 0, rfl, r38⟩).ar
theorem math_bits_Len_c {x0 : Int} {r : Int} (hG : G ∈ Fs)  (h : math_bits_Len x0 = some r) : RetS Tryz.prog 151 #[.int .u64 x0] Fs [] [] (rv (.int .i64 r)) := by
 unfold math_bits_Len at h
 try dsimp only at h
 refine RetS.st [(0, _)] Tryz.func151 Tryz.ntmps151 hG fun w0 S0 hS0 B0 => ?_
 refine .go 5 ?_
 refine .cond_false rfl (.go 4 ?_)
 obtain ⟨u1, hu1, r2⟩ := bind_some h
 refine .cV [_] Tryz.call169 (math_bits_Len64_c mcs  hu1) ?_
 refine .go 2 ?_
 cases r2
 refine .rS [.tmp 2] [_] Tryz.func151 Tryz.results151 ⟨rfl, rfl, rfl⟩
end Go.Proofs.YtfcicopgdahmcaaGreatDoor
end

section
set_option maxHeartbeats 4000000
set_option maxRecDepth 100000
namespace Go.Proofs.YtfcicopgdahmcaaGreatDoor
open Go.RowKit
set_option linter.unusedSimpArgs false
set_option linter.unusedVariables false
set_option synthInstance.maxSize 2000
set_option synthInstance.maxHeartbeats 400000
variable {Fs : List Hp} {G : Hp} {a0 : Option Addr} {k0 : Nat} {cc0 : List Value} {bb0 : Option Nat}
theorem slices_pdqsortOrdered_int_R_c (n : Nat) : ∀ {Fs : List Hp} {G : Hp} {a0 : Option Addr} {k0 : Nat} {x0 : List Int} {cc0 : List Value} {bb0 : Option Nat} {pre0 post0 : List Value} {x1 : Int} {x2 : Int} {x3 : Int} {r : (List Int)} (hG : G ∈ Fs) (vva0 : VA a0 bb0 x0.length k0 pre0 cc0) (oo0 : OL ri G cc0 x0) (h : slices_pdqsortOrdered_int_R n x0 x1 x2 x3 = some r), RetS Tryz.prog 150 #[.slice a0 x0.length k0, .int .i64 x1, .int .i64 x2, .int .i64 x3] Fs [] [.g (viewG bb0 3 pre0 cc0 post0)] (fun v bo so => ∃ lc0 : List Value, v = .tuple #[] ∧ bo = [] ∧ so = [.g (viewG bb0 3 pre0 lc0 post0)] ∧ OL ri G lc0 r ∧ r.length = x0.length) := by
 induction n with
 | zero => intro Fs G a0 k0 x0 cc0 bb0 pre0 post0 x1 x2 x3 r hG vva0 oo0 h; exact absurd h (by unfold slices_pdqsortOrdered_int_R; simp)
 | succ n ih =>
  intro Fs G a0 k0 x0 cc0 bb0 pre0 post0 x1 x2 x3 r hG vva0 oo0 h
  unfold slices_pdqsortOrdered_int_R at h
  unfold slices_pdqsortOrdered_int_B2 at h
  try dsimp only at h
  refine RetS.st [(0, _), (1, _), (2, _), (3, _)] Tryz.func150 Tryz.ntmps150 hG fun w0 S0 hS0 B0 => ?_
  refine .go 8 ?_
  refine .block ?_
  refine .lp (fun y m => ∃ (Z0 : Nat), y = ⟨[], [], [], []⟩ ∧ Z0 = m ∧ slices_pdqsortOrdered_int_L1 x1 x2 x0 Z0  = some r) [(0, _), (1, _), (2, _), (3, _), (8, _), (9, _)] [] [_] ⟨(big), rfl, rfl, h⟩ (fun y m hI hb23 => ?_)
  obtain ⟨n20, rfl, rfl, r22⟩ := hI
  refine .gn 0 ?_
  obtain ⟨m29, rfl⟩ : ∃ m, n20 = m + 1 := by cases n20 with | zero => exact absurd (show (none : Option _) = some _ from r22) (by simp) | succ m => exact ⟨m, rfl⟩
  have r28 : slices_pdqsortOrdered_int_B1 x1 x2 x0 (slices_pdqsortOrdered_int_L1 x1 x2 x0 m29)  = some r := r22; clear r22; unfold slices_pdqsortOrdered_int_B1 at r28; try dsimp only at r28
  refine .block (.go 13 ?_)
  refine .cH r28 (fun c30 r31 => ?_) (fun c30 r41 => ?_)
  ·refine .go 5 ?_
   obtain ⟨u32, hu32, r33⟩ := bind_some r31
   refine .callS (b1 := []) (b2 := []) (s1 := [_]) [_, _, _] [] .ro rfl rfl Tryz.call159 rfl rfl (slices_insertionSortOrdered_int_c mcs vva0 oo0 hu32) rfl (fun v35 bo so h34 => ?_)
   obtain ⟨cs36, rfl, rfl, rfl, o37, hl38⟩ := h34
   refine .gn 0 ?_
   have va40 := VA.call vva0 oo0 o37 hl38
   refine .reval 0 hl38 rfl (.reval 24 hl38 rfl (.go 1 ?_))
   refine .prune [] trivial ?_
   cases r33
   refine .rS [] [] Tryz.func150 Tryz.results150 ⟨cs36, rfl, rfl, rfl, o37, hl38⟩
  ·cases r41
theorem slices_pdqsortOrdered_int_c {x0 : List Int} {pre0 post0 : List Value} {x1 : Int} {x2 : Int} {x3 : Int} {r : (List Int)} (hG : G ∈ Fs) (vva0 : VA a0 bb0 x0.length k0 pre0 cc0) (oo0 : OL ri G cc0 x0) (h : slices_pdqsortOrdered_int x0 x1 x2 x3 = some r) : RetS Tryz.prog 150 #[.slice a0 x0.length k0, .int .i64 x1, .int .i64 x2, .int .i64 x3] Fs [] [.g (viewG bb0 3 pre0 cc0 post0)] (fun v bo so => ∃ lc0 : List Value, v = .tuple #[] ∧ bo = [] ∧ so = [.g (viewG bb0 3 pre0 lc0 post0)] ∧ OL ri G lc0 r ∧ r.length = x0.length) := by
 unfold slices_pdqsortOrdered_int at h
 exact slices_pdqsortOrdered_int_R_c big hG vva0 oo0 h
theorem slices_Sort_Lintint_c {x0 : List Int} {pre0 post0 : List Value} {r : (List Int)} (hG : G ∈ Fs) (vva0 : VA a0 bb0 x0.length k0 pre0 cc0) (oo0 : OL ri G cc0 x0) (h : slices_Sort_Lintint x0 = some r) : RetS Tryz.prog 129 #[.slice a0 x0.length k0] Fs [] [.g (viewG bb0 3 pre0 cc0 post0)] (fun v bo so => ∃ lc0 : List Value, v = .tuple #[] ∧ bo = [] ∧ so = [.g (viewG bb0 3 pre0 lc0 post0)] ∧ OL ri G lc0 r ∧ r.length = x0.length) := by
 unfold slices_Sort_Lintint at h
 try dsimp only at h
 refine RetS.st [(0, _)] Tryz.func129 Tryz.ntmps129 hG fun w0 S0 hS0 B0 => ?_
 refine .go 10 ?_
 refine .q .ro (.convw Tryz.underlying3 Tryz.underlying212 rfl) rfl ?_
 obtain ⟨u2, hu2, r3⟩ := bind_some h
 refine .cV [_] Tryz.call151 (math_bits_Len_c mcs  hu2) ?_
 obtain ⟨u6, hu6, r7⟩ := bind_some r3
 refine .callS (b1 := []) (b2 := []) (s1 := [_]) [_, _, _, _] [] .ro rfl rfl Tryz.call150 rfl rfl (slices_pdqsortOrdered_int_c mcs vva0 oo0 hu6) rfl (fun v9 bo so h8 => ?_)
 obtain ⟨cs10, rfl, rfl, rfl, o11, hl12⟩ := h8
 refine .gn 0 ?_
 have va14 := VA.call vva0 oo0 o11 hl12
 refine .reval 0 hl12 rfl (.reval 3 hl12 rfl (.reval 5 hl12 rfl (.go 1 ?_)))
 cases r7
 refine .rS [] [] Tryz.func129 Tryz.results129 ⟨cs10, rfl, rfl, rfl, o11, hl12⟩
end Go.Proofs.YtfcicopgdahmcaaGreatDoor
end

section
set_option maxHeartbeats 4000000
set_option maxRecDepth 100000
namespace Go.Proofs.YtfcicopgdahmcaaGreatDoor
open Go.RowKit
set_option linter.unusedSimpArgs false
set_option linter.unusedVariables false
set_option synthInstance.maxSize 2000
set_option synthInstance.maxHeartbeats 400000
variable {Fs : List Hp} {G : Hp} {a0 a0_2 a3 a0_0 a4_0 a1 : Option Addr} {k0 k0_2 k3 p0 k0_0 k4_0 k1 : Nat} {cc0 : List Value} {bb0 : Option Nat}
theorem slices_Compact_Lintint_c {x0 : List Int} {pre0 post0 : List Value} {r : ((Int × Int) × (List Int))} (hG : G ∈ Fs) (vva0 : VA a0 bb0 x0.length k0 pre0 cc0) (oo0 : OL ri G cc0 x0) (h : slices_Compact_Lintint x0 = some r) : RetS Tryz.prog 130 #[.slice a0 x0.length k0] Fs [] [.g (viewG bb0 3 pre0 cc0 post0)] (fun v bo so => ∃ pq0 : Value, ∃ lc0 : List Value, v = pq0 ∧ bo = [] ∧ so = [.g (viewG bb0 3 pre0 lc0 post0)] ∧ PartV a0 1 pq0 r.1.1.toNat (r.1.2 - r.1.1).toNat ∧ OL ri G lc0 r.2 ∧ r.2.length = x0.length) := by
 unfold slices_Compact_Lintint at h
 try dsimp only at h
 refine RetS.st [(0, _)] Tryz.func130 Tryz.ntmps130 hG fun w0 S0 hS0 B0 => ?_
 refine .go 11 ?_
 refine .cH h (fun c2 r3 => ?_) (fun c2 r4 => ?_)
 ·refine .go 5 ?_
  cases r3
  refine .rS [.tmp 2] [_] Tryz.func130 Tryz.results130 ⟨_, cc0, rfl, rfl, rfl, (PartV.all vva0.1), oo0, rfl⟩
 ·refine .go 6 ?_
  refine .block ?_
  refine .lp (fun y m => ∃ (Z0 : Nat) (Z1 : _), y = ⟨[(3, .int .i64 Z1)], [], [], []⟩ ∧ Z0 = m ∧ slices_Compact_Lintint_L5 x0 Z0 Z1 = some r) [(0, _)] [] [_] ⟨big, 1, rfl, rfl, r4⟩ (fun y m hI hb10 => ?_)
  obtain ⟨n11, v12, rfl, rfl, r13⟩ := hI
  refine .gn 0 ?_
  obtain ⟨m14, rfl⟩ : ∃ m, n11 = m + 1 := by cases n11 with | zero => exact absurd (show (none : Option _) = some _ from r13) (by simp) | succ m => exact ⟨m, rfl⟩
  have r15 : slices_Compact_Lintint_B5 x0 (slices_Compact_Lintint_L5 x0 m14) v12 = some r := r13; clear r13; unfold slices_Compact_Lintint_B5 at r15; try dsimp only at r15
  refine .go 8 ?_
  refine .cH r15 (fun c16 r17 => ?_) (fun c16 r18 => ?_)
  ·refine .go 2 ?_
   refine .block (.go 1 ?_)
   refine .kG (fun y => ∃ (Z0 : _), y = ⟨[(25, .bool Z0)], G :: Fs, [], []⟩ ∧ (slices_Compact_Lintint_J4 (slices_Compact_Lintint_L5 x0 m14) v12 x0) Z0 = some r) [(3, _), (0, _)] [] [] [_] [0] ?_ ?_
   ·rintro _ ⟨v19, rfl, r20⟩
    refine .gn 0 ?_
    unfold slices_Compact_Lintint_J4 at r20
    try dsimp only at r20
    refine .cB r20 (fun c21 r23 => ?_) (fun c21 r24 => ?_)
    ·refine .go 4 ?_
     obtain ⟨u25, hu25, r26⟩ := bind_some r23
     refine .q .ro (.sliceP rfl (PartV.all vva0.1) hu25 sl22 ty3.sz (fun h => .yes' rfl h) (fun _ => .no)) rfl (.go 7 ?_)
     refine .kB (fun y => ∃ (Z0 : _) (Z1 : List Int) (Z2 : _), y = ⟨[(3, .int .i64 Z0), (0, .slice a0 Z1.length k0)], G :: Fs, [], [.g (viewG bb0 3 pre0 Z2 post0)]⟩ ∧ OL ri G Z2 Z1 ∧ VA a0 bb0 Z1.length k0 pre0 Z2 ∧ Z1.length = x0.length ∧ slices_Compact_Lintint_J1 Z0 Z1 = some r) [] [] [] [] [] ?_ ?_
     ·rintro _ ⟨v27, v28, cs29, rfl, o30, va31, hl32, r33⟩
      refine .gn 0 ?_
      unfold slices_Compact_Lintint_J1 at r33
      try dsimp only at r33
      refine .go 4 ?_
      obtain ⟨u34, hu34, r35⟩ := bind_some r33
      refine .q .ro (.sliceP rfl (PartV.all va31.1) hu34 sl22 ty3.sz (fun h => .yes' rfl h) (fun _ => .no)) rfl ?_
      obtain ⟨u36, hu36, r37⟩ := bind_some r35
      refine .clearP 0 (Q := ri) .ro sl22 ty3 ((Rep.intI .i64 0) :) rfl va31 o30 rfl hu36 rfl (PartV.psub (PartV.all va31.1) hu34) (fun cs38 hl39 o40 va41 => ?_)
      refine .reval 0 hl39 rfl (.reval 54 hl39 rfl (.go 5 ?_))
      obtain ⟨u42, hu42, r43⟩ := bind_some r37
      refine .q .ro (.sliceP rfl (PartV.all va41.1) hu42 sl22 ty3.sz (fun _ => .no) (fun h => .yes' rfl h)) rfl (.go 2 ?_)
      cases r43
      refine .rS [.tmp 2] [_] Tryz.func130 Tryz.results130 ⟨_, cs38, rfl, rfl, rfl, (PartV.psub (PartV.all va41.1) hu42), o40, (hl39.trans hl32)⟩
     ·intro hb44
      refine .block ?_
      refine .lp (fun y m => ∃ (Z0 : Nat) (Z1 Z2 : _) (Z3 : List Int) (Z4 : _), y = ⟨[(3, .int .i64 Z1), (5, .int .i64 Z2), (0, .slice a0 Z3.length k0)], [], [], [.g (viewG bb0 3 pre0 Z4 post0)]⟩ ∧ Z0 = m ∧ OL ri G Z4 Z3 ∧ VA a0 bb0 Z3.length k0 pre0 Z4 ∧ Z3.length = x0.length ∧ slices_Compact_Lintint_L3 slices_Compact_Lintint_J1 u25.1 u25.2 Z0 Z1 Z2 Z3 = some r) [(4, _)] [] [] ⟨big, v12, 1, x0, cc0, rfl, rfl, oo0, vva0, rfl, r26⟩ (fun y m hI hb45 => ?_)
      obtain ⟨n46, v47, v48, v49, cs50, rfl, rfl, o51, va52, hl53, r54⟩ := hI
      refine .gn 0 ?_
      obtain ⟨m55, rfl⟩ : ∃ m, n46 = m + 1 := by cases n46 with | zero => exact absurd (show (none : Option _) = some _ from r54) (by simp) | succ m => exact ⟨m, rfl⟩
      have r56 : slices_Compact_Lintint_B3 slices_Compact_Lintint_J1 u25.1 u25.2 (slices_Compact_Lintint_L3 slices_Compact_Lintint_J1 u25.1 u25.2 m55) v47 v48 v49 = some r := r54; clear r54; unfold slices_Compact_Lintint_B3 at r56; try dsimp only at r56
      refine .go 5 ?_
      refine .q .ro (.len_p rfl (PartV.psub (PartV.all vva0.1) hu25) sl22) rfl (.go 2 ?_)
      refine .cH r56 (fun c57 r58 => ?_) (fun c57 r59 => ?_)
      ·refine .go 2 ?_
       refine .block (.go 1 ?_)
       refine .kG (fun y => ∃ (Z0 : _), y = ⟨[(44, .bool Z0)], G :: Fs, [], []⟩ ∧ (slices_Compact_Lintint_J2 (slices_Compact_Lintint_L3 slices_Compact_Lintint_J1 u25.1 u25.2 m55) v47 v48 u25.1 u25.2 v49) Z0 = some r) [(3, _), (5, _), (0, _), (4, _)] [] [] [_] [0] ?_ ?_
       ·rintro _ ⟨v60, rfl, r61⟩
        refine .gn 0 ?_
        unfold slices_Compact_Lintint_J2 at r61
        try dsimp only at r61
        refine .cB r61 (fun c62 r63 => ?_) (fun c62 r65 => ?_)
        ·refine .go 6 ?_
         obtain ⟨u66, hu66, r67⟩ := bind_some r63
         obtain ⟨u68, hu68, r69⟩ := bind_some r67
         obtain ⟨c70, p71, h72⟩ := OL.get o51 hu68
         obtain rfl := h72
         refine .q .ro (.idxPV 0 rfl va52 o51 rfl (PartV.psub (PartV.all vva0.1) hu25) rfl hu66 hu68 sl22 ty3.sz rfl rfl) rfl (.q .ro (.loadV 0 0 rfl va52 o51 rfl rfl hu68 p71 rfl (.inl ⟨rfl, rfl⟩) ty3 rfl) rfl ?_)
         obtain ⟨u73, hu73, r74⟩ := bind_some r69
         obtain ⟨c75, p76, h77⟩ := OL.get o51 hu73
         obtain rfl := h77
         refine .q .ro (.idxV 0 rfl va52 o51 rfl rfl hu73 sl22 ty3.sz rfl rfl) rfl ?_
         obtain ⟨u78, hu78, r79⟩ := bind_some r74
         refine .storeV 0 0 (Q := ri) .ro rfl va52 rfl rfl o51 hu78 rfl (.inl ⟨rfl, rfl⟩) rfl ty3 p76 ((Rep.intI .i64 u68) :) rfl rfl (fun cs80 hlcs80 o81 va82 => ?_)
         refine .reval 0 hlcs80 rfl (.reval 45 hlcs80 rfl (.go 12 ?_))
         exact (hb45 _ _ ⟨m55, (w64 (v47 + 1)), (w64 (v48 + 1)), u78, cs80, rfl, rfl, o81, va82, (hlcs80.trans hl53), r79⟩ (Nat.lt_succ_self _)).ar
        ·refine .go 7 ?_
         exact (hb45 _ _ ⟨m55, v47, (w64 (v48 + 1)), v49, cs50, rfl, rfl, o51, va52, hl53, r65⟩ (Nat.lt_succ_self _)).ar
       ·intro hb83
        refine .drawL (.q 0 (.q 1 (.q 4 (.q 5 (.q 6 (.alt (.e 2 1 (.alt (.e 3 1 (.e 7 1 (.e 8 1 (.q 9 .nil)))) (.e 7 1 (.alt (.e 3 1 (.e 8 1 (.q 9 .nil))) (.e 8 1 (.e 3 1 (.q 9 .nil))))))) (.e 7 1 (.alt (.e 2 1 (.alt (.e 3 1 (.e 8 1 (.q 9 .nil))) (.e 8 1 (.e 3 1 (.q 9 .nil))))) (.e 8 1 (.e 2 1 (.e 3 1 (.q 9 .nil)))))))))))) [] (by kernel_rfl) (by kernel_rfl) (pick_mem [] rfl) ?_
        obtain ⟨u84, hu84, r85⟩ := bind_some r58
        obtain ⟨u86, hu86, r87⟩ := bind_some r85
        obtain ⟨u88, hu88, r89⟩ := bind_some r87
        obtain ⟨u90, hu90, r91⟩ := bind_some r89
        refine .go 5 ?_
        refine .alt ?_ ?_
        ·obtain ⟨c92, p93, h94⟩ := OL.get o51 hu86
         obtain rfl := h94
         refine .q .d1 (.idxPV 0 rfl va52 o51 rfl (PartV.psub (PartV.all vva0.1) hu25) rfl hu84 hu86 sl22 ty3.sz rfl rfl) rfl (.clsL (HpLe.refl _) (pick_mem [] rfl) ?_)
         refine .alt ?_ ?_
         ·refine .q .d1 (.loadV 0 0 rfl va52 o51 rfl rfl hu86 p93 rfl (.inl ⟨rfl, rfl⟩) ty3 rfl) rfl ?_
          refine .clsL (HpLe.refl _) (pick_mem [] rfl) ?_
          obtain ⟨c95, p96, h97⟩ := OL.get o51 hu90
          obtain rfl := h97
          refine .q .d1 (.idxPV 0 rfl va52 o51 rfl (PartV.psub (PartV.all vva0.1) hu25) rfl hu88 hu90 sl22 ty3.sz rfl rfl) rfl (.clsL (HpLe.refl _) (pick_mem [] rfl) (.q .d1 (.loadV 0 0 rfl va52 o51 rfl rfl hu90 p96 rfl (.inl ⟨rfl, rfl⟩) ty3 rfl) rfl (.clsL (HpLe.refl _) (pick_mem [] rfl) (.go 2 ?_))))
          exact (hb83 _ ⟨((decide (u86 ≠ u90))), rfl, r91⟩).ar
         ·obtain ⟨c98, p99, h100⟩ := OL.get o51 hu90
          obtain rfl := h100
          refine .q .d1 (.idxPV 0 rfl va52 o51 rfl (PartV.psub (PartV.all vva0.1) hu25) rfl hu88 hu90 sl22 ty3.sz rfl rfl) rfl (.clsL (HpLe.refl _) (pick_mem [] rfl) ?_)
          refine .alt ?_ ?_
          ·refine .q .d1 (.loadV 0 0 rfl va52 o51 rfl rfl hu86 p93 rfl (.inl ⟨rfl, rfl⟩) ty3 rfl) rfl ?_
           refine .clsL (HpLe.refl _) (pick_mem [] rfl) (.q .d1 (.loadV 0 0 rfl va52 o51 rfl rfl hu90 p99 rfl (.inl ⟨rfl, rfl⟩) ty3 rfl) rfl (.clsL (HpLe.refl _) (pick_mem [] rfl) (.go 2 ?_)))
           exact (hb83 _ ⟨((decide (u86 ≠ u90))), rfl, r91⟩).ar
          ·refine .q .d1 (.loadV 0 0 rfl va52 o51 rfl rfl hu90 p99 rfl (.inl ⟨rfl, rfl⟩) ty3 rfl) rfl ?_
           refine .clsL (HpLe.refl _) (pick_mem [] rfl) (.q .d1 (.loadV 0 0 rfl va52 o51 rfl rfl hu86 p93 rfl (.inl ⟨rfl, rfl⟩) ty3 rfl) rfl (.clsL (HpLe.refl _) (pick_mem [] rfl) (.go 2 ?_)))
           exact (hb83 _ ⟨((decide (u86 ≠ u90))), rfl, r91⟩).ar
        ·obtain ⟨c101, p102, h103⟩ := OL.get o51 hu90
         obtain rfl := h103
         refine .q .d1 (.idxPV 0 rfl va52 o51 rfl (PartV.psub (PartV.all vva0.1) hu25) rfl hu88 hu90 sl22 ty3.sz rfl rfl) rfl (.clsL (HpLe.refl _) (pick_mem [] rfl) ?_)
         refine .alt ?_ ?_
         ·obtain ⟨c104, p105, h106⟩ := OL.get o51 hu86
          obtain rfl := h106
          refine .q .d1 (.idxPV 0 rfl va52 o51 rfl (PartV.psub (PartV.all vva0.1) hu25) rfl hu84 hu86 sl22 ty3.sz rfl rfl) rfl (.clsL (HpLe.refl _) (pick_mem [] rfl) ?_)
          refine .alt ?_ ?_
          ·refine .q .d1 (.loadV 0 0 rfl va52 o51 rfl rfl hu86 p105 rfl (.inl ⟨rfl, rfl⟩) ty3 rfl) rfl ?_
           refine .clsL (HpLe.refl _) (pick_mem [] rfl) (.q .d1 (.loadV 0 0 rfl va52 o51 rfl rfl hu90 p102 rfl (.inl ⟨rfl, rfl⟩) ty3 rfl) rfl (.clsL (HpLe.refl _) (pick_mem [] rfl) (.go 2 ?_)))
           exact (hb83 _ ⟨((decide (u86 ≠ u90))), rfl, r91⟩).ar
          ·refine .q .d1 (.loadV 0 0 rfl va52 o51 rfl rfl hu90 p102 rfl (.inl ⟨rfl, rfl⟩) ty3 rfl) rfl ?_
           refine .clsL (HpLe.refl _) (pick_mem [] rfl) (.q .d1 (.loadV 0 0 rfl va52 o51 rfl rfl hu86 p105 rfl (.inl ⟨rfl, rfl⟩) ty3 rfl) rfl (.clsL (HpLe.refl _) (pick_mem [] rfl) (.go 2 ?_)))
           exact (hb83 _ ⟨((decide (u86 ≠ u90))), rfl, r91⟩).ar
         ·refine .q .d1 (.loadV 0 0 rfl va52 o51 rfl rfl hu90 p102 rfl (.inl ⟨rfl, rfl⟩) ty3 rfl) rfl ?_
          refine .clsL (HpLe.refl _) (pick_mem [] rfl) ?_
          obtain ⟨c107, p108, h109⟩ := OL.get o51 hu86
          obtain rfl := h109
          refine .q .d1 (.idxPV 0 rfl va52 o51 rfl (PartV.psub (PartV.all vva0.1) hu25) rfl hu84 hu86 sl22 ty3.sz rfl rfl) rfl (.clsL (HpLe.refl _) (pick_mem [] rfl) (.q .d1 (.loadV 0 0 rfl va52 o51 rfl rfl hu86 p108 rfl (.inl ⟨rfl, rfl⟩) ty3 rfl) rfl (.clsL (HpLe.refl _) (pick_mem [] rfl) (.go 2 ?_))))
          exact (hb83 _ ⟨((decide (u86 ≠ u90))), rfl, r91⟩).ar
      ·refine .exit rfl ?_
       exact (hb44 _ ⟨v47, v49, cs50, rfl, o51, va52, hl53, r59⟩).ar
    ·refine .go 7 ?_
     exact (hb10 _ _ ⟨m14, (w64 (v12 + 1)), rfl, rfl, r24⟩ (Nat.lt_succ_self _)).ar
   ·intro hb110
    refine .drawL (.q 0 (.q 1 (.q 4 (.q 5 (.q 6 (.alt (.e 2 1 (.alt (.e 3 1 (.e 7 1 (.e 8 1 (.q 9 .nil)))) (.e 7 1 (.alt (.e 3 1 (.e 8 1 (.q 9 .nil))) (.e 8 1 (.e 3 1 (.q 9 .nil))))))) (.e 7 1 (.alt (.e 2 1 (.alt (.e 3 1 (.e 8 1 (.q 9 .nil))) (.e 8 1 (.e 3 1 (.q 9 .nil))))) (.e 8 1 (.e 2 1 (.e 3 1 (.q 9 .nil)))))))))))) [] (by kernel_rfl) (by kernel_rfl) (pick_mem [] rfl) ?_
    obtain ⟨u111, hu111, r112⟩ := bind_some r17
    obtain ⟨u113, hu113, r114⟩ := bind_some r112
    refine .go 5 ?_
    refine .alt ?_ ?_
    ·obtain ⟨c115, p116, h117⟩ := OL.get oo0 hu111
     obtain rfl := h117
     refine .q .d1 (.idxV 0 rfl vva0 oo0 rfl rfl hu111 sl22 ty3.sz rfl rfl) rfl (.clsL (HpLe.refl _) (pick_mem [] rfl) ?_)
     refine .alt ?_ ?_
     ·refine .q .d1 (.loadV 0 0 rfl vva0 oo0 rfl rfl hu111 p116 rfl (.inl ⟨rfl, rfl⟩) ty3 rfl) rfl ?_
      refine .clsL (HpLe.refl _) (pick_mem [] rfl) ?_
      obtain ⟨c118, p119, h120⟩ := OL.get oo0 hu113
      obtain rfl := h120
      refine .q .d1 (.idxV 0 rfl vva0 oo0 rfl rfl hu113 sl22 ty3.sz rfl rfl) rfl (.clsL (HpLe.refl _) (pick_mem [] rfl) (.q .d1 (.loadV 0 0 rfl vva0 oo0 rfl rfl hu113 p119 rfl (.inl ⟨rfl, rfl⟩) ty3 rfl) rfl (.clsL (HpLe.refl _) (pick_mem [] rfl) (.go 2 ?_))))
      exact (hb110 _ ⟨((decide (u111 = u113))), rfl, r114⟩).ar
     ·obtain ⟨c121, p122, h123⟩ := OL.get oo0 hu113
      obtain rfl := h123
      refine .q .d1 (.idxV 0 rfl vva0 oo0 rfl rfl hu113 sl22 ty3.sz rfl rfl) rfl (.clsL (HpLe.refl _) (pick_mem [] rfl) ?_)
      refine .alt ?_ ?_
      ·refine .q .d1 (.loadV 0 0 rfl vva0 oo0 rfl rfl hu111 p116 rfl (.inl ⟨rfl, rfl⟩) ty3 rfl) rfl ?_
       refine .clsL (HpLe.refl _) (pick_mem [] rfl) (.q .d1 (.loadV 0 0 rfl vva0 oo0 rfl rfl hu113 p122 rfl (.inl ⟨rfl, rfl⟩) ty3 rfl) rfl (.clsL (HpLe.refl _) (pick_mem [] rfl) (.go 2 ?_)))
       exact (hb110 _ ⟨((decide (u111 = u113))), rfl, r114⟩).ar
      ·refine .q .d1 (.loadV 0 0 rfl vva0 oo0 rfl rfl hu113 p122 rfl (.inl ⟨rfl, rfl⟩) ty3 rfl) rfl ?_
       refine .clsL (HpLe.refl _) (pick_mem [] rfl) (.q .d1 (.loadV 0 0 rfl vva0 oo0 rfl rfl hu111 p116 rfl (.inl ⟨rfl, rfl⟩) ty3 rfl) rfl (.clsL (HpLe.refl _) (pick_mem [] rfl) (.go 2 ?_)))
       exact (hb110 _ ⟨((decide (u111 = u113))), rfl, r114⟩).ar
    ·obtain ⟨c124, p125, h126⟩ := OL.get oo0 hu113
     obtain rfl := h126
     refine .q .d1 (.idxV 0 rfl vva0 oo0 rfl rfl hu113 sl22 ty3.sz rfl rfl) rfl (.clsL (HpLe.refl _) (pick_mem [] rfl) ?_)
     refine .alt ?_ ?_
     ·obtain ⟨c127, p128, h129⟩ := OL.get oo0 hu111
      obtain rfl := h129
      refine .q .d1 (.idxV 0 rfl vva0 oo0 rfl rfl hu111 sl22 ty3.sz rfl rfl) rfl (.clsL (HpLe.refl _) (pick_mem [] rfl) ?_)
      refine .alt ?_ ?_
      ·refine .q .d1 (.loadV 0 0 rfl vva0 oo0 rfl rfl hu111 p128 rfl (.inl ⟨rfl, rfl⟩) ty3 rfl) rfl ?_
       refine .clsL (HpLe.refl _) (pick_mem [] rfl) (.q .d1 (.loadV 0 0 rfl vva0 oo0 rfl rfl hu113 p125 rfl (.inl ⟨rfl, rfl⟩) ty3 rfl) rfl (.clsL (HpLe.refl _) (pick_mem [] rfl) (.go 2 ?_)))
       exact (hb110 _ ⟨((decide (u111 = u113))), rfl, r114⟩).ar
      ·refine .q .d1 (.loadV 0 0 rfl vva0 oo0 rfl rfl hu113 p125 rfl (.inl ⟨rfl, rfl⟩) ty3 rfl) rfl ?_
       refine .clsL (HpLe.refl _) (pick_mem [] rfl) (.q .d1 (.loadV 0 0 rfl vva0 oo0 rfl rfl hu111 p128 rfl (.inl ⟨rfl, rfl⟩) ty3 rfl) rfl (.clsL (HpLe.refl _) (pick_mem [] rfl) (.go 2 ?_)))
       exact (hb110 _ ⟨((decide (u111 = u113))), rfl, r114⟩).ar
     ·refine .q .d1 (.loadV 0 0 rfl vva0 oo0 rfl rfl hu113 p125 rfl (.inl ⟨rfl, rfl⟩) ty3 rfl) rfl ?_
      refine .clsL (HpLe.refl _) (pick_mem [] rfl) ?_
      obtain ⟨c131, p132, h133⟩ := OL.get oo0 hu111
      obtain rfl := h133
      refine .q .d1 (.idxV 0 rfl vva0 oo0 rfl rfl hu111 sl22 ty3.sz rfl rfl) rfl (.clsL (HpLe.refl _) (pick_mem [] rfl) (.q .d1 (.loadV 0 0 rfl vva0 oo0 rfl rfl hu111 p132 rfl (.inl ⟨rfl, rfl⟩) ty3 rfl) rfl (.clsL (HpLe.refl _) (pick_mem [] rfl) (.go 2 ?_))))
      exact (hb110 _ ⟨((decide (u111 = u113))), rfl, r114⟩).ar
  ·refine .exit rfl ?_
   refine .go 5 ?_
   cases r18
   refine .rS [.tmp 2] [_] Tryz.func130 Tryz.results130 ⟨_, cc0, rfl, rfl, rfl, (PartV.all vva0.1), oo0, rfl⟩
theorem columns_Columns_All_c {x0_0 : Int} {x0_1 : Int} {x0_2 : List (Bool × (List Int))} {x1 : Int} {r : ((List (List Int)) × (List Int) × Int)} (hG : G ∈ Fs) (hg0 : Rp G (.pointer (some ⟨0, 0, none⟩)) [ifc233 (some 12)]) (s0_2 : SlR (Rep.pair Rep.bool (Rep.sl ri)) G a0_2 k0_2 x0_2) (h : columns_Columns_All (x0_0, x0_1, x0_2) x1 = some r) : RetW Tryz.prog 85 #[.agg #[.int .i64 x0_0, .int .i64 x0_1, .slice a0_2 x0_2.length k0_2], .int .i64 x1, .func (.func 86) #[] #[]] Fs [] [] (fun v bo so G => ∃ (oa0 : Option Addr) (ok0 : Nat) (oc0 : List Value), ∃ (oa1 : Option Addr) (ok1 : Nat) (oc1 : List Value), v = .tuple #[.slice oa0 r.1.length ok0, .slice oa1 r.2.1.length ok1, .int .i64 r.2.2] ∧ bo = [] ∧ so = [.s (.slice oa0 r.1.length ok0) 22 1 r.1.length oc0, .s (.slice oa1 r.2.1.length ok1) 3 1 r.2.1.length oc1] ∧ OL (Rep.sl ri) G oc0 r.1 ∧ OL ri G oc1 r.2.1) := by
 unfold columns_Columns_All at h
 try dsimp only at h
 refine RetW.st [(0, _), (1, _), (2, _)] Tryz.func85 Tryz.ntmps85 hG fun w0 S0 hS0 B0 => ?_
 refine .go 2 ?_
 refine .box [_, _, _] .ro rfl rfl rfl (fun b1 hb1 => ?_)
 refine .go 18 ?_
 refine .kB (fun y => ∃ (Z0 : _) (Z1 : List (List Int)) (Z2 : _) (Z3 : Nat) (Z4 : _) (Z5 : List Int) (Z6 : _) (Z7 : Nat) (Z8 Z9 Z10 : _), y = ⟨[(9, .slice Z2 Z1.length Z3), (10, .slice Z6 Z5.length Z7)], Z0 :: Fs, [(b1, .cells #[.int .i64 Z9, .int .i64 Z10, .slice a0_2 x0_2.length k0_2] 162 (0, 0))], [.s (.slice Z2 Z1.length Z3) 22 1 Z1.length Z4, .s (.slice Z6 Z5.length Z7) 3 1 Z5.length Z8]⟩ ∧ HpLe G Z0 ∧ Bd w0 S0 Fs Z0 ∧ OL (Rep.sl ri) Z0 Z4 Z1 ∧ OL ri Z0 Z8 Z5 ∧ columns_Columns_All_J1 Z1 Z5 Z9 Z10 = some r) [] [] [] [] [] ?_ ?_
 ·rintro _ ⟨G11, v12, a13, k14, cs15, v16, a17, k18, cs19, v20, v21, rfl, e23, B24, o25, o26, r27⟩
  refine .gn 0 ?_
  unfold columns_Columns_All_J1 at r27
  try dsimp only at r27
  refine .go 3 ?_
  refine .toV 1 rfl (fun vb28 po29 va30 vb31 => ?_)
  obtain ⟨u32, hu32, r33⟩ := bind_some r27
  refine .pullS 1 rfl [_, _] rfl ?_
  refine .callS (b1 := []) (b2 := [_]) (s1 := [_]) [_] [] .ro rfl rfl Tryz.call129 rfl rfl (slices_Sort_Lintint_c mcs va30 o26 hu32) rfl (fun v34 bo so h35 => ?_)
  obtain ⟨cs36, rfl, rfl, rfl, o37, hl38⟩ := h35
  refine .gn 0 ?_
  refine .ofV 0 rfl vb31 hl38 o37 rfl (.reval 10 hl38 rfl (.reval 37 hl38 rfl (.go 5 ?_)))
  refine .toV 0 rfl (fun vb39 po40 va41 vb42 => ?_)
  obtain ⟨u43, hu43, r44⟩ := bind_some r33
  refine .callS (b1 := []) (b2 := [_]) (s1 := [_]) [_] [] .ro rfl rfl Tryz.call130 rfl rfl (slices_Compact_Lintint_c mcs va41 o37 hu43) rfl (fun v45 bo so h46 => ?_)
  obtain ⟨vv47, cs48, rfl, rfl, rfl, pv49, o50, hl52⟩ := h46
  refine .gn 0 ?_
  refine .ofV 0 rfl vb42 hl52 o50 rfl (.reval 10 hl52 rfl (.reval 37 hl52 rfl (.reval 40 hl52 rfl ?_)))
  refine .openB (sB := [_]) (s2 := [_]) rfl B24 (fun G53 e54 B55 hr56 hc57 => ?_)
  have s58 := SlR.rd o50 rfl e54 (hr56 _ (List.mem_of_getElem? (i := 0) rfl))
  obtain ⟨u59, hu59, r60⟩ := bind_some r44
  obtain ⟨a61, k62, h63, s65⟩ := SlR.part s58 pv49 hu59
  refine .revalV 41 h63.symm rfl ?_
  obtain ⟨u66, hu66, r67⟩ := bind_some r60
  refine .cS [_] Tryz.call100 (slices_Clone_Lintint_c mcs s65 hu66) (fun v68 bo so h69 => ?_)
  obtain ⟨a70, k71, cs72, rfl, rfl, rfl, o73⟩ := h69
  refine .gn 3 ?_
  have o74 := OL.flat (G := G11) (Rep.flat_int _) o73
  refine hc57 _ _ _ _ _ _ (HpLe.refl _) ?_
  refine .go 1 ?_
  cases r67
  refine .drop 1 0 [] _ rfl rfl (.pullS 1 rfl [_, _, _] rfl (.pullS 2 rfl [_, _, _] rfl (.pullS 2 rfl [_, _, _] rfl (.drop 0 1 _ [_, _] rfl rfl ?_))))
  refine .rW 0 [.tmp 6, .tmp 7, .tmp 8] [_, _, _] Tryz.func85 Tryz.results85 ⟨RV.tmp rfl, RV.tmp rfl, RV.tmp rfl, trivial⟩ B24 hS0 (fun G' hg => ⟨a13, k14, cs15, a70, k71, cs72, rfl, rfl, rfl, (OL.mono hg o25), (OL.mono hg o74)⟩)
 ·intro hb75
  refine .block (.own_nil 22 1 (.own_nil 3 1 (.pullS 1 rfl [_, _] rfl ?_)))
  refine .lp (fun y m => ∃ (Z0 : Nat) (Z1 : _) (Z2 : List (List Int)) (Z3 : _) (Z4 : Nat) (Z5 : _) (Z6 : List Int) (Z7 : _) (Z8 : Nat) (Z9 Z10 : _), y = ⟨[(9, .slice Z3 Z2.length Z4), (10, .slice Z7 Z6.length Z8), (15, .int .i64 Z10)], [Z1], [], [.s (.slice Z3 Z2.length Z4) 22 1 Z2.length Z5, .s (.slice Z7 Z6.length Z8) 3 1 Z6.length Z9]⟩ ∧ Z0 = m ∧ HpLe G Z1 ∧ Bd w0 S0 Fs Z1 ∧ OL (Rep.sl ri) Z1 Z5 Z2 ∧ OL ri Z1 Z9 Z6 ∧ columns_Columns_All_L2 columns_Columns_All_J1 x1 x0_0 x0_1 x0_2 Z0 Z2 Z6 Z10 = some r) [(2, _), (3, _), (14, _)] [_] [] ⟨big, G, ([] : List (List Int)), none, 0, [], ([] : List Int), none, 0, [], 0, rfl, rfl, (HpLe.refl _), B0, (OL.nil (Rp' := (Rep.sl ri))), (OL.nil (Rp' := ri)), h⟩ (fun y m hI hb76 => ?_)
  obtain ⟨n77, G78, v79, a80, k81, cs82, v83, a84, k87, cs88, v89, rfl, rfl, e90, B91, o92, o93, r94⟩ := hI
  refine .gn 0 ?_
  obtain ⟨m95, rfl⟩ : ∃ m, n77 = m + 1 := by cases n77 with | zero => exact absurd (show (none : Option _) = some _ from r94) (by simp) | succ m => exact ⟨m, rfl⟩
  have r96 : columns_Columns_All_B2 columns_Columns_All_J1 x1 x0_0 x0_1 x0_2 (columns_Columns_All_L2 columns_Columns_All_J1 x1 x0_0 x0_1 x0_2 m95) v79 v83 v89 = some r := r94; clear r94; unfold columns_Columns_All_B2 at r96; try dsimp only at r96
  refine .go 5 ?_
  refine .cH r96 (fun c97 r98 => ?_) (fun c97 r99 => ?_)
  ·refine .go 2 ?_
   refine .block (.go 8 ?_)
   refine .q .ro (.load_own_a 0 [_, _, _] rfl rfl ty162 rfl) rfl (.go 1 ?_)
   obtain ⟨u101, hu101, r102⟩ := bind_some r98
   refine .cW [_, _] Tryz.call86 (columns_Columns_Decode_c mcs (Rp.mono e90 hg0) (SlR.mono e90 s0_2) hu101) B91 (fun v103 bo so G104 e105 B106 h107 => ?_)
   obtain ⟨a108, k109, a110, k111, rfl, rfl, rfl, s112, s113⟩ := h107
   refine .gn 3 ?_
   refine .alloc .ro ty215 rfl (fun b114 hb114 => ?_)
   refine .store 0 [_, _] [_, _] .ro rfl rfl rfl ty215 rfl rfl rfl rfl (.go 8 ?_)
   refine .cH r102 (fun c115 r116 => ?_) (fun c115 r117 => ?_)
   ·refine .go 6 ?_
    refine .own_nil 22 1 (.own_nil 3 1 ?_)
    cases r116
    refine .drop 2 0 [] _ rfl rfl (.pullS 1 rfl [_, _, _, _] rfl (.pullS 3 rfl [_, _, _, _] rfl (.pullS 3 rfl [_, _, _, _] rfl (.drop 0 2 _ [_, _] rfl rfl ?_))))
    refine .rW 0 [.tmp 6, .tmp 7, .tmp 8] [_, _, _] Tryz.func85 Tryz.results85 ⟨RV.tmp rfl, RV.tmp rfl, RV.tmp rfl, trivial⟩ B106 hS0 (fun G' hg => ⟨none, 0, [], none, 0, [], rfl, rfl, rfl, (OL.mono hg (OL.nil (Rp' := (Rep.sl ri)))), (OL.mono hg (OL.nil (Rp' := ri)))⟩)
   ·refine .go 1 ?_
    refine .drawL (.q 0 (.q 1 (.q 2 (.q 5 (.q 6 (.q 7 (.e 3 1 (.e 4 1 (.e 8 1 (.q 9 (.q 10 .nil))))))))))) [_, _] (by kernel_rfl) (by kernel_rfl) (pick_mem [0, 1] rfl) (.go 6 ?_)
    refine .lit [_] [(0, _)] .d1 sl51 ty22 rfl rfl rfl rfl rfl rfl (fun b118 hb118 => ?_)
    have o119 : OL (Rep.sl ri) G104 [.slice a108 u101.1.1.length k109] ([u101.1.1] : List (List Int)) := ((OL.cons rfl (Rep.slI s112) (OL.nil (Rp' := (Rep.sl ri)))) :)
    refine .reval 30 (n' := ([u101.1.1] : List (List Int)).length) rfl rfl (.clsL (HpLe.refl _) (pick_mem [0, 1] rfl) ?_)
    obtain ⟨u120, hu120, r121⟩ := bind_some r117
    refine .appO (Q := (Rep.sl ri)) 0 .d1 sl51 ty22 rfl rfl rfl rfl rfl rfl (OL.mono e105 o92) o119 rfl rfl rfl B106 hu120 rfl (fun a122 k123 cs124 o125 => ?_)
    refine .clsL (HpLe.refl _) (pick_mem [0, 1] rfl) ?_
    obtain ⟨u126, hu126, r127⟩ := bind_some r121
    refine .appR (Q := ri) 1 .d1 sl22 ty3 rfl rfl rfl rfl rfl (OL.mono e105 o93) rfl rfl s113 rfl mcs hu126 rfl (fun a128 k131 cs132 o133 => ?_)
    refine .clsL (HpLe.refl _) (pick_mem [0, 1] rfl) (.go 8 ?_)
    refine .drop 1 0 [_] _ rfl rfl ?_
    exact (hb76 _ _ ⟨m95, G104, u120, a122, k123, cs124, u126, a128, k131, cs132, (w64 (v89 + 1)), rfl, rfl, (HpLe.trans e90 e105), B106, o125, o133, r127⟩ (Nat.lt_succ_self _)).ar
  ·refine .exit rfl ?_
   exact (hb75 _ ⟨G78, v79, a80, k81, cs82, v83, a84, k87, cs88, x0_0, x0_1, rfl, e90, B91, o92, o93, r99⟩).ar
theorem columns_Coefficient_c {x0 : List Int} {x1 : Int} {r : Int} (hG : G ∈ Fs) (s0 : SlR ri G a0 k0 x0) (h : columns_Coefficient x0 x1 = some r) : RetS Tryz.prog 114 #[.slice a0 x0.length k0, .int .i64 x1] Fs [] [] (rv (.int .i64 r)) := by
 unfold columns_Coefficient at h
 try dsimp only at h
 refine RetS.st [(0, _), (1, _)] Tryz.func114 Tryz.ntmps114 hG fun w0 S0 hS0 B0 => ?_
 refine .go 12 ?_
 refine .cH h (fun c1 r2 => ?_) (fun c1 r8 => ?_)
 ·refine .go 4 ?_
  obtain ⟨u3, hu3, r4⟩ := bind_some r2
  obtain ⟨c5, p6, h7⟩ := SlR.get s0 hu3
  obtain rfl := h7
  refine .q .ro (.idxR s0 rfl rfl hu3 sl22 ty3.sz) rfl (.q .ro (.load_rp p6 mcs rfl ty3 rfl) rfl (.go 2 ?_))
  cases r4
  refine .rS [.tmp 4] [_] Tryz.func114 Tryz.results114 ⟨rfl, rfl, rfl⟩
 ·refine .go 5 ?_
  cases r8
  refine .rS [.tmp 4] [_] Tryz.func114 Tryz.results114 ⟨rfl, rfl, rfl⟩
theorem curve_Decode_c {x0_0 : Int} {x1_0 : Int} {x1_1 : Int} {x2 : Int} {x3 : List (Bool × (List Int))} {r : (((List Int) × (List Int)) × Int)} (hG : G ∈ Fs) (hg0 : Rp G (.pointer (some ⟨0, 0, none⟩)) [ifc233 (some 12)]) (s3 : SlR (Rep.pair Rep.bool (Rep.sl ri)) G a3 k3 x3) (h : curve_Decode x0_0 (x1_0, x1_1) x2 x3 = some r) : RetW Tryz.prog 50 #[.agg #[.int .i64 x0_0], .agg #[.int .i64 x1_0, .int .i64 x1_1], .int .i64 x2, .slice a3 x3.length k3] Fs [] [] (fun v bo so G => ∃ a0 : Option Addr, ∃ k0 : Nat, ∃ a1 : Option Addr, ∃ k1 : Nat, v = .tuple #[.agg #[.slice a0 r.1.1.length k0, .slice a1 r.1.2.length k1], .int .i64 r.2] ∧ bo = [] ∧ so = [] ∧ SlR ri G a0 k0 r.1.1 ∧ SlR ri G a1 k1 r.1.2) := by
 unfold curve_Decode at h
 try dsimp only at h
 refine RetW.st [(0, _), (1, _), (2, _), (3, _)] Tryz.func50 Tryz.ntmps50 hG fun w0 S0 hS0 B0 => ?_
 refine .go 2 ?_
 refine .box [_] .ro rfl rfl rfl (fun b1 hb1 => ?_)
 refine .box [_, _] .ro rfl rfl rfl (fun b2 hb2 => ?_)
 refine .alloc .ro ty65 rfl (fun b3 hb3 => ?_)
 refine .go 5 ?_
 refine .q .ro (.load_own_a 2 [_] rfl rfl ty45 rfl) rfl (.q .ro (.load_own_a 1 [_, _] rfl rfl ty69 rfl) rfl ?_)
 obtain ⟨u4, hu4, r5⟩ := bind_some h
 refine .cV [_, _] Tryz.call113 (curve_Check_c mcs  hu4) ?_
 refine .go 7 ?_
 refine .cH r5 (fun c8 r9 => ?_) (fun c8 r10 => ?_)
 ·refine .go 2 ?_
  refine .q .ro (.build [_, _] [] ty65 pl65 rfl rfl) rfl (.go 1 ?_)
  refine .store 0 [_, _] [_, _, _] .ro rfl rfl rfl ty65 rfl rfl rfl rfl (.go 2 ?_)
  cases r9
  refine .rW 3 [.cell 8 65, .tmp 9] [_, _] Tryz.func50 Tryz.results50 ⟨RV.cell_a 0 [_, _] rfl rfl ty65 rfl, RV.tmp rfl, trivial⟩ B0 hS0 (fun G' hg => ⟨none, 0, none, 0, rfl, rfl, rfl, (SlR.mono hg (SlR.nil (Rp' := ri))), (SlR.mono hg (SlR.nil (Rp' := ri)))⟩)
 ·refine .go 4 ?_
  refine .q .ro (.load_own_a 2 [_] rfl rfl ty45 rfl) rfl (.go 7 ?_)
  obtain ⟨u11, hu11, r12⟩ := bind_some r10
  refine .cV [_, _, _, _, _] Tryz.call84 (columns_Check_c mcs s3 hu11) ?_
  refine .go 7 ?_
  refine .cH r12 (fun c15 r16 => ?_) (fun c15 r17 => ?_)
  ·refine .go 2 ?_
   refine .q .ro (.build [_, _] [] ty65 pl65 rfl rfl) rfl (.go 1 ?_)
   refine .store 0 [_, _] [_, _, _] .ro rfl rfl rfl ty65 rfl rfl rfl rfl (.go 2 ?_)
   cases r16
   refine .rW 3 [.cell 8 65, .tmp 9] [_, _] Tryz.func50 Tryz.results50 ⟨RV.cell_a 0 [_, _] rfl rfl ty65 rfl, RV.tmp rfl, trivial⟩ B0 hS0 (fun G' hg => ⟨none, 0, none, 0, rfl, rfl, rfl, (SlR.mono hg (SlR.nil (Rp' := ri))), (SlR.mono hg (SlR.nil (Rp' := ri)))⟩)
  ·refine .go 3 ?_
   refine .q .ro (.load_own_a 2 [_] rfl rfl ty45 rfl) rfl (.go 4 ?_)
   refine .q .ro (.build [_, _, _] [(0, _), (1, _), (2, _)] ty162 pl162 rfl rfl) rfl ?_
   refine .alloc .ro ty162 rfl (fun b18 hb18 => ?_)
   refine .store 0 [_, _, _] [_, _, _, _] .ro rfl rfl rfl ty162 rfl rfl rfl rfl (.go 3 ?_)
   refine .q .ro (.load_own_a 0 [_, _, _] rfl rfl ty162 rfl) rfl (.go 1 ?_)
   obtain ⟨u19, hu19, r20⟩ := bind_some r17
   refine .cW [_, _, _] Tryz.call85 (columns_Columns_All_c mcs hg0 s3 hu19) B0 (fun v22 bo so G23 e24 B25 h21 => ?_)
   obtain ⟨a28, k29, cs30, a33, k34, cs35, rfl, rfl, rfl, o31, o36⟩ := h21
   refine .gn 14 ?_
   refine .cH r20 (fun c37 r38 => ?_) (fun c37 r39 => ?_)
   ·refine .go 2 ?_
    refine .q .ro (.build [_, _] [] ty65 pl65 rfl rfl) rfl (.go 1 ?_)
    refine .store 1 [_, _] [_, _, _, _] .ro rfl rfl rfl ty65 rfl rfl rfl rfl (.go 2 ?_)
    cases r38
    refine .drop 0 2 _ [] rfl rfl ?_
    refine .rW 4 [.cell 8 65, .tmp 9] [_, _] Tryz.func50 Tryz.results50 ⟨RV.cell_a 1 [_, _] rfl rfl ty65 rfl, RV.tmp rfl, trivial⟩ B25 hS0 (fun G' hg => ⟨none, 0, none, 0, rfl, rfl, rfl, (SlR.mono hg (SlR.nil (Rp' := ri))), (SlR.mono hg (SlR.nil (Rp' := ri)))⟩)
   ·refine .go 4 ?_
    refine .q .ro (.build [_, _] [(1, _)] ty65 pl65 rfl rfl) rfl ?_
    refine .alloc .ro ty65 rfl (fun b40 hb40 => ?_)
    refine .store 0 [_, _] [_, _, _, _, _] .ro rfl rfl rfl ty65 rfl rfl rfl rfl (.go 8 ?_)
    refine .kB (fun y => ∃ (Z0 : List Int) (Z1 : _) (Z2 : Nat) (Z3 Z4 Z5 Z6 Z7 Z8 : _), y = ⟨[], G23 :: Fs, [(b40, .cells #[.slice Z1 Z0.length Z2, .slice a33 u19.2.1.length k34] 65 (0, 0)), (b18, .cells #[.int .i64 Z4, .int .i64 Z5, .slice a3 x3.length k3] 162 (0, 0)), (b2, .cells #[.int .i64 Z6, .int .i64 Z7] 69 (0, 0)), (b1, .cells #[.int .i64 Z8] 45 (0, 0))], [.s (.slice Z1 Z0.length Z2) 3 1 Z0.length Z3]⟩ ∧ OL ri G23 Z3 Z0 ∧ (curve_Decode_J1 u19.2.1) Z0 Z4 Z5 Z6 Z7 Z8 = some r) [(8, _), (16, _)] [_] [2] [_, _] [0, 1] ?_ ?_
    ·rintro _ ⟨v13, a14, k26, cs27, v32, v41, v42, v43, v44, rfl, o46, r47⟩
     refine .gn 0 ?_
     unfold curve_Decode_J1 at r47
     try dsimp only at r47
     refine .go 2 ?_
     refine .q .ro (.load_own_a 0 [_, _] rfl rfl ty65 rfl) rfl (.store 4 [_, _] [_, _, _, _, _] .ro rfl rfl rfl ty65 rfl rfl rfl rfl (.go 2 ?_))
     refine .freezeR 0 rfl rfl o46 [_, _] rfl B25 (fun G48 e49 B52 s53 => ?_)
     refine .freezeR 1 rfl rfl (OL.mono e49 o36) [_] rfl B52 (fun G54 e55 B56 s57 => ?_)
     cases r47
     refine .drop 0 1 _ [] rfl rfl ?_
     refine .rW 5 [.cell 8 65, .tmp 9] [_, _] Tryz.func50 Tryz.results50 ⟨RV.cell_a 4 [_, _] rfl rfl ty65 rfl, RV.tmp rfl, trivial⟩ B56 hS0 (fun G' hg => ⟨a14, k26, a33, k34, rfl, rfl, rfl, (SlR.mono hg (SlR.mono e55 s53)), (SlR.mono hg s57)⟩)
    ·intro hb58
     refine .block (.own_nil 3 1 ?_)
     refine .lp (fun y m => ∃ (Z0 : Nat) (Z1 : List (List Int)) (Z2 : List Int) (Z3 : _) (Z4 : Nat) (Z5 : _), y = ⟨[(60, .int .i64 (Z0 : Int))], [], [(b40, .cells #[.slice Z3 Z2.length Z4, .slice a33 u19.2.1.length k34] 65 (0, 0))], [.s (.slice Z3 Z2.length Z4) 3 1 Z2.length Z5]⟩ ∧ Z1.length = m ∧ OL ri G23 Z5 Z2 ∧ List.drop Z0 u19.1 = Z1 ∧ curve_Decode_L2 (curve_Decode_J1 u19.2.1) x0_0 (w64 (x1_1 + 1)) x1_0 x1_1 Z1 Z2 = some r) [(8, _), (16, _), (58, _), (59, _)] [_, _, _, _] [_, _] ⟨0, u19.1, ([] : List Int), none, 0, [], rfl, rfl, (OL.nil (Rp' := ri)), rfl, r39⟩ (fun y m hI hb59 => ?_)
     obtain ⟨i60, w61, v62, a63, k66, cs67, rfl, rfl, o68, g70, r71⟩ := hI
     refine .gn 0 ?_
     cases w61 with
     | nil =>
      rw [curve_Decode_L2] at r71; try dsimp only at r71
      refine .go 5 ?_
      refine .cond_dec rfl (fun c => absurd c (drop_nil g70)) (fun _ => ?_)
      refine .exit rfl (.pull 2 rfl [_, _, _, _, _] rfl (.pull 4 rfl [_, _, _, _, _] rfl (.pull 4 rfl [_, _, _, _, _] rfl (.pull 4 rfl [_, _, _, _, _] rfl (.pull 4 rfl [_, _, _, _, _] rfl ?_)))))
      exact (hb58 _ ⟨v62, a63, k66, cs67, x0_0, (w64 (x1_1 + 1)), x1_0, x1_1, x0_0, rfl, o68, r71⟩).ar
     | cons x72 xs73 =>
      have r74 : curve_Decode_B2 (curve_Decode_J1 u19.2.1) x0_0 (w64 (x1_1 + 1)) x1_0 x1_1 (curve_Decode_L2 (curve_Decode_J1 u19.2.1) x0_0 (w64 (x1_1 + 1)) x1_0 x1_1 xs73) x72 v62 = some r := r71; clear r71; unfold curve_Decode_B2 at r74; try dsimp only at r74
      refine .go 5 ?_
      refine .cond_dec rfl (fun _ => ?_) (fun c => absurd (drop_lt g70) c)
      refine .go 2 ?_
      refine .block (.go 2 ?_)
      obtain ⟨c75, p76, h77⟩ := OL.get o31 (drop_idx g70)
      obtain ⟨a78, k79, rfl, s80⟩ := h77
      refine .q .ro (.idxO 1 rfl rfl rfl (drop_idx g70) sl51 ty22.sz) rfl (.q .ro (.loadO 1 0 rfl (drop_idx g70) p76 rfl (.inl ⟨rfl, rfl⟩) ty22 rfl) rfl (.go 2 ?_))
      refine .drawL (.q 0 (.q 1 (.q 2 (.e 3 1 (.e 4 1 (.e 5 1 (.q 6 (.e 7 2 .nil)))))))) [_, _, _, _, _] (by kernel_rfl) (by kernel_rfl) (pick_mem [0, 1, 2, 3, 4] rfl) (.go 3 ?_)
      obtain ⟨u81, hu81, r82⟩ := bind_some r74
      refine .cVd [_, _] Tryz.call114 (columns_Coefficient_c mcs s80 hu81) ?_
      refine .clsL (HpLe.refl _) (pick_mem [0, 1, 2, 3, 4] rfl) ?_
      refine .lit [_] [(0, _)] .d1 sl22 ty3 rfl rfl rfl rfl rfl rfl (fun b83 hb83 => ?_)
      have o86 : OL ri G23 [.int .i64 u81] ([u81] : List Int) := ((OL.cons rfl (Rep.intI .i64 u81) (OL.nil (Rp' := ri))) :)
      refine .reval 68 (n' := ([u81] : List Int).length) rfl rfl (.clsL (HpLe.refl _) (pick_mem [0, 1, 2, 3, 4] rfl) ?_)
      obtain ⟨u87, hu87, r88⟩ := bind_some r82
      refine .appO (Q := ri) 0 .d1 sl22 ty3 rfl rfl rfl rfl rfl rfl o68 o86 rfl rfl rfl B25 hu87 rfl (fun a89 k90 cs91 o92 => ?_)
      refine .clsL (HpLe.refl _) (pick_mem [0, 1, 2, 3, 4] rfl) (.go 1 ?_)
      refine .store 0 [_, _] [_, _, _, _, _] .d2 rfl rfl rfl ty22 rfl rfl rfl rfl (.go 6 ?_)
      exact (hb59 _ _ ⟨(i60 + 1), xs73, u87, a89, k90, cs91, rfl, rfl, o92, (drop_succ g70), r88⟩ (Nat.lt_succ_self _)).ax ⟨(congrArg (fun z => some (Value.int .i64 z)) (idx_wrap (OL.len' o31) g70)), rfl, rfl, rfl, rfl, trivial⟩
theorem top_awake_c  {r : Bool} (hG : G ∈ Fs) (hg0 : Rp G (.pointer (some ⟨0, 0, none⟩)) [ifc233 (some 12)]) (h : top_awake = some r) : RetS Tryz.prog 7 #[] Fs [] [] (rv (.bool r)) := by
 unfold top_awake at h
 try dsimp only at h
 refine RetS.st [] Tryz.func7 Tryz.ntmps7 hG fun w0 S0 hS0 B0 => ?_
 refine .go 6 ?_
 refine .q .ro (.build [_] [(0, _)] ty45 pl45 rfl rfl) rfl ?_
 refine .alloc .ro ty45 rfl (fun b1 hb1 => ?_)
 refine .store 0 [_] [_] .ro rfl rfl rfl ty45 rfl rfl rfl rfl (.go 3 ?_)
 refine .q .ro (.build [_, _] [(0, _), (1, _)] ty69 pl69 rfl rfl) rfl ?_
 refine .alloc .ro ty69 rfl (fun b2 hb2 => ?_)
 refine .store 0 [_, _] [_, _] .ro rfl rfl rfl ty69 rfl rfl rfl rfl (.go 3 ?_)
 refine .lit [_, _] [(0, _), (1, _)] .ro sl22 ty3 rfl rfl rfl rfl rfl rfl (fun b3 hb3 => ?_)
 have o4 : OL ri G [.int .i64 1, .int .i64 2] ([1, 2] : List Int) := ((OL.cons rfl (Rep.intI .i64 1) (OL.cons rfl (Rep.intI .i64 2) (OL.nil (Rp' := ri)))) :)
 refine .reval 15 (n' := ([1, 2] : List Int).length) rfl rfl ?_
 refine .lit [_, _] [(0, _), (1, _)] .ro sl22 ty3 rfl rfl rfl rfl rfl rfl (fun b6 hb6 => ?_)
 have o7 : OL ri G [.int .i64 3, .int .i64 4] ([3, 4] : List Int) := ((OL.cons rfl (Rep.intI .i64 3) (OL.cons rfl (Rep.intI .i64 4) (OL.nil (Rp' := ri)))) :)
 refine .reval 16 (n' := ([3, 4] : List Int).length) rfl rfl ?_
 refine .freezeR 1 rfl rfl o4 [_] rfl B0 (fun G9 e10 B11 s12 => ?_)
 refine .freezeR 0 rfl rfl (OL.mono e10 o7) [] rfl B11 (fun G14 e15 B16 s17 => ?_)
 refine .lit [_, _] [(0, _), (1, _)] .ro sl51 ty22 rfl rfl rfl rfl rfl rfl (fun b19 hb19 => ?_)
 have o20 : OL (Rep.sl ri) G14 [.slice (some ⟨b3, 0, none⟩) ([1, 2] : List Int).length 2, .slice (some ⟨b6, 0, none⟩) ([3, 4] : List Int).length 2] ([([1, 2] : List Int), ([3, 4] : List Int)] : List (List Int)) := ((OL.cons rfl (Rep.slI (SlR.mono e15 s12)) (OL.cons rfl (Rep.slI s17) (OL.nil (Rp' := (Rep.sl ri))))) :)
 refine .reval 17 (n' := ([([1, 2] : List Int), ([3, 4] : List Int)] : List (List Int)).length) rfl rfl (.go 4 ?_)
 refine .q .ro (.load_own_a 1 [_] rfl rfl ty45 rfl) rfl (.q .ro (.load_own_a 0 [_, _] rfl rfl ty69 rfl) rfl ?_)
 refine .lit [_, _] [(0, _), (1, _)] .ro sl22 ty3 rfl rfl rfl rfl rfl rfl (fun b22 hb22 => ?_)
 have o23 : OL ri G14 [.int .i64 4, .int .i64 2] ([4, 2] : List Int) := ((OL.cons rfl (Rep.intI .i64 4) (OL.cons rfl (Rep.intI .i64 2) (OL.nil (Rp' := ri)))) :)
 refine .reval 21 (n' := ([4, 2] : List Int).length) rfl rfl (.q .ro (.build [_, _] [(0, _)] ty56 pl56 rfl rfl) rfl ?_)
 refine .freezeR 0 rfl rfl o23 [_] rfl B16 (fun G25 e26 B27 s28 => ?_)
 obtain ⟨u30, hu30, r31⟩ := bind_some h
 refine .cW [_, _, _, _, _] Tryz.call49 (curve_Queries_c mcs s28 hu30) B27 (fun v33 bo so G34 e35 B36 h32 => ?_)
 obtain ⟨a38, k39, a41, k42, rfl, rfl, rfl, s40, s43⟩ := h32
 refine .gn 4 ?_
 refine .alloc .ro ty56 rfl (fun b44 hb44 => ?_)
 refine .go 1 ?_
 refine .store 0 [_, _] [_, _, _] .ro rfl rfl rfl ty56 rfl rfl rfl rfl (.go 8 ?_)
 refine .kR (fun y => y = ⟨[(33, .bool (decide ((u30.2.2 ≠ 0) ∨ ((u30.1.length : Int) ≠ 3))))], G34 :: Fs, [], []⟩) [(1, _), (2, _), (3, _), (4, _)] [_, _, _] [0, 1, 2] [_] [0] 4 ?_ ?_
 ·rintro _ rfl
  refine .gn 1 ?_
  refine .cH r31 (fun c49 r50 => ?_) (fun c49 r51 => ?_)
  ·refine .go 4 ?_
   cases r50
   refine .drop 3 0 [] _ rfl rfl (.drop 0 1 _ [] rfl rfl ?_)
   refine .rS [.tmp 0] [_] Tryz.func7 Tryz.results7 ⟨rfl, rfl, rfl⟩
  ·refine .go 2 ?_
   refine .freezeR 0 rfl rfl (OL.mono (HpLe.trans e26 e35) o20) [] rfl B36 (fun G57 e58 B59 s60 => ?_)
   refine .drawL (.q 0 (.q 1 (.q 2 (.q 3 (.q 4 (.e 5 1 (.q 6 (.q 7 (.q 8 (.q 9 (.q 10 .nil))))))))))) [_, _, _] (by kernel_rfl) (by kernel_rfl) (pick_mem [0, 1, 2] rfl) (.dq (.load_own_a 2 [_] rfl rfl ty45 rfl) rfl (.go 2 ?_))
   obtain ⟨u62, hu62, r63⟩ := bind_some r51
   obtain ⟨c64, p65, h66⟩ := SlR.get (SlR.mono e58 s40) hu62
   obtain ⟨a67, k68, rfl, s69⟩ := h66
   refine .dq (.idxR (SlR.mono e58 s40) rfl rfl hu62 sl51 ty22.sz) rfl (.dq (.load_rp p65 mcs rfl ty22 rfl) rfl ?_)
   obtain ⟨u70, hu70, r71⟩ := bind_some r63
   refine .cSd [_, _, _, _] Tryz.call23 (parity_Answer_c mcs s60 s69 hu70) (fun v73 bo so h72 => ?_)
   obtain ⟨a75, k76, cs77, rfl, rfl, rfl, o78⟩ := h72
   refine .gn 0 ?_
   refine .clsL (HpLe.refl _) (pick_mem [0, 1, 2] rfl) (.go 7 ?_)
   refine .drawL (.q 0 (.q 1 (.q 2 (.q 3 (.q 4 (.e 5 1 (.q 6 (.q 7 (.q 8 (.q 9 (.q 10 .nil))))))))))) [_, _, _] (by kernel_rfl) (by kernel_rfl) (pick_mem [0, 1, 2] rfl) (.dq (.load_own_a 2 [_] rfl rfl ty45 rfl) rfl (.go 2 ?_))
   obtain ⟨u79, hu79, r80⟩ := bind_some r71
   obtain ⟨c81, p82, h83⟩ := SlR.get (SlR.mono e58 s40) hu79
   obtain ⟨a84, k85, rfl, s86⟩ := h83
   refine .dq (.idxR (SlR.mono e58 s40) rfl rfl hu79 sl51 ty22.sz) rfl (.dq (.load_rp p82 mcs rfl ty22 rfl) rfl ?_)
   obtain ⟨u87, hu87, r88⟩ := bind_some r80
   refine .cSd [_, _, _, _] Tryz.call23 (parity_Answer_c mcs s60 s86 hu87) (fun v90 bo so h89 => ?_)
   obtain ⟨a92, k93, cs94, rfl, rfl, rfl, o95⟩ := h89
   refine .gn 0 ?_
   refine .clsL (HpLe.refl _) (pick_mem [0, 1, 2] rfl) (.go 8 ?_)
   refine .q .ro (.load_own_a 2 [_] rfl rfl ty45 rfl) rfl (.q .ro (.load_own_a 1 [_, _] rfl rfl ty69 rfl) rfl (.go 1 ?_))
   refine .q .ro (.build [_, _] [(0, _), (1, _)] ty63 pl63 rfl rfl) rfl (.q .ro (.build [_, _] [] ty63 pl63 rfl rfl) rfl (.go 1 ?_))
   refine .q .ro (.build [_, _] [(0, _), (1, _)] ty63 pl63 rfl rfl) rfl ?_
   refine .freezeR 1 rfl rfl o78 [_] rfl B59 (fun G96 e97 B98 s99 => ?_)
   refine .freezeR 0 rfl rfl (OL.mono e97 o95) [] rfl B98 (fun G13 e18 B21 s24 => ?_)
   refine .lit [_, _, _, _, _, _] [(0, _), (1, _), (2, _)] .ro sl60 ty63 rfl rfl rfl rfl rfl rfl (fun b29 hb29 => ?_)
   have o37 : OL (Rep.pair Rep.bool (Rep.sl ri)) G13 [.bool true, .slice a75 u70.1.length k76, .bool false, .slice none 0 0, .bool true, .slice a92 u87.1.length k93] ([(true, u70.1), (false, ([] : List Int)), (true, u87.1)] : List (Bool × (List Int))) := ((OL.cons rfl (Rep.pairI (Rep.boolI true) (Rep.slI (SlR.mono e18 s99))) (OL.cons rfl (Rep.pairI (Rep.boolI false) (Rep.slI (SlR.nil (Rp' := ri)))) (OL.cons rfl (Rep.pairI (Rep.boolI true) (Rep.slI s24)) (OL.nil (Rp' := (Rep.pair Rep.bool (Rep.sl ri))))))) :)
   refine .reval 60 (n' := ([(true, u70.1), (false, ([] : List Int)), (true, u87.1)] : List (Bool × (List Int))).length) rfl rfl ?_
   refine .freezeR 0 rfl rfl o37 [] rfl B21 (fun G47 e48 B52 s53 => ?_)
   obtain ⟨u54, hu54, r55⟩ := bind_some r88
   refine .cW [_, _, _, _] Tryz.call50 (curve_Decode_c mcs (Rp.mono (HpLe.trans (HpLe.trans (HpLe.trans (HpLe.trans (HpLe.trans (HpLe.trans (HpLe.trans e10 e15) e26) e35) e58) e97) e18) e48) hg0) s53 hu54) B52 (fun v61 bo so G74 e91 B100 h101 => ?_)
   obtain ⟨a102, k103, a104, k105, rfl, rfl, rfl, s106, s107⟩ := h101
   refine .gn 3 ?_
   refine .alloc .ro ty65 rfl (fun b108 hb108 => ?_)
   refine .store 0 [_, _] [_, _, _, _] .ro rfl rfl rfl ty65 rfl rfl rfl rfl (.go 7 ?_)
   refine .kR (fun y => y = ⟨[(69, .bool (decide ((u70.2 = 0) ∧ (u87.2 = 0))))], G74 :: Fs, [], []⟩) [(11, _), (12, _)] [_, _, _, _] [0, 1, 2, 3] [] [] 3 ?_ ?_
   ·rintro _ rfl
    refine .gn 1 ?_
    refine .kR (fun y => y = ⟨[(73, .bool (decide (((u70.2 = 0) ∧ (u87.2 = 0)) ∧ (u54.2 = 0))))], G74 :: Fs, [], []⟩) [(11, _)] [_, _, _, _] [0, 1, 2, 3] [] [] 3 ?_ ?_
    ·rintro _ rfl
     refine .gn 1 ?_
     obtain ⟨u109, h110, r111⟩ := bind_some r55
     refine .cutR 5 (β := Hp) (fun y => [(79, .bool u109)]) [] (fun y => y :: Fs) (fun y => []) [_, _, _, _] (fun y => []) [] (fun y => HpLe G74 y ∧ Bd w0 S0 Fs y) trivial [0, 1, 2, 3] rfl [] rfl ?_ ?_
     ·rintro G112 ⟨e113, B114⟩
      refine .gn 2 ?_
      cases r111
      refine .drop 4 0 [] _ rfl rfl ?_
      refine .rS [.tmp 0] [_] Tryz.func7 Tryz.results7 ⟨rfl, rfl, rfl⟩
     ·intro hb115
      refine .split 74 rfl (fun c116 => ?_) (fun c116 => ?_)
      ·have r117 := ifT h110 c116
       refine .go 5 ?_
       refine .lit [_, _] [(0, _), (1, _)] .ro sl22 ty3 rfl rfl rfl rfl rfl rfl (fun b118 hb118 => ?_)
       have o119 : OL ri G74 [.int .i64 3, .int .i64 4] ([3, 4] : List Int) := ((OL.cons rfl (Rep.intI .i64 3) (OL.cons rfl (Rep.intI .i64 4) (OL.nil (Rp' := ri)))) :)
       refine .reval 77 (n' := ([3, 4] : List Int).length) rfl rfl (.go 1 ?_)
       refine .freezeR 0 rfl rfl o119 [] rfl B100 (fun G120 e121 B122 s123 => ?_)
       obtain ⟨u124, hu124, r125⟩ := bind_some r117
       refine .cV [_, _] Tryz.call31 (ref04_Same_c mcs (SlR.mono e121 s106) s123 hu124) ?_
       refine .go 1 ?_
       exact .arr (hb115 G120 ⟨e121, B122⟩) ⟨sval r125, trivial⟩
      ·have r126 := ifF h110 c116
       refine .go 5 ?_
       exact .arr (hb115 G74 ⟨(HpLe.refl _), B100⟩) ⟨sval r126, trivial⟩
    ·intro hb127
     refine .split 70 rfl (fun c128 => ?_) (fun c128 => ?_)
     ·refine .go 5 ?_
      exact (hb127 _ rfl).ax ⟨dand_t c128, rfl, trivial⟩
     ·refine .go 3 ?_
      exact (hb127 _ rfl).ax ⟨dand_f c128, rfl, trivial⟩
   ·intro hb129
    refine .split 66 rfl (fun c130 => ?_) (fun c130 => ?_)
    ·refine .go 5 ?_
     exact (hb129 _ rfl).ax ⟨dand_t c130, rfl, rfl, trivial⟩
    ·refine .go 3 ?_
     exact (hb129 _ rfl).ax ⟨dand_f c130, rfl, rfl, trivial⟩
 ·intro hb46
  refine .split 29 rfl (fun c45 => ?_) (fun c45 => ?_)
  ·refine .go 4 ?_
   exact (hb46 _ rfl).ax ⟨dor_t c45, rfl, rfl, rfl, rfl, trivial⟩
  ·refine .go 7 ?_
   exact (hb46 _ rfl).ax ⟨dor_f c45, rfl, rfl, rfl, rfl, trivial⟩
theorem make_Few_c {x0 : List Int} {r : Bool} (hG : G ∈ Fs) (s0 : SlR ri G a0 k0 x0) (h : make_Few x0 = some r) : RetS Tryz.prog 8 #[.slice a0 x0.length k0] Fs [] [] (rv (.bool r)) := by
 unfold make_Few at h
 try dsimp only at h
 refine RetS.st [(0, _)] Tryz.func8 Tryz.ntmps8 hG fun w0 S0 hS0 B0 => ?_
 refine .go 11 ?_
 cases h
 refine .rS [.tmp 2] [_] Tryz.func8 Tryz.results8 ⟨rfl, rfl, rfl⟩
theorem make_New_c {x0 : List Int} {r : ((List Int) × Int)} (hG : G ∈ Fs) (s0 : SlR ri G a0 k0 x0) (h : make_New x0 = some r) : RetS Tryz.prog 9 #[.slice a0 x0.length k0] Fs [] [] (fun v bo so => ∃ a0 : Option Addr, ∃ k0 : Nat, ∃ b0 : Nat, v = .pointer (some ⟨b0, 0, none⟩) ∧ bo = [(b0, .cells #[.slice a0 r.1.length k0, .int .i64 r.2] 121 (0, 0))] ∧ so = [] ∧ SlR ri G a0 k0 r.1) := by
 unfold make_New at h
 try dsimp only at h
 refine RetS.st [(0, _)] Tryz.func9 Tryz.ntmps9 hG fun w0 S0 hS0 B0 => ?_
 refine .go 7 ?_
 refine .q .ro (.build [_, _] [(0, _)] ty121 pl121 rfl rfl) rfl ?_
 refine .box [_, _] .ro rfl rfl rfl (fun b1 hb1 => ?_)
 refine .go 2 ?_
 cases h
 refine .rS [.tmp 2] [_] Tryz.func9 Tryz.results9 ⟨a0, k0, _, rfl, rfl, rfl, s0⟩
theorem make_Mod_c {x0 : Int} {x1 : Int} {r : Int} (hG : G ∈ Fs)  (h : make_Mod x0 x1 = some r) : RetS Tryz.prog 62 #[.int .i64 x0, .int .i64 x1] Fs [] [] (rv (.int .i64 r)) := by
 unfold make_Mod at h
 try dsimp only at h
 refine RetS.st [(0, _), (1, _)] Tryz.func62 Tryz.ntmps62 hG fun w0 S0 hS0 B0 => ?_
 refine .go 8 ?_
 obtain ⟨u1, hu1, r2⟩ := bind_some h
 refine .q .ro (.remt rfl rfl (nz_some hu1)) rfl (.go 3 ?_)
 obtain ⟨u3, hu3, r4⟩ := bind_some r2
 refine .q .ro (.remt rfl rfl (nz_some hu3)) rfl (.go 2 ?_)
 cases r4
 refine .rS [.tmp 4] [_] Tryz.func62 Tryz.results62 ⟨rfl, rfl, rfl⟩
theorem make_Deck_Next_c {x0_0 : List Int} {x0_1 : Int} {x1 : Int} {r : (Int × ((List Int) × Int))} (hG : G ∈ Fs) (s0_0 : SlR ri G a0_0 k0_0 x0_0) (h : make_Deck_Next (x0_0, x0_1) x1 = some r) : RetS Tryz.prog 18 #[.pointer (some ⟨p0, 0, none⟩), .int .i64 x1] Fs [(p0, .cells #[.slice a0_0 x0_0.length k0_0, .int .i64 x0_1] 121 (0, 0))] [] (fun v bo so => ∃ a0 : Option Addr, ∃ k0 : Nat, v = .int .i64 r.1 ∧ bo = [(p0, .cells #[.slice a0 r.2.1.length k0, .int .i64 r.2.2] 121 (0, 0))] ∧ so = [] ∧ SlR ri G a0 k0 r.2.1) := by
 unfold make_Deck_Next at h
 try dsimp only at h
 refine RetS.st [(0, _), (1, _)] Tryz.func18 Tryz.ntmps18 hG fun w0 S0 hS0 B0 => ?_
 refine .go 6 ?_
 refine .drawL (.q 0 (.q 1 (.q 2 (.q 3 (.q 4 (.q 5 (.q 6 (.q 7 (.q 8 (.q 9 (.q 10 (.q 11 (.q 12 (.q 13 .nil)))))))))))))) [_] (by kernel_rfl) (by kernel_rfl) (pick_mem [0] rfl) (.go 3 ?_)
 refine .kD (fun y => y = ⟨[(19, .bool (decide ((x1 < 1) ∨ ((x0_0.length : Int) ≤ x0_1))))], G :: Fs, [], []⟩) [(0, _), (1, _)] [_] [0] [] [] 11 ?_ ?_
 ·rintro _ rfl
  refine .gn 1 ?_
  refine .cH h (fun c5 r6 => ?_) (fun c5 r7 => ?_)
  ·refine .go 4 ?_
   cases r6
   refine .rS [.tmp 4] [_] Tryz.func18 Tryz.results18 ⟨a0_0, k0_0, rfl, rfl, rfl, s0_0⟩
  ·refine .go 2 ?_
   refine .drawL (.q 0 (.q 1 (.q 2 (.q 3 (.q 4 (.q 5 (.q 6 (.q 7 (.q 8 (.q 9 (.q 10 .nil))))))))))) [_] (by kernel_rfl) (by kernel_rfl) (pick_mem [0] rfl) (.go 8 ?_)
   obtain ⟨u8, hu8, r9⟩ := bind_some r7
   obtain ⟨c10, p11, h12⟩ := SlR.get s0_0 hu8
   obtain rfl := h12
   refine .dq (.idxR s0_0 rfl rfl hu8 sl22 ty3.sz) rfl (.dq (.load_rp p11 mcs rfl ty3 rfl) rfl (.go 11 ?_))
   refine .store 0 [_, _] [_] .ro rfl rfl rfl ty3 rfl rfl rfl rfl (.go 5 ?_)
   obtain ⟨u13, hu13, r14⟩ := bind_some r9
   refine .cV [_, _] Tryz.call62 (make_Mod_c mcs  hu13) ?_
   refine .go 2 ?_
   cases r14
   refine .rS [.tmp 4] [_] Tryz.func18 Tryz.results18 ⟨a0_0, k0_0, rfl, rfl, rfl, s0_0⟩
 ·intro hb2
  refine .split 8 rfl (fun c1 => ?_) (fun c1 => ?_)
  ·refine .dgq_off rfl rfl rfl ?_
   refine .dgq_off rfl rfl rfl (.dgq_off rfl rfl rfl (.dgq_off rfl rfl rfl (.dgq_off rfl rfl rfl (.dgq_off rfl rfl rfl (.dgq_off rfl rfl rfl (.dgq_off rfl rfl rfl (.dgq_off rfl rfl rfl (.dgq_off rfl rfl rfl (.go 1 ?_)))))))))
   exact (hb2 _ rfl).ax ⟨dor_t c1, rfl, rfl, trivial⟩
  ·refine .dgq_on rfl ?_
   refine .go 1 ?_
   refine .dgq_on rfl (.go 1 ?_)
   refine .dgq_on rfl (.go 1 ?_)
   refine .dgq_on rfl (.go 1 ?_)
   refine .dgq_on rfl (.go 1 ?_)
   refine .dgq_on rfl (.go 1 ?_)
   refine .dgq_on rfl (.go 1 ?_)
   refine .dgq_on rfl (.go 1 ?_)
   refine .dgq_on rfl (.go 1 ?_)
   refine .dgq_on rfl (.go 2 ?_)
   exact (hb2 _ rfl).ax ⟨dor_f c1, rfl, rfl, trivial⟩
theorem make_Big_c {x0_0 : List Int} {x0_1 : Int} {x1 : Int} {r : (Int × ((List Int) × Int))} (hG : G ∈ Fs) (s0_0 : SlR ri G a0_0 k0_0 x0_0) (h : make_Big (x0_0, x0_1) x1 = some r) : RetW Tryz.prog 61 #[.pointer (some ⟨p0, 0, none⟩), .int .i64 x1] Fs [(p0, .cells #[.slice a0_0 x0_0.length k0_0, .int .i64 x0_1] 121 (0, 0))] [] (fun v bo so G => ∃ a0 : Option Addr, ∃ k0 : Nat, v = .agg #[.int .i64 r.1] ∧ bo = [(p0, .cells #[.slice a0 r.2.1.length k0, .int .i64 r.2.2] 121 (0, 0))] ∧ so = [] ∧ SlR ri G a0 k0 r.2.1) := by
 unfold make_Big at h
 try dsimp only at h
 refine RetW.st [(0, _), (1, _)] Tryz.func61 Tryz.ntmps61 hG fun w0 S0 hS0 B0 => ?_
 refine .go 2 ?_
 refine .alloc .ro ty45 rfl (fun b1 hb1 => ?_)
 refine .go 3 ?_
 refine .lit [_, _, _, _, _, _, _, _, _] [(0, _), (1, _), (2, _), (3, _), (4, _), (5, _), (6, _), (7, _), (8, _)] .ro sl22 ty3 rfl rfl rfl rfl rfl rfl (fun b2 hb2 => ?_)
 have o3 : OL ri G [.int .i64 2, .int .i64 3, .int .i64 5, .int .i64 7, .int .i64 11, .int .i64 13, .int .i64 17, .int .i64 257, .int .i64 65521] ([2, 3, 5, 7, 11, 13, 17, 257, 65521] : List Int) := ((OL.cons rfl (Rep.intI .i64 2) (OL.cons rfl (Rep.intI .i64 3) (OL.cons rfl (Rep.intI .i64 5) (OL.cons rfl (Rep.intI .i64 7) (OL.cons rfl (Rep.intI .i64 11) (OL.cons rfl (Rep.intI .i64 13) (OL.cons rfl (Rep.intI .i64 17) (OL.cons rfl (Rep.intI .i64 257) (OL.cons rfl (Rep.intI .i64 65521) (OL.nil (Rp' := ri))))))))))) :)
 refine .reval 6 (n' := ([2, 3, 5, 7, 11, 13, 17, 257, 65521] : List Int).length) rfl rfl (.go 3 ?_)
 refine .kB (fun y => ∃ (Z0 : _) (Z1 : List Int) (Z2 : _) (Z3 : Nat) (Z4 Z5 : _), y = ⟨[(5, .slice Z2 Z1.length Z3)], Z0 :: Fs, [(b1, .cells #[.int .i64 Z4] 45 (0, 0)), (p0, .cells #[.slice a0_0 x0_0.length k0_0, .int .i64 Z5] 121 (0, 0))], []⟩ ∧ HpLe G Z0 ∧ Bd w0 S0 Fs Z0 ∧ SlR ri Z0 Z2 Z3 Z1 ∧ (make_Big_J1 x0_0) Z1 Z4 Z5 = some r) [(0, _), (4, _)] [] [] [] [] ?_ ?_
 ·rintro _ ⟨G82, v86, a87, k88, v90, v91, rfl, e83, B84, s89, r93⟩
  refine .gn 0 ?_
  unfold make_Big_J1 at r93
  try dsimp only at r93
  refine .go 6 ?_
  obtain ⟨u95, hu95, r96⟩ := bind_some r93
  refine .pull 1 rfl [_, _] rfl ?_
  refine .callS (b1 := [_]) (b2 := [_]) (s1 := []) [_, _] [] .ro rfl rfl Tryz.call18 rfl rfl (make_Deck_Next_c mcs (SlR.mono e83 s0_0) hu95) rfl (fun v98 bo so h97 => ?_)
  obtain ⟨a99, k10, rfl, rfl, rfl, s11⟩ := h97
  refine .gn 0 ?_
  obtain ⟨u12, hu12, r13⟩ := bind_some r96
  obtain ⟨c14, p15, h16⟩ := SlR.get s89 hu12
  obtain rfl := h16
  refine .q .ro (.idxR s89 rfl rfl hu12 sl22 ty3.sz) rfl (.q .ro (.load_rp p15 mcs rfl ty3 rfl) rfl (.q .ro (.build [_] [(0, _)] ty45 pl45 rfl rfl) rfl (.store 1 [_] [_, _] .ro rfl rfl rfl ty45 rfl rfl rfl rfl (.go 1 ?_))))
  cases r13
  refine .pull 1 rfl [_, _] rfl ?_
  refine .rW 1 [.cell 4 45] [_] Tryz.func61 Tryz.results61 ⟨RV.cell_a 0 [_] rfl rfl ty45 rfl, trivial⟩ B84 hS0 (fun G' hg => ⟨a99, k10, rfl, rfl, rfl, (SlR.mono hg s11)⟩)
 ·intro hb17
  refine .block ?_
  refine .freezeR 0 rfl rfl o3 [] rfl B0 (fun G19 e20 B21 s23 => ?_)
  refine .lp (fun y m => ∃ (Z0 : Nat) (Z1 : List Int) (Z2 : _) (Z3 : Nat), y = ⟨[(5, .slice Z2 Z1.length Z3)], [], [], []⟩ ∧ Z0 = m ∧ SlR ri G19 Z2 Z3 Z1 ∧ make_Big_L2 (make_Big_J1 x0_0) x1 x0_1 Z0 Z1 = some r) [(0, _), (1, _), (4, _)] [_, _] [] ⟨big, ([2, 3, 5, 7, 11, 13, 17, 257, 65521] : List Int), (some ⟨b2, 0, none⟩), 9, rfl, rfl, s23, h⟩ (fun y m hI hb24 => ?_)
  obtain ⟨n25, v26, a27, k28, rfl, rfl, s29, r30⟩ := hI
  refine .gn 0 ?_
  obtain ⟨m31, rfl⟩ : ∃ m, n25 = m + 1 := by cases n25 with | zero => exact absurd (show (none : Option _) = some _ from r30) (by simp) | succ m => exact ⟨m, rfl⟩
  have r32 : make_Big_B2 (make_Big_J1 x0_0) x1 x0_1 (make_Big_L2 (make_Big_J1 x0_0) x1 x0_1 m31) v26 = some r := r30; clear r30; unfold make_Big_B2 at r32; try dsimp only at r32
  refine .go 4 ?_
  obtain ⟨u33, hu33, r34⟩ := bind_some r32
  obtain ⟨c35, p36, h37⟩ := SlR.get s29 hu33
  obtain rfl := h37
  refine .q .ro (.idxR s29 rfl rfl hu33 sl22 ty3.sz) rfl (.q .ro (.load_rp p36 mcs rfl ty3 rfl) rfl (.go 3 ?_))
  refine .cH r34 (fun c38 r39 => ?_) (fun c38 r40 => ?_)
  ·refine .go 1 ?_
   refine .block (.go 2 ?_)
   obtain ⟨u41, hu41, r42⟩ := bind_some r39
   obtain ⟨a43, k44, h46, s47⟩ := SlR.sub s29 hu41
   refine .q .ro (.sliceR s29 rfl hu41 sl22 ty3.sz (fun h => .yes' rfl h) (fun _ => .no) h46) rfl (.go 3 ?_)
   exact (hb24 _ _ ⟨m31, u41, a43, k44, rfl, rfl, s47, r42⟩ (Nat.lt_succ_self _)).ar
  ·refine .exit rfl ?_
   exact (hb17 _ ⟨G19, v26, a27, k28, 0, x0_1, rfl, e20, B21, s29, r40⟩).ar
theorem make_Storage_c {x0_0 : List Int} {x0_1 : Int} {r : (Int × (Int × Int × Int) × ((List Int) × Int))} (hG : G ∈ Fs) (s0_0 : SlR ri G a0_0 k0_0 x0_0) (h : make_Storage (x0_0, x0_1) = some r) : RetW Tryz.prog 17 #[.pointer (some ⟨p0, 0, none⟩)] Fs [(p0, .cells #[.slice a0_0 x0_0.length k0_0, .int .i64 x0_1] 121 (0, 0))] [] (fun v bo so G => ∃ a0 : Option Addr, ∃ k0 : Nat, v = .tuple #[.agg #[.int .i64 r.1], .agg #[.int .i64 r.2.1.1, .int .i64 r.2.1.2.1, .int .i64 r.2.1.2.2]] ∧ bo = [(p0, .cells #[.slice a0 r.2.2.1.length k0, .int .i64 r.2.2.2] 121 (0, 0))] ∧ so = [] ∧ SlR ri G a0 k0 r.2.2.1) := by
 unfold make_Storage at h
 try dsimp only at h
 refine RetW.st [(0, _)] Tryz.func17 Tryz.ntmps17 hG fun w0 S0 hS0 B0 => ?_
 refine .go 2 ?_
 refine .alloc .ro ty45 rfl (fun b1 hb1 => ?_)
 refine .alloc .ro ty47 rfl (fun b2 hb2 => ?_)
 refine .go 4 ?_
 obtain ⟨u3, hu3, r4⟩ := bind_some h
 refine .pull 2 rfl [_, _, _] rfl ?_
 refine .callS (b1 := [_]) (b2 := [_, _]) (s1 := []) [_, _] [] .ro rfl rfl Tryz.call18 rfl rfl (make_Deck_Next_c mcs s0_0 hu3) rfl (fun v6 bo so h5 => ?_)
 obtain ⟨a7, k8, rfl, rfl, rfl, s9⟩ := h5
 refine .gn 2 ?_
 obtain ⟨u10, hu10, r11⟩ := bind_some r4
 refine .callS (b1 := [_]) (b2 := [_, _]) (s1 := []) [_, _] [] .ro rfl rfl Tryz.call18 rfl rfl (make_Deck_Next_c mcs s9 hu10) rfl (fun v13 bo so h12 => ?_)
 obtain ⟨a14, k15, rfl, rfl, rfl, s16⟩ := h12
 refine .gn 1 ?_
 refine .q .ro (.build [_, _, _] [(2, _), (1, _)] ty47 pl47 rfl rfl) rfl ?_
 refine .alloc .ro ty47 rfl (fun b17 hb17 => ?_)
 refine .store 0 [_, _, _] [_, _, _, _] .ro rfl rfl rfl ty47 rfl rfl rfl rfl (.go 2 ?_)
 refine .drawL (.q 0 (.q 1 (.q 2 (.q 3 (.q 4 (.q 5 (.q 6 (.q 7 (.e 8 1 (.q 9 (.q 10 (.q 11 (.e 12 2 .nil))))))))))))) [_, _, _] (by kernel_rfl) (by kernel_rfl) (pick_mem [0, 2, 3] rfl) (.go 8 ?_)
 obtain ⟨u18, hu18, r19⟩ := bind_some r11
 refine .pull 1 rfl [_, _, _, _] rfl ?_
 refine .callS (b1 := [_]) (b2 := [_, _, _]) (s1 := []) [_, _] [] .d1 rfl rfl Tryz.call18 rfl rfl (make_Deck_Next_c mcs s16 hu18) rfl (fun v21 bo so h20 => ?_)
 obtain ⟨a22, k23, rfl, rfl, rfl, s24⟩ := h20
 refine .gn 0 ?_
 refine .clsL (HpLe.refl _) (pick_mem [1, 2, 3] rfl) (.go 1 ?_)
 refine .dq (.max2 rfl rfl) rfl (.go 1 ?_)
 refine .store 1 [_, _, _] [_, _, _, _] .d2 rfl rfl rfl ty3 rfl rfl rfl rfl (.go 2 ?_)
 refine .drawL (.q 0 (.q 1 (.q 2 (.q 4 (.e 3 1 (.e 5 1 (.e 6 2 .nil))))))) [_, _] (by kernel_rfl) (by kernel_rfl) (pick_mem [1, 2] rfl) (.go 3 ?_)
 refine .dq (.load_own_a 0 [_, _, _] rfl rfl ty47 rfl) rfl ?_
 obtain ⟨u25, hu25, r26⟩ := bind_some r19
 refine .callW (b1 := [_]) (b2 := [_, _, _]) (s1 := []) [_, _] [] .d1 rfl rfl Tryz.call61 rfl rfl (make_Big_c mcs s24 hu25) rfl B0 (fun v28 bo so G29 e30 B31 h27 => ?_)
 obtain ⟨a33, k34, rfl, rfl, rfl, s35⟩ := h27
 refine .gn 0 ?_
 refine .clsL e30 (pick_mem [1, 2] rfl) (.store 3 [_] [_, _, _, _] .d1 rfl rfl rfl ty45 rfl rfl rfl rfl (.clsL e30 (pick_mem [1, 2] rfl) (.store 2 [_, _, _] [_, _, _, _] .d2 rfl rfl rfl ty47 rfl rfl rfl rfl (.go 1 ?_))))
 cases r26
 refine .pull 3 rfl [_, _, _, _] rfl (.pull 3 rfl [_, _, _, _] rfl (.pull 3 rfl [_, _, _, _] rfl ?_))
 refine .rW 3 [.cell 2 45, .cell 3 47] [_, _] Tryz.func17 Tryz.results17 ⟨RV.cell_a 2 [_] rfl rfl ty45 rfl, RV.cell_a 1 [_, _, _] rfl rfl ty47 rfl, trivial⟩ B31 hS0 (fun G' hg => ⟨a33, k34, rfl, rfl, rfl, (SlR.mono hg s35)⟩)
theorem make_Elements_c {x0_0 : List Int} {x0_1 : Int} {x1_0 : Int} {x2 : Int} {r : ((List Int) × ((List Int) × Int))} (hG : G ∈ Fs) (s0_0 : SlR ri G a0_0 k0_0 x0_0) (h : make_Elements (x0_0, x0_1) x1_0 x2 = some r) : RetS Tryz.prog 63 #[.pointer (some ⟨p0, 0, none⟩), .agg #[.int .i64 x1_0], .int .i64 x2] Fs [(p0, .cells #[.slice a0_0 x0_0.length k0_0, .int .i64 x0_1] 121 (0, 0))] [] (fun v bo so => ∃ a0 : Option Addr, ∃ k0 : Nat, ∃ (oa0 : Option Addr) (ok0 : Nat) (oc0 : List Value), v = .slice oa0 r.1.length ok0 ∧ bo = [(p0, .cells #[.slice a0 r.2.1.length k0, .int .i64 r.2.2] 121 (0, 0))] ∧ so = [.s (.slice oa0 r.1.length ok0) 3 1 r.1.length oc0] ∧ SlR ri G a0 k0 r.2.1 ∧ OL ri G oc0 r.1) := by
 unfold make_Elements at h
 try dsimp only at h
 refine RetS.st [(0, _), (1, _), (2, _)] Tryz.func63 Tryz.ntmps63 hG fun w0 S0 hS0 B0 => ?_
 refine .go 2 ?_
 refine .box [_] .ro rfl rfl rfl (fun b1 hb1 => ?_)
 refine .go 12 ?_
 refine .block (.own_nil 3 1 (.pull 1 rfl [_, _] rfl ?_))
 refine .lp (fun y m => ∃ (Z0 : Nat) (Z1 : List Int) (Z2 : _) (Z3 : Nat) (Z4 Z5 : _) (Z6 : List Int) (Z7 : _) (Z8 : Nat) (Z9 : _), y = ⟨[(7, .slice Z2 Z1.length Z3), (9, .int .i64 Z5)], [], [(p0, .cells #[.slice Z7 Z6.length Z8, .int .i64 Z9] 121 (0, 0))], [.s (.slice Z2 Z1.length Z3) 3 1 Z1.length Z4]⟩ ∧ Z0 = m ∧ OL ri G Z4 Z1 ∧ SlR ri G Z7 Z8 Z6 ∧ make_Elements_L1 x2 x1_0 Z0 Z1 Z5 Z6 Z9 = some r) [(0, _), (4, _), (8, _)] [_] [] ⟨big, ([] : List Int), none, 0, [], 0, x0_0, a0_0, k0_0, x0_1, rfl, rfl, (OL.nil (Rp' := ri)), s0_0, h⟩ (fun y m hI hb71 => ?_)
 obtain ⟨n56, v58, a59, k60, cs61, v64, v65, a66, k67, v69, rfl, rfl, o62, s68, r70⟩ := hI
 refine .gn 0 ?_
 obtain ⟨m75, rfl⟩ : ∃ m, n56 = m + 1 := by cases n56 with | zero => exact absurd (show (none : Option _) = some _ from r70) (by simp) | succ m => exact ⟨m, rfl⟩
 have r74 : make_Elements_B1 x2 x1_0 (make_Elements_L1 x2 x1_0 m75) v58 v64 v65 v69 = some r := r70; clear r70; unfold make_Elements_B1 at r74; try dsimp only at r74
 refine .go 5 ?_
 refine .cH r74 (fun c76 r77 => ?_) (fun c76 r95 => ?_)
 ·refine .go 2 ?_
  refine .block (.go 5 ?_)
  obtain ⟨u78, hu78, r79⟩ := bind_some r77
  refine .callS (b1 := [_]) (b2 := [_]) (s1 := []) [_, _] [] .ro rfl rfl Tryz.call18 rfl rfl (make_Deck_Next_c mcs s68 hu78) rfl (fun v81 bo so h80 => ?_)
  obtain ⟨a82, k83, rfl, rfl, rfl, s84⟩ := h80
  refine .gn 0 ?_
  refine .lit [_] [(0, _)] .ro sl22 ty3 rfl rfl rfl rfl rfl rfl (fun b85 hb85 => ?_)
  have o86 : OL ri G [.int .i64 u78.1] ([u78.1] : List Int) := ((OL.cons rfl (Rep.intI .i64 u78.1) (OL.nil (Rp' := ri))) :)
  refine .reval 16 (n' := ([u78.1] : List Int).length) rfl rfl ?_
  obtain ⟨u92, hu92, r93⟩ := bind_some r79
  refine .appO (Q := ri) 0 .ro sl22 ty3 rfl rfl rfl rfl rfl rfl o62 o86 rfl rfl rfl B0 hu92 rfl (fun a88 k89 cs90 o91 => ?_)
  refine .go 7 ?_
  exact (hb71 _ _ ⟨m75, u92, a88, k89, cs90, (w64 (v64 + 1)), u78.2.1, a82, k83, u78.2.2, rfl, rfl, o91, s84, r93⟩ (Nat.lt_succ_self _)).ar
 ·refine .exit rfl ?_
  refine .go 5 ?_
  cases r95
  refine .pull 1 rfl [_, _] rfl (.drop 1 0 [_] _ rfl rfl ?_)
  refine .rS [.tmp 6] [_] Tryz.func63 Tryz.results63 ⟨a66, k67, a59, k60, cs61, rfl, rfl, rfl, s68, o62⟩
theorem make_Rows_c {x0_0 : List Int} {x0_1 : Int} {x1_0 : Int} {x2 : Int} {x3 : Int} {r : ((List (List Int)) × ((List Int) × Int))} (hG : G ∈ Fs) (s0_0 : SlR ri G a0_0 k0_0 x0_0) (h : make_Rows (x0_0, x0_1) x1_0 x2 x3 = some r) : RetW Tryz.prog 19 #[.pointer (some ⟨p0, 0, none⟩), .agg #[.int .i64 x1_0], .int .i64 x2, .int .i64 x3] Fs [(p0, .cells #[.slice a0_0 x0_0.length k0_0, .int .i64 x0_1] 121 (0, 0))] [] (fun v bo so G => ∃ a0 : Option Addr, ∃ k0 : Nat, ∃ (oa0 : Option Addr) (ok0 : Nat) (oc0 : List Value), v = .slice oa0 r.1.length ok0 ∧ bo = [(p0, .cells #[.slice a0 r.2.1.length k0, .int .i64 r.2.2] 121 (0, 0))] ∧ so = [.s (.slice oa0 r.1.length ok0) 22 1 r.1.length oc0] ∧ SlR ri G a0 k0 r.2.1 ∧ OL (Rep.sl ri) G oc0 r.1) := by
 unfold make_Rows at h
 try dsimp only at h
 refine RetW.st [(0, _), (1, _), (2, _), (3, _)] Tryz.func19 Tryz.ntmps19 hG fun w0 S0 hS0 B0 => ?_
 refine .go 2 ?_
 refine .box [_] .ro rfl rfl rfl (fun b1 hb1 => ?_)
 refine .go 12 ?_
 refine .block (.own_nil 22 1 (.pull 1 rfl [_, _] rfl ?_))
 refine .lp (fun y m => ∃ (Z0 : Nat) (Z1 : _) (Z2 : List (List Int)) (Z3 : _) (Z4 : Nat) (Z5 Z6 : _) (Z7 : List Int) (Z8 : _) (Z9 : Nat) (Z10 : _), y = ⟨[(9, .slice Z3 Z2.length Z4), (11, .int .i64 Z6)], [Z1], [(p0, .cells #[.slice Z8 Z7.length Z9, .int .i64 Z10] 121 (0, 0))], [.s (.slice Z3 Z2.length Z4) 22 1 Z2.length Z5]⟩ ∧ Z0 = m ∧ HpLe G Z1 ∧ Bd w0 S0 Fs Z1 ∧ OL (Rep.sl ri) Z1 Z5 Z2 ∧ SlR ri Z1 Z8 Z9 Z7 ∧ make_Rows_L1 x3 x2 x1_0 Z0 Z2 Z6 Z7 Z10 = some r) [(0, _), (3, _), (5, _), (10, _)] [_] [] ⟨big, G, ([] : List (List Int)), none, 0, [], 0, x0_0, a0_0, k0_0, x0_1, rfl, rfl, (HpLe.refl _), B0, (OL.nil (Rp' := (Rep.sl ri))), s0_0, h⟩ (fun y m hI hb95 => ?_)
 obtain ⟨n76, G78, v82, a83, k84, cs85, v88, v89, a90, k91, v93, rfl, rfl, e79, B80, o86, s92, r94⟩ := hI
 refine .gn 0 ?_
 obtain ⟨m11, rfl⟩ : ∃ m, n76 = m + 1 := by cases n76 with | zero => exact absurd (show (none : Option _) = some _ from r94) (by simp) | succ m => exact ⟨m, rfl⟩
 have r99 : make_Rows_B1 x3 x2 x1_0 (make_Rows_L1 x3 x2 x1_0 m11) v82 v88 v89 v93 = some r := r94; clear r94; unfold make_Rows_B1 at r99; try dsimp only at r99
 refine .go 5 ?_
 refine .cH r99 (fun c12 r13 => ?_) (fun c12 r14 => ?_)
 ·refine .go 2 ?_
  refine .block (.go 3 ?_)
  refine .q .ro (.load_own_a 1 [_] rfl rfl ty45 rfl) rfl (.go 1 ?_)
  obtain ⟨u15, hu15, r16⟩ := bind_some r13
  refine .callS (b1 := [_]) (b2 := [_]) (s1 := []) [_, _, _] [] .ro rfl rfl Tryz.call63 rfl rfl (make_Elements_c mcs s92 hu15) rfl (fun v17 bo so h18 => ?_)
  obtain ⟨a20, k21, a23, k24, cs25, rfl, rfl, rfl, s26, o27⟩ := h18
  refine .gn 0 ?_
  refine .freezeR 0 rfl rfl o27 [_] rfl B80 (fun G28 e29 B30 s31 => ?_)
  refine .lit [_] [(0, _)] .ro sl51 ty22 rfl rfl rfl rfl rfl rfl (fun b32 hb32 => ?_)
  have o33 : OL (Rep.sl ri) G28 [.slice a23 u15.1.length k24] ([u15.1] : List (List Int)) := ((OL.cons rfl (Rep.slI s31) (OL.nil (Rp' := (Rep.sl ri)))) :)
  refine .reval 18 (n' := ([u15.1] : List (List Int)).length) rfl rfl ?_
  obtain ⟨u34, hu34, r35⟩ := bind_some r16
  refine .appO (Q := (Rep.sl ri)) 0 .ro sl51 ty22 rfl rfl rfl rfl rfl rfl (OL.mono e29 o86) o33 rfl rfl rfl B30 hu34 rfl (fun a36 k37 cs38 o39 => ?_)
  refine .go 7 ?_
  exact (hb95 _ _ ⟨m11, G28, u34, a36, k37, cs38, (w64 (v88 + 1)), u15.2.1, a20, k21, u15.2.2, rfl, rfl, (HpLe.trans e79 e29), B30, o39, (SlR.mono e29 s26), r35⟩ (Nat.lt_succ_self _)).ar
 ·refine .exit rfl ?_
  refine .go 5 ?_
  cases r14
  refine .pull 1 rfl [_, _] rfl (.drop 1 0 [_] _ rfl rfl ?_)
  refine .rW 0 [.tmp 8] [_] Tryz.func19 Tryz.results19 ⟨RV.tmp rfl, trivial⟩ B80 hS0 (fun G' hg => ⟨a90, k91, a83, k84, cs85, rfl, rfl, rfl, (SlR.mono hg s92), (OL.mono hg o86)⟩)
theorem parity_check_c {x0_0 : Int} {x1 : Int} {x2 : Int} {r : Int} (hG : G ∈ Fs)  (h : parity_check x0_0 x1 x2 = some r) : RetS Tryz.prog 64 #[.agg #[.int .i64 x0_0], .int .i64 x1, .int .i64 x2] Fs [] [] (rv (.int .i64 r)) := by
 unfold parity_check at h
 try dsimp only at h
 refine RetS.st [(0, _), (1, _), (2, _)] Tryz.func64 Tryz.ntmps64 hG fun w0 S0 hS0 B0 => ?_
 refine .go 2 ?_
 refine .box [_] .ro rfl rfl rfl (fun b1 hb1 => ?_)
 refine .go 5 ?_
 refine .q .ro (.load_own_a 0 [_] rfl rfl ty45 rfl) rfl ?_
 obtain ⟨u2, hu2, r3⟩ := bind_some h
 refine .cV [_] Tryz.call72 (residue_Of_c mcs  hu2) ?_
 refine .go 11 ?_
 refine .cB r3 (fun c6 r7 => ?_) (fun c6 r8 => ?_)
 ·refine .go 4 ?_
  cases r7
  refine .drop 1 0 [] _ rfl rfl ?_
  refine .rS [.tmp 6] [_] Tryz.func64 Tryz.results64 ⟨rfl, rfl, rfl⟩
 ·refine .go 7 ?_
  refine .kR (fun y => y = ⟨[(21, .bool (decide ((x2 < 2) ∨ (10 < x2))))], G :: Fs, [], []⟩) [(1, _)] [_] [0] [] [] 3 ?_ ?_
  ·rintro _ rfl
   refine .gn 1 ?_
   refine .kR (fun y => y = ⟨[(25, .bool (decide (((x2 < 2) ∨ (10 < x2)) ∨ (x1 < 1))))], G :: Fs, [], []⟩) [(1, _)] [_] [0] [] [] 3 ?_ ?_
   ·rintro _ rfl
    refine .gn 1 ?_
    refine .kR (fun y => y = ⟨[(29, .bool (decide ((((x2 < 2) ∨ (10 < x2)) ∨ (x1 < 1)) ∨ (1024 < x1))))], G :: Fs, [], []⟩) [] [_] [0] [] [] 3 ?_ ?_
    ·rintro _ rfl
     refine .gn 1 ?_
     refine .cH r8 (fun c21 r22 => ?_) (fun c21 r23 => ?_)
     ·refine .go 4 ?_
      cases r22
      refine .drop 1 0 [] _ rfl rfl ?_
      refine .rS [.tmp 6] [_] Tryz.func64 Tryz.results64 ⟨rfl, rfl, rfl⟩
     ·refine .go 5 ?_
      cases r23
      refine .drop 1 0 [] _ rfl rfl ?_
      refine .rS [.tmp 6] [_] Tryz.func64 Tryz.results64 ⟨rfl, rfl, rfl⟩
    ·intro hb18
     refine .split 26 rfl (fun c17 => ?_) (fun c17 => ?_)
     ·refine .go 3 ?_
      exact (hb18 _ rfl).ax ⟨dor_t c17, trivial⟩
     ·refine .go 5 ?_
      exact (hb18 _ rfl).ax ⟨dor_f c17, trivial⟩
   ·intro hb14
    refine .split 22 rfl (fun c13 => ?_) (fun c13 => ?_)
    ·refine .go 3 ?_
     exact (hb14 _ rfl).ax ⟨dor_t c13, rfl, trivial⟩
    ·refine .go 5 ?_
     exact (hb14 _ rfl).ax ⟨dor_f c13, rfl, trivial⟩
  ·intro hb10
   refine .split 18 rfl (fun c9 => ?_) (fun c9 => ?_)
   ·refine .go 3 ?_
    exact (hb10 _ rfl).ax ⟨dor_t c9, rfl, trivial⟩
   ·refine .go 5 ?_
    exact (hb10 _ rfl).ax ⟨dor_f c9, rfl, trivial⟩
theorem parity_Limits_c {x0_0 : Int} {x1 : Int} {x2 : Int} {r : ((List Int) × Int)} (hG : G ∈ Fs)  (h : parity_Limits x0_0 x1 x2 = some r) : RetS Tryz.prog 20 #[.agg #[.int .i64 x0_0], .int .i64 x1, .int .i64 x2] Fs [] [] (fun v bo so => ∃ (oa0 : Option Addr) (ok0 : Nat) (oc0 : List Value), v = .tuple #[.slice oa0 r.1.length ok0, .int .i64 r.2] ∧ bo = [] ∧ so = [.s (.slice oa0 r.1.length ok0) 3 1 r.1.length oc0] ∧ OL ri G oc0 r.1) := by
 unfold parity_Limits at h
 try dsimp only at h
 refine RetS.st [(0, _), (1, _), (2, _)] Tryz.func20 Tryz.ntmps20 hG fun w0 S0 hS0 B0 => ?_
 refine .go 2 ?_
 refine .box [_] .ro rfl rfl rfl (fun b1 hb1 => ?_)
 refine .go 6 ?_
 refine .q .ro (.load_own_a 0 [_] rfl rfl ty45 rfl) rfl (.go 2 ?_)
 obtain ⟨u2, hu2, r3⟩ := bind_some h
 refine .cV [_, _, _] Tryz.call64 (parity_check_c mcs  hu2) ?_
 refine .go 7 ?_
 refine .cH r3 (fun c6 r7 => ?_) (fun c6 r9 => ?_)
 ·refine .go 6 ?_
  refine .own_nil 3 1 ?_
  cases r7
  refine .drop 1 0 [] _ rfl rfl ?_
  refine .rS [.tmp 6, .tmp 7] [_, _] Tryz.func20 Tryz.results20 ⟨none, 0, [], rfl, rfl, rfl, (OL.nil (Rp' := ri))⟩
 ·refine .go 14 ?_
  refine .block (.own_nil 3 1 ?_)
  refine .lp (fun y m => ∃ (Z0 : Nat) (Z1 : List Int) (Z2 : _) (Z3 : Nat) (Z4 Z5 : _), y = ⟨[(9, .slice Z2 Z1.length Z3), (21, .int .i64 Z5)], [], [], [.s (.slice Z2 Z1.length Z3) 3 1 Z1.length Z4]⟩ ∧ Z0 = m ∧ OL ri G Z4 Z1 ∧ parity_Limits_L1 (w64 (x1 * (w64 (x2 - 1)))) x0_0 Z0 Z1 Z5 = some r) [(3, _), (20, _)] [_] [] ⟨big, ([] : List Int), none, 0, [], 0, rfl, rfl, (OL.nil (Rp' := ri)), r9⟩ (fun y m hI hb58 => ?_)
  obtain ⟨n48, v50, a51, k52, cs53, v56, rfl, rfl, o54, r57⟩ := hI
  refine .gn 0 ?_
  obtain ⟨m62, rfl⟩ : ∃ m, n48 = m + 1 := by cases n48 with | zero => exact absurd (show (none : Option _) = some _ from r57) (by simp) | succ m => exact ⟨m, rfl⟩
  have r61 : parity_Limits_B1 (w64 (x1 * (w64 (x2 - 1)))) x0_0 (parity_Limits_L1 (w64 (x1 * (w64 (x2 - 1)))) x0_0 m62) v50 v56 = some r := r57; clear r57; unfold parity_Limits_B1 at r61; try dsimp only at r61
  refine .go 5 ?_
  refine .cH r61 (fun c63 r64 => ?_) (fun c63 r75 => ?_)
  ·refine .go 2 ?_
   refine .block (.go 4 ?_)
   refine .lit [_] [(0, _)] .ro sl22 ty3 rfl rfl rfl rfl rfl rfl (fun b65 hb65 => ?_)
   have o66 : OL ri G [.int .i64 x0_0] ([x0_0] : List Int) := ((OL.cons rfl (Rep.intI .i64 x0_0) (OL.nil (Rp' := ri))) :)
   refine .reval 26 (n' := ([x0_0] : List Int).length) rfl rfl ?_
   obtain ⟨u72, hu72, r73⟩ := bind_some r64
   refine .appO (Q := ri) 0 .ro sl22 ty3 rfl rfl rfl rfl rfl rfl o54 o66 rfl rfl rfl B0 hu72 rfl (fun a68 k69 cs70 o71 => ?_)
   refine .go 7 ?_
   exact (hb58 _ _ ⟨m62, u72, a68, k69, cs70, (w64 (v56 + 1)), rfl, rfl, o71, r73⟩ (Nat.lt_succ_self _)).ar
  ·refine .exit rfl ?_
   refine .go 6 ?_
   cases r75
   refine .drop 1 0 [] _ rfl rfl ?_
   refine .rS [.tmp 6, .tmp 7] [_, _] Tryz.func20 Tryz.results20 ⟨a51, k52, cs53, rfl, rfl, rfl, o54⟩
theorem vector_Unit_c {x0_0 : Int} {x1 : Int} {x2 : Int} {r : ((List Int) × Int)} (hG : G ∈ Fs)  (h : vector_Unit x0_0 x1 x2 = some r) : RetS Tryz.prog 66 #[.agg #[.int .i64 x0_0], .int .i64 x1, .int .i64 x2] Fs [] [] (fun v bo so => ∃ (oa0 : Option Addr) (ok0 : Nat) (oc0 : List Value), v = .tuple #[.slice oa0 r.1.length ok0, .int .i64 r.2] ∧ bo = [] ∧ so = [.s (.slice oa0 r.1.length ok0) 3 1 r.1.length oc0] ∧ OL ri G oc0 r.1) := by
 unfold vector_Unit at h
 try dsimp only at h
 refine RetS.st [(0, _), (1, _), (2, _)] Tryz.func66 Tryz.ntmps66 hG fun w0 S0 hS0 B0 => ?_
 refine .go 2 ?_
 refine .box [_] .ro rfl rfl rfl (fun b1 hb1 => ?_)
 refine .go 6 ?_
 refine .q .ro (.load_own_a 0 [_] rfl rfl ty45 rfl) rfl ?_
 obtain ⟨u2, hu2, r3⟩ := bind_some h
 refine .cV [_] Tryz.call72 (residue_Of_c mcs  hu2) ?_
 refine .go 11 ?_
 refine .cB r3 (fun c6 r7 => ?_) (fun c6 r9 => ?_)
 ·refine .go 5 ?_
  refine .own_nil 3 1 ?_
  cases r7
  refine .drop 1 0 [] _ rfl rfl ?_
  refine .rS [.tmp 6, .tmp 7] [_, _] Tryz.func66 Tryz.results66 ⟨none, 0, [], rfl, rfl, rfl, (OL.nil (Rp' := ri))⟩
 ·refine .go 7 ?_
  refine .kR (fun y => y = ⟨[(23, .bool (decide ((x1 < 0) ∨ (1024 < x1))))], G :: Fs, [], []⟩) [(1, _), (2, _)] [_] [0] [] [] 3 ?_ ?_
  ·rintro _ rfl
   refine .gn 1 ?_
   refine .cH r9 (fun c14 r15 => ?_) (fun c14 r17 => ?_)
   ·refine .go 5 ?_
    refine .own_nil 3 1 ?_
    cases r15
    refine .drop 1 0 [] _ rfl rfl ?_
    refine .rS [.tmp 6, .tmp 7] [_, _] Tryz.func66 Tryz.results66 ⟨none, 0, [], rfl, rfl, rfl, (OL.nil (Rp' := ri))⟩
   ·refine .go 7 ?_
    refine .kR (fun y => y = ⟨[(30, .bool (decide ((x2 < 0) ∨ (x1 ≤ x2))))], G :: Fs, [], []⟩) [(1, _), (2, _)] [_] [0] [] [] 4 ?_ ?_
    ·rintro _ rfl
     refine .gn 1 ?_
     refine .cH r17 (fun c22 r23 => ?_) (fun c22 r25 => ?_)
     ·refine .go 5 ?_
      refine .own_nil 3 1 ?_
      cases r23
      refine .drop 1 0 [] _ rfl rfl ?_
      refine .rS [.tmp 6, .tmp 7] [_, _] Tryz.func66 Tryz.results66 ⟨none, 0, [], rfl, rfl, rfl, (OL.nil (Rp' := ri))⟩
     ·refine .go 4 ?_
      obtain ⟨u26, hu26, r27⟩ := bind_some r25
      refine .makeR (G := G) (Q := ri) .ro sl22 ty3 rfl rfl rfl ((Rep.intI .i64 0) :) rfl rfl hu26 rfl rfl (fun b28 cs29 hb28 o30 => ?_)
      refine .go 6 ?_
      obtain ⟨u32, hu32, r33⟩ := bind_some r27
      obtain ⟨c34, p35, h36⟩ := OL.get o30 hu32
      obtain rfl := h36
      refine .q .ro (.idxO 0 rfl rfl rfl hu32 sl22 ty3.sz) rfl ?_
      obtain ⟨u37, hu37, r38⟩ := bind_some r33
      refine .storeR 0 0 (Q := ri) .ro rfl rfl o30 hu37 rfl (.inl ⟨rfl, rfl⟩) rfl ty3 p35 ((Rep.intI .i64 1) :) rfl rfl (fun cs39 hlcs39 o40 => ?_)
      refine .reval 32 hlcs39 rfl (.reval 10 hlcs39 rfl (.reval 33 hlcs39 rfl (.go 7 ?_)))
      cases r38
      refine .drop 1 0 [] _ rfl rfl ?_
      refine .rS [.tmp 6, .tmp 7] [_, _] Tryz.func66 Tryz.results66 ⟨(some ⟨b28, 0, none⟩), u26.length, cs39, rfl, rfl, rfl, o40⟩
    ·intro hb19
     refine .split 26 rfl (fun c18 => ?_) (fun c18 => ?_)
     ·refine .go 4 ?_
      exact (hb19 _ rfl).ax ⟨dor_t c18, rfl, rfl, trivial⟩
     ·refine .go 7 ?_
      exact (hb19 _ rfl).ax ⟨dor_f c18, rfl, rfl, trivial⟩
  ·intro hb11
   refine .split 20 rfl (fun c10 => ?_) (fun c10 => ?_)
   ·refine .go 3 ?_
    exact (hb11 _ rfl).ax ⟨dor_t c10, rfl, rfl, trivial⟩
   ·refine .go 5 ?_
    exact (hb11 _ rfl).ax ⟨dor_f c10, rfl, rfl, trivial⟩
theorem parity_sum_c {x0 : Int} {x1 : Int} {F2 : FuncId} {c2 : List Value} {x2 : List (List Int)} {r : (List Int)} (hG : G ∈ Fs) (hc2 : ∀ args w, (callFunc F2 args).run Tryz.prog w = .ok (.enter F2 args) w) (hf2 : IterRX Tryz.prog (Yr.v (Rep.sl ri)) F2 c2 G x2) (h : parity_sum x0 x1 x2 = some r) : RetS Tryz.prog 68 #[.int .i64 x0, .int .i64 x1, .func (.func F2) #[] c2.toArray] Fs [] [] (fun v bo so => ∃ (oa0 : Option Addr) (ok0 : Nat) (oc0 : List Value), v = .slice oa0 r.length ok0 ∧ bo = [] ∧ so = [.s (.slice oa0 r.length ok0) 3 1 r.length oc0] ∧ OL ri G oc0 r) := by
 unfold parity_sum at h
 try dsimp only at h
 refine RetS.st [(0, _), (1, _), (2, _)] Tryz.func68 Tryz.ntmps68 hG fun w0 S0 hS0 B0 => ?_
 refine .marks0 (.go 2 ?_)
 refine .box [_] .ro rfl rfl rfl (fun b1 hb1 => ?_)
 refine .go 5 ?_
 obtain ⟨u2, hu2, r3⟩ := bind_some h
 refine .makeR (G := G) (Q := ri) .ro sl22 ty3 rfl rfl rfl ((Rep.intI .i64 0) :) rfl rfl hu2 rfl rfl (fun b4 cs5 hb4 o6 => ?_)
 refine .alloc .ro ty22 rfl (fun b8 hb8 => ?_)
 refine .store 0 [_] [_, _] .ro rfl rfl rfl ty22 rfl rfl rfl rfl (.go 6 ?_)
 refine .cutBD (β := MK × List Int × Option Addr × Nat × List Value) (fun y => mks y.1.1) (fun y => []) [(7, _)] (fun y => G :: Fs) (fun y => [(b8, .cells #[.slice y.2.2.1 y.2.1.length y.2.2.2.1] 22 (0, 0))]) [_] (fun y => [.g (marksG y.1), .s (.slice y.2.2.1 y.2.1.length y.2.2.2.1) 3 1 y.2.1.length y.2.2.2.2]) [] (fun y => OL ri G y.2.2.2.2 y.2.1 ∧ parity_sum_J1 y.2.1 = some r) ⟨rfl, trivial⟩ [1] rfl [] rfl ?_ ?_
 ·intro y hI
  obtain ⟨mk72, v73, a74, k75, cs76⟩ := y
  obtain ⟨o77, r80⟩ := hI
  try dsimp only at o77 r80
  refine .gn 0 ?_
  unfold parity_sum_J1 at r80
  try dsimp only at r80
  refine .go 5 ?_
  cases r80
  refine .drop 2 0 [] _ rfl rfl ?_
  refine .out (.inr ⟨_, rfl⟩) rfl (Cov.unmarkAll _ _ ?_)
  refine .outS [.tmp 6] [_] Tryz.func68 Tryz.results68 ⟨RV.tmp rfl, trivial⟩ mcm ⟨a74, k75, cs76, rfl, rfl, rfl, o77⟩
 ·intro hb82
  refine .block (.pull 1 rfl [_, _] rfl (.pull 1 rfl [_, _] rfl ?_))
  refine .rangeX (α := List Int × Option Addr × Nat × List Value) (β := Unit) (fun y => []) (fun y => [(b8, .cells #[.slice y.2.1 y.1.length y.2.2.1] 22 (0, 0)), (b1, .cells #[.int .i64 x0] 140 (0, 0))]) (fun y => [.s (.slice y.2.1 y.1.length y.2.2.1) 3 1 y.1.length y.2.2.2]) (fun _ => []) (fun _ => []) (fun _ => []) (fun _ => .skip) (fun i y => OL ri G y.2.2.2 y.1 ∧ parity_sum_L2 parity_sum_J1 x0 (List.drop i x2) y.1 = some r) (fun _ => False) (u2, (some ⟨b4, 0, none⟩), u2.length, cs5)  c2 rfl rfl hc2 rfl (by simp) rfl rfl (hf2 _ G (HpLe.refl _) mcs) (fun _ _ hv => by obtain ⟨_, _, hv⟩ := hv; exact (Yr.len _ hv).trans rfl) (by kernel_rfl) ⟨o6, r3⟩ ?_ ?_ (fun _ _ h => h.elim)
  ·intro l10 tm11 D12 i13 y v14 hV15 hI w16 S17 hw18
   obtain ⟨v19, a20, k21, cs23⟩ := y
   obtain ⟨o24, r25⟩ := hI
   try dsimp only at o24 r25
   obtain ⟨x26, h27, h28⟩ := hV15
   refine .dup (G := G) mcs ?_
   obtain ⟨v29, rfl, h30⟩ := h28
   obtain ⟨a31, k32, h33, s34⟩ := h30
   obtain ⟨rfl, _⟩ := List.cons.inj h33
   rw [drop_cons h27] at r25
   have r35 : parity_sum_B2 parity_sum_J1 x0 (parity_sum_L2 parity_sum_J1 x0 (List.drop (i13 + 1) x2)) x26 v19 = some r := r25; clear r25; unfold parity_sum_B2 at r35; try dsimp only at r35
   refine .gn 3 ?_
   refine .beginRound 2 rfl rfl [_, _, _] rfl (.block (.go 4 ?_))
   refine .toV 0 rfl (fun vb36 po37 va38 vb39 => ?_)
   obtain ⟨u40, hu40, r41⟩ := bind_some r35
   refine .callS (b1 := []) (b2 := [_, _, _]) (s1 := [_]) [_, _, _, _] [] .ro rfl rfl Tryz.call67 rfl rfl (residue_Field_AddTimes_c mcs va38 o24 s34 hu40) rfl (fun v42 bo so h43 => ?_)
   obtain ⟨cs44, rfl, rfl, rfl, o45, hl46⟩ := h43
   refine .gn 0 ?_
   refine .ofV 0 rfl vb39 hl46 o45 rfl (.reval 14 hl46 rfl (.recell 0 [.slice a20 u40.length k21] rfl (by rw [hl46] <;> rfl) [_, _, _] rfl (.go 2 ?_)))
   refine .round_endX (u40, a20, k21, cs44) 2 rfl rfl ⟨o45, r41⟩ rfl rfl (fun F hF => List.mem_cons_of_mem _ hF) (by simp)
  ·intro q47 y hI hb48
   obtain ⟨v19, a20, k21, cs23⟩ := y
   obtain ⟨o24, r25⟩ := hI
   try dsimp only at o24 r25
   refine .gn 0 ?_
   refine .pullS 1 rfl [_, _] rfl ?_
   refine .mkmerge 2 rfl [_, _] rfl (fun mk49 => ?_)
   rw [List.drop_length] at r25; rw [parity_sum_L2] at r25; try dsimp only at r25
   refine .go 1 ?_
   exact .arr (hb82 (mk49, v19, a20, k21, cs23) ⟨o24, r25⟩) ⟨rfl, trivial⟩
theorem parity_each_f1_i {Fs : List Hp} {G : Hp} {p1 : Value} {a1 : Option Addr} {k1 : Nat} {x1 : List (List Int)} {l : (List (List Int))} (hG : G ∈ Fs) (hp1 : Rp G p1 [.slice a1 x1.length k1]) (s1 : SlR (Rep.sl ri) G a1 k1 x1) (h : parity_each_f1 x1 = some l) : IterX Tryz.prog 124 [p1] Fs l.length (fun i v => ∃ x, l[i]? = some x ∧ (Yr.v (Rep.sl ri)).r G v x) := by
 unfold parity_each_f1 at h
 try dsimp only at h
 intro y 𝒢 ℰ R0 hy hR0
 refine RetG.of (vs := [_, _]) Tryz.func124 rfl Tryz.ntmps124 [(0, _), (1, _)] ⟨rfl, rfl, trivial⟩ rfl fun w0 => Cov.dup hG ?_
 have B0 : Bd w0 (blks [] [.g R0]) Fs G := Bd.fin hG
 generalize hS0 : blks [] [.g R0] = S0 at B0 ⊢
 replace h : _ = some (List.drop 0 l) := h
 refine .go 2 ?_
 refine .q .ro (.load_rp hp1 mcs rfl ty51 rfl) rfl (.go 3 ?_)
 refine .block ?_
 refine .lp (fun y m => ∃ (Z0 : Nat) (Z1 : List (List Int)) (Z2 : Guest) (Z3 : Nat), y = ⟨[(7, .int .i64 (Z0 : Int))], [], [], [.g Z2]⟩ ∧ Z1.length = m ∧ 𝒢 Z3 Z2 ∧ Z3 ≤ l.length ∧ List.drop Z0 x1 = Z1 ∧ parity_each_f1_L1 Z1  = some (List.drop Z3 l)) [(0, _), (5, _), (6, _)] [] [] ⟨0, x1, R0, 0, rfl, rfl, hR0, (Nat.zero_le _), rfl, h⟩ (fun y m hI hb29 => ?_)
 obtain ⟨i21, w22, R24, i25, rfl, rfl, hR26, le27, g23, r28⟩ := hI
 refine .gn 0 ?_
 cases w22 with
 | nil =>
  rw [parity_each_f1_L1] at r28; try dsimp only at r28
  refine .go 5 ?_
  refine .cond_dec rfl (fun c => absurd c (drop_nil g23)) (fun _ => ?_)
  refine .exit rfl ?_
  have hi := yc_end r28 le27
  refine .leave (.inl rfl) [] [] rfl Tryz.func124 Tryz.results124 trivial mcm (.inl rfl) (fresh_emp _) ⟨rfl, R24, .inl (hi ▸ hR26), rfl⟩
 | cons x33 xs34 =>
  have r32 : parity_each_f1_B1 (parity_each_f1_L1 xs34) x33  = some (List.drop i25 l) := r28; clear r28; unfold parity_each_f1_B1 at r32; try dsimp only at r32
  refine .go 5 ?_
  refine .cond_dec rfl (fun _ => ?_) (fun c => absurd (drop_lt g23) c)
  refine .go 2 ?_
  refine .block (.go 2 ?_)
  obtain ⟨c35, p36, h37⟩ := SlR.get s1 (drop_idx g23)
  obtain ⟨a38, k39, rfl, s40⟩ := h37
  refine .q .ro (.idxR s1 rfl rfl (drop_idx g23) sl51 ty22.sz) rfl (.q .ro (.load_rp p36 mcs rfl ty22 rfl) rfl (.go 6 ?_))
  obtain ⟨h41, r42⟩ := yc_some r32; clear r32
  refine .yieldX hy ⟨_, h41, ⟨_, rfl, ((Rep.slI s40) :)⟩⟩ hR26 mcm rfl rfl rfl (fun R43 hR44 => ?_) (fun R45 hE46 => ?_)
  ·refine .q .ro (.not_t rfl) rfl ?_
   refine .go 1 ?_
   refine .cond_false rfl (.go 6 ?_)
   exact (hb29 _ _ ⟨(i21 + 1), xs34, R43, (i25 + 1), rfl, rfl, hR44, (yc_le h41), (drop_succ g23), r42⟩ (Nat.lt_succ_self _)).ax ⟨(congrArg (fun z => some (Value.int .i64 z)) (idx_wrap (SlR.len s1) g23)), rfl, rfl, rfl, trivial⟩
  ·refine .q .ro (.not_f rfl) rfl ?_
   refine .go 1 ?_
   refine .cond_true rfl ?_
   refine .leave (.inr ⟨_, rfl⟩) [] [] rfl Tryz.func124 Tryz.results124 trivial mcm (.inl rfl) (fresh_emp _) ⟨rfl, R45, .inr hE46, rfl⟩
theorem parity_each_c {x0 : List (List Int)} {r : (List (List Int))} (hG : G ∈ Fs) (s0 : SlR (Rep.sl ri) G a0 k0 x0) (h : parity_each x0 = some r) : RetW Tryz.prog 69 #[.slice a0 x0.length k0] Fs [] [] (fun v bo so G => ∃ (Fi0 : FuncId) (ci0 : List Value), v = .func (.func Fi0) #[] ci0.toArray ∧ bo = [] ∧ so = [] ∧ (∀ args w, (callFunc Fi0 args).run Tryz.prog w = .ok (.enter Fi0 args) w) ∧ IterRX Tryz.prog (Yr.v (Rep.sl ri)) Fi0 ci0 G r) := by
 unfold parity_each at h
 try dsimp only at h
 refine RetW.st [(0, _)] Tryz.func69 Tryz.ntmps69 hG fun w0 S0 hS0 B0 => ?_
 refine .go 2 ?_
 refine .box [_] .ro rfl rfl rfl (fun b1 hb1 => ?_)
 refine .go 4 ?_
 refine .q .ro (.makeFunc (vf := []) (vc := [_]) rfl rfl) rfl (.go 2 ?_)
 refine .freezeBR 0 rfl [] rfl B0 (fun G2 e3 B4 p5 => ?_)
 obtain ⟨u7, hu7, r8⟩ := bind_some h
 cases r8
 refine .rW 0 [.tmp 2] [_] Tryz.func69 Tryz.results69 ⟨RV.tmp rfl, trivial⟩ B4 hS0 (fun G' hg => ⟨_, _, rfl, rfl, rfl, Tryz.call124, (fun Fs' G1 hle hm => parity_each_f1_i (G := G1) hm (Rp.mono (HpLe.trans hg hle) p5) (SlR.mono (HpLe.trans hg hle) (SlR.mono e3 s0)) hu7)⟩)
theorem parity_Queries_c {x0_0 : Int} {x1 : Int} {x2 : Int} {x3 : Int} {x4_0 : List Int} {x4_1 : Int} {r : ((List (List Int)) × ((List Int) × Int) × Int)} (hG : G ∈ Fs) (s4_0 : SlR ri G a4_0 k4_0 x4_0) (h : parity_Queries x0_0 x1 x2 x3 (x4_0, x4_1) = some r) : RetW Tryz.prog 21 #[.agg #[.int .i64 x0_0], .int .i64 x1, .int .i64 x2, .int .i64 x3, .agg #[.slice a4_0 x4_0.length k4_0, .int .i64 x4_1]] Fs [] [] (fun v bo so G => ∃ a0 : Option Addr, ∃ k0 : Nat, ∃ (oa0 : Option Addr) (ok0 : Nat) (oc0 : List Value), v = .tuple #[.slice oa0 r.1.length ok0, .agg #[.slice a0 r.2.1.1.length k0, .int .i64 r.2.1.2], .int .i64 r.2.2] ∧ bo = [] ∧ so = [.s (.slice oa0 r.1.length ok0) 22 1 r.1.length oc0] ∧ SlR ri G a0 k0 r.2.1.1 ∧ OL (Rep.sl ri) G oc0 r.1) := by
 unfold parity_Queries at h
 try dsimp only at h
 refine RetW.st [(0, _), (1, _), (2, _), (3, _), (4, _)] Tryz.func21 Tryz.ntmps21 hG fun w0 S0 hS0 B0 => ?_
 refine .go 2 ?_
 refine .box [_] .ro rfl rfl rfl (fun b1 hb1 => ?_)
 refine .box [_, _] .ro rfl rfl rfl (fun b2 hb2 => ?_)
 refine .go 1 ?_
 refine .alloc .ro ty56 rfl (fun b3 hb3 => ?_)
 refine .go 5 ?_
 refine .q .ro (.load_own_a 2 [_] rfl rfl ty45 rfl) rfl (.go 2 ?_)
 obtain ⟨u4, hu4, r5⟩ := bind_some h
 refine .cV [_, _, _] Tryz.call64 (parity_check_c mcs  hu4) ?_
 refine .go 7 ?_
 refine .cH r5 (fun c8 r9 => ?_) (fun c8 r11 => ?_)
 ·refine .go 2 ?_
  refine .q .ro (.build [_, _] [] ty56 pl56 rfl rfl) rfl (.go 2 ?_)
  refine .store 0 [_, _] [_, _, _] .ro rfl rfl rfl ty56 rfl rfl rfl rfl (.go 2 ?_)
  refine .own_nil 22 1 ?_
  cases r9
  refine .rW 3 [.tmp 10, .cell 11 56, .tmp 12] [_, _, _] Tryz.func21 Tryz.results21 ⟨RV.tmp rfl, RV.cell_a 0 [_, _] rfl rfl ty56 rfl, RV.tmp rfl, trivial⟩ B0 hS0 (fun G' hg => ⟨none, 0, none, 0, [], rfl, rfl, rfl, (SlR.mono hg (SlR.nil (Rp' := ri))), (OL.mono hg (OL.nil (Rp' := (Rep.sl ri))))⟩)
 ·refine .go 7 ?_
  refine .kR (fun y => y = ⟨[(35, .bool (decide ((x3 < 0) ∨ (x1 ≤ x3))))], G :: Fs, [], []⟩) [(1, _), (2, _), (3, _), (5, _), (9, _), (11, _)] [_, _, _] [0, 1, 2] [] [] 4 ?_ ?_
  ·rintro _ rfl
   refine .gn 1 ?_
   refine .cH r11 (fun c16 r17 => ?_) (fun c16 r19 => ?_)
   ·refine .go 2 ?_
    refine .q .ro (.build [_, _] [] ty56 pl56 rfl rfl) rfl (.go 1 ?_)
    refine .store 0 [_, _] [_, _, _] .ro rfl rfl rfl ty56 rfl rfl rfl rfl (.go 2 ?_)
    refine .own_nil 22 1 ?_
    cases r17
    refine .rW 3 [.tmp 10, .cell 11 56, .tmp 12] [_, _, _] Tryz.func21 Tryz.results21 ⟨RV.tmp rfl, RV.cell_a 0 [_, _] rfl rfl ty56 rfl, RV.tmp rfl, trivial⟩ B0 hS0 (fun G' hg => ⟨none, 0, none, 0, [], rfl, rfl, rfl, (SlR.mono hg (SlR.nil (Rp' := ri))), (OL.mono hg (OL.nil (Rp' := (Rep.sl ri))))⟩)
   ·refine .go 12 ?_
    refine .kB (fun y => ∃ (Z0 : _) (Z1 : List (List Int)) (Z2 : _) (Z3 : Nat) (Z4 Z5 : _) (Z6 : List Int) (Z7 : _) (Z8 : Nat) (Z9 Z10 : _), y = ⟨[(14, .slice Z2 Z1.length Z3)], Z0 :: Fs, [(b3, .cells #[.slice none 0 0, .int .i64 Z5] 56 (0, 0)), (b2, .cells #[.slice Z7 Z6.length Z8, .int .i64 Z9] 56 (0, 0)), (b1, .cells #[.int .i64 Z10] 45 (0, 0))], [.s (.slice Z2 Z1.length Z3) 22 1 Z1.length Z4]⟩ ∧ HpLe G Z0 ∧ Bd w0 S0 Fs Z0 ∧ OL (Rep.sl ri) Z0 Z4 Z1 ∧ SlR ri Z0 Z7 Z8 Z6 ∧ (parity_Queries_J1 x1 x3) Z1 Z5 Z6 Z9 Z10 = some r) [(1, _), (3, _), (5, _), (9, _), (11, _)] [] [] [] [] ?_ ?_
    ·rintro _ ⟨G14, v15, a18, k20, cs23, v24, v25, a26, k27, v28, v29, rfl, e30, B31, o32, s33, r34⟩
     refine .gn 0 ?_
     unfold parity_Queries_J1 at r34
     try dsimp only at r34
     refine .go 8 ?_
     refine .q .ro (.load_own_a 2 [_] rfl rfl ty45 rfl) rfl (.go 2 ?_)
     obtain ⟨u35, hu35, r36⟩ := bind_some r34
     refine .cS [_, _, _] Tryz.call66 (vector_Unit_c mcs  hu35) (fun v37 bo so h38 => ?_)
     obtain ⟨a39, k40, cs41, rfl, rfl, rfl, o42⟩ := h38
     refine .gn 7 ?_
     refine .drawL (.q 0 (.q 1 (.q 2 (.q 3 (.q 4 (.q 5 (.q 6 (.q 7 (.e 8 1 (.e 9 1 (.e 10 2 .nil))))))))))) [_, _, _] (by kernel_rfl) (by kernel_rfl) (pick_mem [0, 1, 2] rfl) (.go 8 ?_)
     refine .pullS 1 rfl [_, _] rfl ?_
     refine .openB (sB := [_]) (s2 := [_]) rfl B31 (fun G43 e44 B46 hr47 hc48 => ?_)
     have s49 := SlR.rd o32 rfl e44 (hr47 _ (List.mem_of_getElem? (i := 0) rfl))
     obtain ⟨u50, hu50, r52⟩ := bind_some r36
     refine .callW (b1 := []) (b2 := [_, _, _]) (s1 := []) [_] [] .d1 rfl rfl Tryz.call69 rfl rfl (parity_each_c mcs s49 hu50) rfl B46 (fun v53 bo so G54 e55 B57 h58 => ?_)
     obtain ⟨F59, c60, rfl, rfl, rfl, hc61, hi62⟩ := h58
     refine .gn 0 ?_
     refine .clsL (HpLe.trans e44 e55) (pick_mem [0, 1, 2] rfl) ?_
     obtain ⟨u63, hu63, r70⟩ := bind_some r52
     refine .cSd [_, _, _] Tryz.call68 (parity_sum_c mcs hc61 hi62 hu63) (fun v71 bo so h72 => ?_)
     obtain ⟨a73, k74, cs75, rfl, rfl, rfl, o76⟩ := h72
     refine .gn 0 ?_
     refine .clsL (HpLe.trans e44 e55) (pick_mem [0, 1, 2] rfl) ?_
     refine .freezeR 0 rfl rfl o76 [_] rfl B57 (fun G77 e78 B79 s80 => ?_)
     refine .toV 0 rfl (fun vb81 po82 va83 vb84 => ?_)
     obtain ⟨u85, hu85, r86⟩ := bind_some r70
     refine .callS (b1 := []) (b2 := [_, _, _]) (s1 := [_]) [_, _, _, _] [] .d2 rfl rfl Tryz.call67 rfl rfl (residue_Field_AddTimes_c mcs va83 (OL.mono (HpLe.trans (HpLe.trans e44 e55) e78) o42) s80 hu85) rfl (fun v87 bo so h88 => ?_)
     obtain ⟨cs89, rfl, rfl, rfl, o90, hl91⟩ := h88
     refine .gn 0 ?_
     refine .ofV 0 rfl vb84 hl91 o90 rfl (.reval 67 hl91 rfl (.reval 19 hl91 rfl (.reval 70 hl91 rfl ?_)))
     have o92 := OL.flat (G := G14) (Rep.flat_int _) o90
     refine hc48 _ _ _ _ _ _ (HpLe.trans e55 e78) ?_
     refine .go 2 ?_
     refine .freezeR 1 rfl rfl o92 [_] rfl B31 (fun G93 e94 B95 s96 => ?_)
     refine .drawL (.q 0 (.q 1 (.q 4 (.e 2 1 (.e 3 1 (.q 5 (.e 6 1 (.q 7 .nil)))))))) [_, _] (by kernel_rfl) (by kernel_rfl) (pick_mem [1, 2] rfl) (.go 2 ?_)
     refine .dq (.load_own_a 0 [_, _] rfl rfl ty56 rfl) rfl ?_
     refine .lit [_] [(0, _)] .d1 sl51 ty22 rfl rfl rfl rfl rfl rfl (fun b97 hb97 => ?_)
     have o98 : OL (Rep.sl ri) G93 [.slice a39 u85.length k40] ([u85] : List (List Int)) := ((OL.cons rfl (Rep.slI s96) (OL.nil (Rp' := (Rep.sl ri)))) :)
     refine .reval 82 (n' := ([u85] : List (List Int)).length) rfl rfl (.clsL (HpLe.refl _) (pick_mem [1, 2] rfl) ?_)
     obtain ⟨u99, hu99, r100⟩ := bind_some r86
     refine .appO (Q := (Rep.sl ri)) 0 .d1 sl51 ty22 rfl rfl rfl rfl rfl rfl (OL.mono e94 o32) o98 rfl rfl rfl B95 hu99 rfl (fun a101 k102 cs103 o104 => ?_)
     refine .clsL (HpLe.refl _) (pick_mem [1, 2] rfl) (.go 1 ?_)
     refine .store 0 [_, _] [_, _, _] .d1 rfl rfl rfl ty56 rfl rfl rfl rfl (.clsL (HpLe.refl _) (pick_mem [1, 2] rfl) (.go 2 ?_))
     cases r100
     refine .rW 3 [.tmp 10, .cell 11 56, .tmp 12] [_, _, _] Tryz.func21 Tryz.results21 ⟨RV.tmp rfl, RV.cell_a 0 [_, _] rfl rfl ty56 rfl, RV.tmp rfl, trivial⟩ B95 hS0 (fun G' hg => ⟨a26, k27, a101, k102, cs103, rfl, rfl, rfl, (SlR.mono hg (SlR.mono e94 s33)), (OL.mono hg o104)⟩)
    ·intro hb105
     refine .block (.own_nil 22 1 (.pull 1 rfl [_, _, _] rfl ?_))
     refine .lp (fun y m => ∃ (Z0 : Nat) (Z1 : _) (Z2 : List (List Int)) (Z3 : _) (Z4 : Nat) (Z5 Z6 : _) (Z7 : List Int) (Z8 : _) (Z9 : Nat) (Z10 : _), y = ⟨[(14, .slice Z3 Z2.length Z4), (39, .int .i64 Z6)], [Z1], [(b2, .cells #[.slice Z8 Z7.length Z9, .int .i64 Z10] 56 (0, 0))], [.s (.slice Z3 Z2.length Z4) 22 1 Z2.length Z5]⟩ ∧ Z0 = m ∧ HpLe G Z1 ∧ Bd w0 S0 Fs Z1 ∧ OL (Rep.sl ri) Z1 Z5 Z2 ∧ SlR ri Z1 Z8 Z9 Z7 ∧ parity_Queries_L2 (parity_Queries_J1 x1 x3) x1 (w64 (x2 - 1)) x0_0 Z0 Z2 Z6 Z7 Z10 = some r) [(1, _), (3, _), (5, _), (9, _), (11, _), (38, _)] [_, _] [] ⟨big, G, ([] : List (List Int)), none, 0, [], 0, x4_0, a4_0, k4_0, x4_1, rfl, rfl, (HpLe.refl _), B0, (OL.nil (Rp' := (Rep.sl ri))), s4_0, r19⟩ (fun y m hI hb106 => ?_)
     obtain ⟨n107, G108, v109, a110, k111, cs112, v113, v114, a115, k116, v117, rfl, rfl, e118, B119, o120, s121, r122⟩ := hI
     refine .gn 0 ?_
     obtain ⟨m123, rfl⟩ : ∃ m, n107 = m + 1 := by cases n107 with | zero => exact absurd (show (none : Option _) = some _ from r122) (by simp) | succ m => exact ⟨m, rfl⟩
     have r124 : parity_Queries_B2 (parity_Queries_J1 x1 x3) x1 (w64 (x2 - 1)) x0_0 (parity_Queries_L2 (parity_Queries_J1 x1 x3) x1 (w64 (x2 - 1)) x0_0 m123) v109 v113 v114 v117 = some r := r122; clear r122; unfold parity_Queries_B2 at r124; try dsimp only at r124
     refine .go 5 ?_
     refine .cH r124 (fun c125 r126 => ?_) (fun c125 r127 => ?_)
     ·refine .go 2 ?_
      refine .block (.go 2 ?_)
      refine .q .ro (.load_own_a 0 [_, _] rfl rfl ty56 rfl) rfl (.go 3 ?_)
      obtain ⟨u128, hu128, r129⟩ := bind_some r126
      refine .cW [_, _, _] Tryz.call65 (tape_Draws_c mcs s121 hu128) B119 (fun v130 bo so G131 e132 B133 h134 => ?_)
      obtain ⟨a135, k136, a137, k138, cs139, rfl, rfl, rfl, s140, o141⟩ := h134
      refine .gn 4 ?_
      refine .alloc .ro ty56 rfl (fun b142 hb142 => ?_)
      refine .store 0 [_, _] [_, _, _, _] .ro rfl rfl rfl ty56 rfl rfl rfl rfl (.go 9 ?_)
      refine .cH r129 (fun c143 r144 => ?_) (fun c143 r145 => ?_)
      ·refine .go 2 ?_
       refine .q .ro (.build [_, _] [] ty56 pl56 rfl rfl) rfl (.go 2 ?_)
       refine .store 2 [_, _] [_, _, _, _] .ro rfl rfl rfl ty56 rfl rfl rfl rfl (.go 2 ?_)
       refine .own_nil 22 1 ?_
       cases r144
       refine .pullS 2 rfl [_, _, _] rfl (.pullS 2 rfl [_, _, _] rfl (.drop 0 2 _ [_] rfl rfl ?_))
       refine .rW 4 [.tmp 10, .cell 11 56, .tmp 12] [_, _, _] Tryz.func21 Tryz.results21 ⟨RV.tmp rfl, RV.cell_a 2 [_, _] rfl rfl ty56 rfl, RV.tmp rfl, trivial⟩ B133 hS0 (fun G' hg => ⟨none, 0, none, 0, [], rfl, rfl, rfl, (SlR.mono hg (SlR.nil (Rp' := ri))), (OL.mono hg (OL.nil (Rp' := (Rep.sl ri))))⟩)
      ·refine .go 1 ?_
       refine .freezeR 0 rfl rfl o141 [_] rfl B133 (fun G146 e147 B148 s149 => ?_)
       refine .drawL (.q 0 (.q 1 (.q 2 (.e 3 1 (.e 4 1 (.e 5 1 (.q 6 .nil))))))) [_, _, _] (by kernel_rfl) (by kernel_rfl) (pick_mem [0, 2, 3] rfl) (.dq (.load_own_a 0 [_, _] rfl rfl ty56 rfl) rfl (.go 2 ?_))
       refine .lit [_] [(0, _)] .d1 sl51 ty22 rfl rfl rfl rfl rfl rfl (fun b150 hb150 => ?_)
       have o151 : OL (Rep.sl ri) G146 [.slice a137 u128.2.1.length k138] ([u128.2.1] : List (List Int)) := ((OL.cons rfl (Rep.slI s149) (OL.nil (Rp' := (Rep.sl ri)))) :)
       refine .reval 57 (n' := ([u128.2.1] : List (List Int)).length) rfl rfl (.clsL (HpLe.refl _) (pick_mem [0, 2, 3] rfl) ?_)
       obtain ⟨u152, hu152, r153⟩ := bind_some r145
       refine .appO (Q := (Rep.sl ri)) 0 .d1 sl51 ty22 rfl rfl rfl rfl rfl rfl (OL.mono (HpLe.trans e132 e147) o120) o151 rfl rfl rfl B148 hu152 rfl (fun a154 k155 cs156 o157 => ?_)
       refine .clsL (HpLe.refl _) (pick_mem [0, 2, 3] rfl) (.store 1 [_, _] [_, _, _, _] .d1 rfl rfl rfl ty56 rfl rfl rfl rfl (.clsL (HpLe.refl _) (pick_mem [0, 2, 3] rfl) (.go 7 ?_)))
       refine .drop 1 0 [_, _, _] _ rfl rfl ?_
       exact (hb106 _ _ ⟨m123, G146, u152, a154, k155, cs156, (w64 (v113 + 1)), u128.1.1, a135, k136, u128.1.2, rfl, rfl, (HpLe.trans (HpLe.trans e118 e132) e147), B148, o157, (SlR.mono e147 s140), r153⟩ (Nat.lt_succ_self _)).ar
     ·refine .exit rfl ?_
      refine .pull 2 rfl [_, _, _] rfl (.pull 1 rfl [_, _, _] rfl (.pull 2 rfl [_, _, _] rfl ?_))
      exact (hb105 _ ⟨G108, v109, a110, k111, cs112, 0, v114, a115, k116, v117, x0_0, rfl, e118, B119, o120, s121, r127⟩).ar
  ·intro hb13
   refine .split 31 rfl (fun c12 => ?_) (fun c12 => ?_)
   ·refine .go 4 ?_
    exact (hb13 _ rfl).ax ⟨dor_t c12, rfl, rfl, rfl, rfl, rfl, rfl, trivial⟩
   ·refine .go 7 ?_
    exact (hb13 _ rfl).ax ⟨dor_f c12, rfl, rfl, rfl, rfl, rfl, rfl, trivial⟩
theorem ref02_Seeded_c {x0 : Int} {x1 : List Int} {r : (((List Int) × Int) × Int)} (hG : G ∈ Fs) (s1 : SlR ri G a1 k1 x1) (h : ref02_Seeded x0 x1 = some r) : RetW Tryz.prog 70 #[.int .i64 x0, .slice a1 x1.length k1] Fs [] [] (fun v bo so G => ∃ a0 : Option Addr, ∃ k0 : Nat, v = .tuple #[.agg #[.slice a0 r.1.1.length k0, .int .i64 r.1.2], .int .i64 r.2] ∧ bo = [] ∧ so = [] ∧ SlR ri G a0 k0 r.1.1) := by
 unfold ref02_Seeded at h
 try dsimp only at h
 refine RetW.st [(0, _), (1, _)] Tryz.func70 Tryz.ntmps70 hG fun w0 S0 hS0 B0 => ?_
 refine .go 2 ?_
 refine .alloc .ro ty56 rfl (fun b1 hb1 => ?_)
 refine .go 8 ?_
 refine .kR (fun y => y = ⟨[(16, .bool (decide ((x0 < 1) ∨ (2147483647 ≤ x0))))], G :: Fs, [], []⟩) [(0, _), (1, _), (4, _)] [_] [0] [] [] 3 ?_ ?_
 ·rintro _ rfl
  refine .gn 1 ?_
  refine .cH h (fun c6 r7 => ?_) (fun c6 r8 => ?_)
  ·refine .go 2 ?_
   refine .q .ro (.build [_, _] [] ty56 pl56 rfl rfl) rfl (.store 0 [_, _] [_] .ro rfl rfl rfl ty56 rfl rfl rfl rfl (.go 2 ?_))
   cases r7
   refine .rW 1 [.cell 4 56, .tmp 5] [_, _] Tryz.func70 Tryz.results70 ⟨RV.cell_a 0 [_, _] rfl rfl ty56 rfl, RV.tmp rfl, trivial⟩ B0 hS0 (fun G' hg => ⟨none, 0, rfl, rfl, rfl, (SlR.mono hg (SlR.nil (Rp' := ri)))⟩)
  ·refine .go 8 ?_
   refine .cH r8 (fun c9 r10 => ?_) (fun c9 r11 => ?_)
   ·refine .go 2 ?_
    refine .q .ro (.build [_, _] [] ty56 pl56 rfl rfl) rfl (.store 0 [_, _] [_] .ro rfl rfl rfl ty56 rfl rfl rfl rfl (.go 2 ?_))
    cases r10
    refine .rW 1 [.cell 4 56, .tmp 5] [_, _] Tryz.func70 Tryz.results70 ⟨RV.cell_a 0 [_, _] rfl rfl ty56 rfl, RV.tmp rfl, trivial⟩ B0 hS0 (fun G' hg => ⟨none, 0, rfl, rfl, rfl, (SlR.mono hg (SlR.nil (Rp' := ri)))⟩)
   ·refine .go 8 ?_
    refine .kB (fun y => ∃ (Z0 : _), y = ⟨[], G :: Fs, [(b1, .cells #[.slice none 0 0, .int .i64 Z0] 56 (0, 0))], []⟩ ∧ (ref02_Seeded_J3 x0 x1) Z0 = some r) [(0, _), (1, _), (4, _)] [] [] [] [] ?_ ?_
    ·rintro _ ⟨v52, rfl, r54⟩
     refine .gn 0 ?_
     unfold ref02_Seeded_J3 at r54
     try dsimp only at r54
     refine .go 2 ?_
     refine .alloc .ro ty56 rfl (fun b57 hb57 => ?_)
     refine .go 8 ?_
     refine .kB (fun y => ∃ (Z0 : List Int) (Z1 : _) (Z2 : Nat) (Z3 Z4 Z5 : _), y = ⟨[], G :: Fs, [(b57, .cells #[.slice Z1 Z0.length Z2, .int .i64 Z4] 56 (0, 0)), (b1, .cells #[.slice none 0 0, .int .i64 Z5] 56 (0, 0))], [.s (.slice Z1 Z0.length Z2) 3 1 Z0.length Z3]⟩ ∧ OL ri G Z3 Z0 ∧ ref02_Seeded_J1 Z0 Z4 Z5 = some r) [(4, _), (8, _)] [] [] [] [] ?_ ?_
     ·rintro _ ⟨v12, a13, k14, cs15, v16, v17, rfl, o18, r19⟩
      refine .gn 0 ?_
      unfold ref02_Seeded_J1 at r19
      try dsimp only at r19
      refine .go 2 ?_
      refine .q .ro (.load_own_a 0 [_, _] rfl rfl ty56 rfl) rfl (.store 1 [_, _] [_, _] .ro rfl rfl rfl ty56 rfl rfl rfl rfl (.go 2 ?_))
      refine .freezeR 0 rfl rfl o18 [] rfl B0 (fun G20 e21 B23 s24 => ?_)
      cases r19
      refine .rW 2 [.cell 4 56, .tmp 5] [_, _] Tryz.func70 Tryz.results70 ⟨RV.cell_a 1 [_, _] rfl rfl ty56 rfl, RV.tmp rfl, trivial⟩ B23 hS0 (fun G' hg => ⟨a13, k14, rfl, rfl, rfl, (SlR.mono hg s24)⟩)
     ·intro hb25
      refine .block (.own_nil 3 1 ?_)
      refine .lp (fun y m => ∃ (Z0 : Nat) (Z1 : List Int) (Z2 : _) (Z3 : List Int) (Z4 : _) (Z5 : Nat) (Z6 : _), y = ⟨[(0, .int .i64 Z2), (38, .int .i64 (Z0 : Int))], [], [(b57, .cells #[.slice Z4 Z3.length Z5, .int .i64 0] 56 (0, 0))], [.s (.slice Z4 Z3.length Z5) 3 1 Z3.length Z6]⟩ ∧ Z1.length = m ∧ OL ri G Z6 Z3 ∧ List.drop Z0 x1 = Z1 ∧ ref02_Seeded_L2 ref02_Seeded_J1 v52 Z1 Z2 Z3 = some r) [(4, _), (8, _), (36, _), (37, _)] [_] [] ⟨0, x1, x0, ([] : List Int), none, 0, [], rfl, rfl, (OL.nil (Rp' := ri)), rfl, r54⟩ (fun y m hI hb26 => ?_)
      obtain ⟨i27, w28, v29, v30, a31, k32, cs33, rfl, rfl, o34, g35, r36⟩ := hI
      refine .gn 0 ?_
      cases w28 with
      | nil =>
       rw [ref02_Seeded_L2] at r36; try dsimp only at r36
       refine .go 5 ?_
       refine .cond_dec rfl (fun c => absurd c (drop_nil g35)) (fun _ => ?_)
       refine .exit rfl ?_
       exact (hb25 _ ⟨v30, a31, k32, cs33, 0, v52, rfl, o34, r36⟩).ar
      | cons x37 xs38 =>
       have r39 : ref02_Seeded_B2 ref02_Seeded_J1 v52 (ref02_Seeded_L2 ref02_Seeded_J1 v52 xs38) x37 v29 v30 = some r := r36; clear r36; unfold ref02_Seeded_B2 at r39; try dsimp only at r39
       refine .go 5 ?_
       refine .cond_dec rfl (fun _ => ?_) (fun c => absurd (drop_lt g35) c)
       refine .go 2 ?_
       refine .block (.go 2 ?_)
       obtain ⟨c40, p41, h42⟩ := SlR.get s1 (drop_idx g35)
       obtain rfl := h42
       refine .q .ro (.idxR s1 rfl rfl (drop_idx g35) sl22 ty3.sz) rfl (.q .ro (.load_rp p41 mcs rfl ty3 rfl) rfl (.go 6 ?_))
       refine .q .ro (.remt rfl rfl (by decide)) rfl (.go 2 ?_)
       refine .drawL (.q 0 (.q 1 (.q 2 (.q 3 (.q 4 (.e 5 1 (.e 6 1 (.q 7 (.e 8 2 .nil))))))))) [_, _] (by kernel_rfl) (by kernel_rfl) (pick_mem [0, 1] rfl) (.go 4 ?_)
       obtain ⟨u43, hu43, r44⟩ := bind_some r39
       refine .dq (.remt rfl rfl (nz_some hu43)) rfl ?_
       refine .lit [_] [(0, _)] .d1 sl22 ty3 rfl rfl rfl rfl rfl rfl (fun b45 hb45 => ?_)
       have o46 : OL ri G [.int .i64 (Int.tmod (Int.tmod (w64 (v29 * 48271)) 2147483647) x37)] ([(Int.tmod (Int.tmod (w64 (v29 * 48271)) 2147483647) x37)] : List Int) := ((OL.cons rfl (Rep.intI .i64 (Int.tmod (Int.tmod (w64 (v29 * 48271)) 2147483647) x37)) (OL.nil (Rp' := ri))) :)
       refine .reval 50 (n' := ([(Int.tmod (Int.tmod (w64 (v29 * 48271)) 2147483647) x37)] : List Int).length) rfl rfl (.clsL (HpLe.refl _) (pick_mem [0, 1] rfl) ?_)
       obtain ⟨u47, hu47, r48⟩ := bind_some r44
       refine .appO (Q := ri) 0 .d1 sl22 ty3 rfl rfl rfl rfl rfl rfl o34 o46 rfl rfl rfl B0 hu47 rfl (fun a49 k50 cs51 o53 => ?_)
       refine .clsL (HpLe.refl _) (pick_mem [0, 1] rfl) (.go 1 ?_)
       refine .store 0 [_, _] [_, _] .d2 rfl rfl rfl ty22 rfl rfl rfl rfl (.go 6 ?_)
       exact (hb26 _ _ ⟨(i27 + 1), xs38, (Int.tmod (w64 (v29 * 48271)) 2147483647), u47, a49, k50, cs51, rfl, rfl, o53, (drop_succ g35), r48⟩ (Nat.lt_succ_self _)).ax ⟨rfl, (congrArg (fun z => some (Value.int .i64 z)) (idx_wrap (SlR.len s1) g35)), rfl, rfl, rfl, rfl, trivial⟩
    ·intro hb55
     refine .block ?_
     refine .lp (fun y m => ∃ (Z0 : Nat) (Z1 : List Int), y = ⟨[(24, .int .i64 (Z0 : Int))], [], [], []⟩ ∧ Z1.length = m ∧ List.drop Z0 x1 = Z1 ∧ ref02_Seeded_L4 (ref02_Seeded_J3 x0 x1) Z1  = some r) [(0, _), (1, _), (4, _), (22, _), (23, _)] [_] [] ⟨0, x1, rfl, rfl, rfl, r11⟩ (fun y m hI hb58 => ?_)
     obtain ⟨i59, w60, rfl, rfl, g61, r62⟩ := hI
     refine .gn 0 ?_
     cases w60 with
     | nil =>
      rw [ref02_Seeded_L4] at r62; try dsimp only at r62
      refine .go 5 ?_
      refine .cond_dec rfl (fun c => absurd c (drop_nil g61)) (fun _ => ?_)
      refine .exit rfl ?_
      exact (hb55 _ ⟨(0), rfl, r62⟩).ar
     | cons x63 xs65 =>
      have r66 : ref02_Seeded_B4 (ref02_Seeded_J3 x0 x1) (ref02_Seeded_L4 (ref02_Seeded_J3 x0 x1) xs65) x63  = some r := r62; clear r62; unfold ref02_Seeded_B4 at r66; try dsimp only at r66
      refine .go 5 ?_
      refine .cond_dec rfl (fun _ => ?_) (fun c => absurd (drop_lt g61) c)
      refine .go 2 ?_
      refine .block (.go 2 ?_)
      obtain ⟨c67, p68, h69⟩ := SlR.get s1 (drop_idx g61)
      obtain rfl := h69
      refine .q .ro (.idxR s1 rfl rfl (drop_idx g61) sl22 ty3.sz) rfl (.q .ro (.load_rp p68 mcs rfl ty3 rfl) rfl (.go 7 ?_))
      refine .kR (fun y => y = ⟨[(33, .bool (decide ((x63 < 1) ∨ (2147483647 < x63))))], G :: Fs, [], []⟩) [(24, _), (0, _), (1, _), (4, _), (22, _), (23, _)] [_] [0] [] [] 3 ?_ ?_
      ·rintro _ rfl
       refine .gn 1 ?_
       refine .cH r66 (fun c71 r72 => ?_) (fun c71 r73 => ?_)
       ·refine .go 2 ?_
        refine .q .ro (.build [_, _] [] ty56 pl56 rfl rfl) rfl (.store 0 [_, _] [_] .ro rfl rfl rfl ty56 rfl rfl rfl rfl (.go 2 ?_))
        cases r72
        refine .rW 1 [.cell 4 56, .tmp 5] [_, _] Tryz.func70 Tryz.results70 ⟨RV.cell_a 0 [_, _] rfl rfl ty56 rfl, RV.tmp rfl, trivial⟩ B0 hS0 (fun G' hg => ⟨none, 0, rfl, rfl, rfl, (SlR.mono hg (SlR.nil (Rp' := ri)))⟩)
       ·refine .go 6 ?_
        exact (hb58 _ _ ⟨(i59 + 1), xs65, rfl, rfl, (drop_succ g61), r73⟩ (Nat.lt_succ_self _)).ax ⟨(congrArg (fun z => some (Value.int .i64 z)) (idx_wrap (SlR.len s1) g61)), rfl, rfl, rfl, rfl, rfl, trivial⟩
      ·intro hb74
       refine .split 30 rfl (fun c75 => ?_) (fun c75 => ?_)
       ·refine .go 3 ?_
        exact (hb74 _ rfl).ax ⟨dor_t c75, rfl, rfl, rfl, rfl, rfl, rfl, trivial⟩
       ·refine .go 5 ?_
        exact (hb74 _ rfl).ax ⟨dor_f c75, rfl, rfl, rfl, rfl, rfl, rfl, trivial⟩
 ·intro hb3
  refine .split 13 rfl (fun c2 => ?_) (fun c2 => ?_)
  ·refine .go 3 ?_
   exact (hb3 _ rfl).ax ⟨dor_t c2, rfl, rfl, rfl, trivial⟩
  ·refine .go 5 ?_
   exact (hb3 _ rfl).ax ⟨dor_f c2, rfl, rfl, rfl, trivial⟩
theorem make_Seed_c {x0_0 : List Int} {x0_1 : Int} {x1 : List Int} {r : (((List Int) × Int) × ((List Int) × Int))} (hG : G ∈ Fs) (s0_0 : SlR ri G a0_0 k0_0 x0_0) (s1 : SlR ri G a1 k1 x1) (h : make_Seed (x0_0, x0_1) x1 = some r) : RetW Tryz.prog 22 #[.pointer (some ⟨p0, 0, none⟩), .slice a1 x1.length k1] Fs [(p0, .cells #[.slice a0_0 x0_0.length k0_0, .int .i64 x0_1] 121 (0, 0))] [] (fun v bo so G => ∃ a0 : Option Addr, ∃ k0 : Nat, ∃ a1 : Option Addr, ∃ k1 : Nat, v = .agg #[.slice a0 r.1.1.length k0, .int .i64 r.1.2] ∧ bo = [(p0, .cells #[.slice a1 r.2.1.length k1, .int .i64 r.2.2] 121 (0, 0))] ∧ so = [] ∧ SlR ri G a0 k0 r.1.1 ∧ SlR ri G a1 k1 r.2.1) := by
 unfold make_Seed at h
 try dsimp only at h
 refine RetW.st [(0, _), (1, _)] Tryz.func22 Tryz.ntmps22 hG fun w0 S0 hS0 B0 => ?_
 refine .go 2 ?_
 refine .alloc .ro ty56 rfl (fun b1 hb1 => ?_)
 refine .go 4 ?_
 obtain ⟨u2, hu2, r3⟩ := bind_some h
 refine .pull 1 rfl [_, _] rfl ?_
 refine .callS (b1 := [_]) (b2 := [_]) (s1 := []) [_, _] [] .ro rfl rfl Tryz.call18 rfl rfl (make_Deck_Next_c mcs s0_0 hu2) rfl (fun v5 bo so h4 => ?_)
 obtain ⟨a6, k7, rfl, rfl, rfl, s8⟩ := h4
 refine .gn 2 ?_
 obtain ⟨u9, hu9, r10⟩ := bind_some r3
 refine .cW [_, _] Tryz.call70 (ref02_Seeded_c mcs s1 hu9) B0 (fun v12 bo so G13 e14 B15 h11 => ?_)
 obtain ⟨a17, k18, rfl, rfl, rfl, s19⟩ := h11
 refine .gn 3 ?_
 refine .alloc .ro ty56 rfl (fun b20 hb20 => ?_)
 refine .store 0 [_, _] [_, _, _] .ro rfl rfl rfl ty56 rfl rfl rfl rfl (.go 4 ?_)
 refine .q .ro (.load_own_a 0 [_, _] rfl rfl ty56 rfl) rfl (.store 2 [_, _] [_, _, _] .ro rfl rfl rfl ty56 rfl rfl rfl rfl (.go 1 ?_))
 cases r10
 refine .pull 1 rfl [_, _, _] rfl (.pull 2 rfl [_, _, _] rfl (.pull 2 rfl [_, _, _] rfl ?_))
 refine .rW 2 [.cell 4 56] [_] Tryz.func22 Tryz.results22 ⟨RV.cell_a 1 [_, _] rfl rfl ty56 rfl, trivial⟩ B15 hS0 (fun G' hg => ⟨a17, k18, a6, k7, rfl, rfl, rfl, (SlR.mono hg s19), (SlR.mono hg (SlR.mono e14 s8))⟩)
end Go.Proofs.YtfcicopgdahmcaaGreatDoor
end
