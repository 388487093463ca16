/- What the proof needs, gathered by wip/gen/shake.py. -/
import Derived.Calls
import Derived.Deep.Quiet
import Derived.Below
import Derived.Laws.AppendOwn
import Derived.WalkKit
import Derived.Laws.OwnMore
import Derived.Deep.Slices
import Derived.ChangeOld
import Derived.ArgAppend
import Derived.RangeFuncIn
import Derived.RangeFuncRecord
import Derived.RangeFuncLeaves
import Derived.Laws.MakeOwn
import Derived.IntWalk
import Derived.Laws.IdiomStrings
import Derived.Laws.Cover3
import Derived.Laws.CopyOwn
import Derived.MapKept
import Derived.RangeFuncNested
import Derived.Test.YtfcicopgdahmcaaGreatDoorRows
import Derived.LaidEql
import Derived.Stop.Asserts
import Derived.RowKitTokens
import Derived.Test.YtfcicopgdahmcaaGreatDoorCards
import Derived.LaidLaws
import Derived.Look8
import Derived.MakeChecks
import Derived.Test.YtfcicopgdahmcaaGreatDoorTie
import Derived.LaidMore
import Derived.Lay
import Derived.SevenTiedAt
import Derived.Stop.Joined
import Derived.ProofKit
import Derived.OpenShut
import Derived.ShutString
import Derived.Test.YtfcicopgdahmcaaGreatDoorTopRecordsQ3
set_option linter.unusedVariables false
set_option linter.unusedSimpArgs false
section
set_option maxHeartbeats 4000000
set_option maxRecDepth 100000
namespace Go.Proofs.YtfcicopgdahmcaaGreatDoor
open Go.RowKit
set_option linter.unusedSimpArgs false
set_option linter.unusedVariables false
set_option synthInstance.maxSize 2000
set_option synthInstance.maxHeartbeats 400000
variable {Fs : List Hp} {G : Hp} {p0 k0_2 k0_3 k0_4 k1 k2 : Nat} {a0_2 a0_3 a0_4 a1 a2 : Option Addr} {cc0_2 : List Value} {ee0_2 : List NE}
theorem Xbx {x0_0 : Int} {x0_1 : Int} {x0_2 : List (List Int)} {x0_3 : Int} {x0_4 : List Int} {x1 : Int} {r : ((List (List Int)) × Int × (List Int))} (hG : G ∈ Fs) (oo0_2 : NL ri G ee0_2 cc0_2 x0_2) (hnx0_4 : x0_4.length = 32) (h : X4t (x0_0, x0_1, x0_2, x0_3, x0_4) x1 = some r) : RetS Tryz.prog 201 #[.pointer (some ⟨p0, 0, none⟩), .int .i64 x1] Fs [(p0, .cells (([.int .i64 x0_0, .int .i64 x0_1, .slice a0_2 x0_2.length k0_2, .int .i64 x0_3] : List Value) ++ List.map (Value.int .i64) x0_4).toArray 286 (0, 0))] [.s (.slice a0_2 x0_2.length k0_2) 22 1 x0_2.length cc0_2, .g (packG 3 1 ee0_2)] (fun v bo so => ∃ le0 : List NE, ∃ lc0 : List Value, v = .tuple #[] ∧ bo = [(p0, .cells (([.int .i64 x0_0, .int .i64 x0_1, .slice a0_2 r.1.length k0_2, .int .i64 r.2.1] : List Value) ++ List.map (Value.int .i64) r.2.2).toArray 286 (0, 0))] ∧ so = [.s (.slice a0_2 r.1.length k0_2) 22 1 r.1.length lc0, .g (packG 3 1 le0)] ∧ NL ri G le0 lc0 r.1 ∧ r.1.length = x0_2.length ∧ r.2.2.length = 32) := by
 unfold X4t at h
 try dsimp only at h
 refine RetS.st [(0, _), (1, _)] Tryz.func201 Tryz.ntmps201 hG fun w0 S0 hS0 B0 => ?_
 refine .go 9 ?_
 refine .kB (fun y => ∃ (Z0 : _), y = ⟨[(4, .int .i64 Z0)], G :: Fs, [], []⟩ ∧ (X1e x1 x0_0 x0_3 x0_4 x0_2) Z0 = some r) [(0, _), (1, _)] [_] [0] [_, _] [0, 1] ?_ ?_
 ·rintro _ ⟨v95, rfl, r97⟩
  refine .gn 0 ?_
  unfold X1e at r97
  try dsimp only at r97
  refine .go 11 ?_
  refine .cH r97 (fun c10 r11 => ?_) (fun c10 r12 => ?_)
  ·cases r11
   refine .rS [] [] Tryz.func201 Tryz.results201 ⟨ee0_2, cc0_2, rfl, rfl, rfl, oo0_2, rfl, hnx0_4⟩
  ·refine .go 2 ?_
   refine .kG (fun y => ∃ (Z0 : List (List Int)) (Z1 Z2 : _), y = ⟨[], G :: Fs, [(p0, .cells (([.int .i64 x0_0, .int .i64 x0_1, .slice a0_2 Z0.length k0_2, .int .i64 x0_3] : List Value) ++ List.map (Value.int .i64) x0_4).toArray 286 (0, 0))], [.s (.slice a0_2 Z0.length k0_2) 22 1 Z0.length Z2, .g (packG 3 1 Z1)]⟩ ∧ NL ri G Z1 Z2 Z0 ∧ Z0.length = x0_2.length ∧ (X4r x1 x0_0 x0_3 x0_4) Z0 = some r) [(0, _), (1, _)] [] [] [] [] ?_ ?_
   ·rintro _ ⟨v13, es14, cs15, rfl, o16, hl17, r18⟩
    refine .gn 0 ?_
    unfold X4r at r18
    try dsimp only at r18
    refine .go 1 ?_
    refine .drawL (.q 0 (.q 1 (.q 2 (.q 3 (.q 4 (.q 5 (.q 6 (.q 7 (.e 8 1 (.e 9 1 (.q 10 .nil))))))))))) [_] (by kernel_rfl) (by kernel_rfl) (X1 [0] rfl) (.go 8 ?_)
    obtain ⟨u19, hu19, r20⟩ := X0 r18
    obtain ⟨e21, he23, hn24, ho25, p26⟩ := NL.get o16 hu19
    refine .q .d1 (.idxO 0 rfl rfl rfl hu19 sl51 ty22.sz) rfl (.clsL (HpLe.refl _) (X1 [0] rfl) (.q .d1 (.loadO 0 0 rfl hu19 p26 rfl (.inl ⟨rfl, rfl⟩) ty22 rfl) rfl (.clsL (HpLe.refl _) (X1 [0] rfl) (.go 3 ?_))))
    refine .drawL (.q 0 (.q 1 (.q 2 (.q 3 (.q 4 (.q 5 (.e 6 1 (.e 7 1 (.e 8 1 (.q 9 .nil)))))))))) [_] (by kernel_rfl) (by kernel_rfl) (X1 [0] rfl) (.go 6 ?_)
    obtain ⟨u27, hu27, r28⟩ := X0 r20
    obtain ⟨c29, p30, h31⟩ := OL.get ho25 hu27
    obtain rfl := h31
    refine .q .d1 (.inN 1 rfl he23 hn24 (.idxO (l := u19) 0 rfl rfl rfl hu27 sl22 ty3.sz)) rfl (.clsL (HpLe.refl _) (X1 [0] rfl) (.q .d1 (.inN 1 rfl he23 hn24 (.loadO (l := u19) 0 0 rfl hu27 p30 rfl (.inl ⟨rfl, rfl⟩) ty3 rfl)) rfl (.clsL (HpLe.refl _) (X1 [0] rfl) ?_)))
    obtain ⟨u32, hu32, r33⟩ := X0 r28
    refine .cVd [_, _] Tryz.call197 (X5s mcs  hu32) ?_
    refine .clsL (HpLe.refl _) (X1 [0] rfl) (.go 9 ?_)
    refine .kB (fun y => ∃ (Z0 : List (List Int)) (Z1 Z2 : _), y = ⟨[], G :: Fs, [(p0, .cells (([.int .i64 x0_0, .int .i64 x0_1, .slice a0_2 Z0.length k0_2, .int .i64 x0_3] : List Value) ++ List.map (Value.int .i64) x0_4).toArray 286 (0, 0))], [.s (.slice a0_2 Z0.length k0_2) 22 1 Z0.length Z2, .g (packG 3 1 Z1)]⟩ ∧ NL ri G Z1 Z2 Z0 ∧ Z0.length = x0_2.length ∧ HD Z1 x0_3 e21.h ∧ (X1c x1 x0_3 x0_0 x0_4) Z0 = some r) [(0, _), (1, _), (5, _)] [] [] [] [] ?_ ?_
    ·rintro _ ⟨v34, es35, cs36, rfl, o37, hl38, hd39, r40⟩
     refine .gn 0 ?_
     unfold X1c at r40
     try dsimp only at r40
     refine .go 10 ?_
     refine .kB (fun y => ∃ (Z0 : List (List Int)) (Z1 Z2 : _), y = ⟨[], G :: Fs, [(p0, .cells (([.int .i64 x0_0, .int .i64 x0_1, .slice a0_2 Z0.length k0_2, .int .i64 x0_3] : List Value) ++ List.map (Value.int .i64) x0_4).toArray 286 (0, 0))], [.s (.slice a0_2 Z0.length k0_2) 22 1 Z0.length Z2, .g (packG 3 1 Z1)]⟩ ∧ NL ri G Z1 Z2 Z0 ∧ Z0.length = x0_2.length ∧ (X1a x1 x0_3 x0_4) Z0 = some r) [(0, _), (1, _)] [] [] [] [] ?_ ?_
     ·rintro _ ⟨v41, es42, cs43, rfl, o44, hl45, r46⟩
      refine .gn 0 ?_
      unfold X1a at r46
      try dsimp only at r46
      refine .go 9 ?_
      refine .store 0 ([_, _, _, _] ++ List.map (Value.int .i64) x0_4) [_] .ro rfl rfl rfl ty3 rfl rfl rfl rfl (.go 1 ?_)
      refine .drawL (.q 0 (.q 1 (.q 2 (.q 3 (.q 4 (.q 5 (.q 6 (.q 7 (.q 8 (.e 9 2 .nil)))))))))) [_] (by kernel_rfl) (by kernel_rfl) (X1 [0] rfl) (.go 8 ?_)
      obtain ⟨u47, hu47, r48⟩ := X0 r46
      refine .dq (.indexAddr_ar (4 + (x1).toNat) rfl rfl ar284 ty3.sz (X21 hu47).1 (Xbi (X21 hu47).2.1 hnx0_4) (by rw [Nat.mul_one])) rfl ?_
      obtain ⟨u49, hu49, r50⟩ := X0 r48
      refine .storeArr 0 (pre := [_, _, _, _]) (L := x0_4) (n := x1) .d2 rfl rfl rfl ty3 rfl hu49 (fun hl52 => ?_)
      refine .gn 1 ?_
      refine .prune [] trivial ?_
      cases r50
      refine .rS [] [] Tryz.func201 Tryz.results201 ⟨es42, cs43, rfl, rfl, rfl, o44, hl45, (hl52.trans hnx0_4)⟩
     ·intro hb53
      refine .block (.pullS 1 rfl [_, _] rfl (.pullS 1 rfl [_, _] rfl ?_))
      refine .lp (fun y m => ∃ (Z0 : Nat) (Z1 Z2 : List (List Int)) (Z3 Z4 : _), y = ⟨[(116, .slice a0_2 Z2.length k0_2), (118, .int .i64 (Z0 : Int))], [], [(p0, .cells (([.int .i64 x0_0, .int .i64 x0_1, .slice a0_2 Z2.length k0_2, .int .i64 x0_3] : List Value) ++ List.map (Value.int .i64) x0_4).toArray 286 (0, 0))], [.s (.slice a0_2 Z2.length k0_2) 22 1 Z2.length Z4, .g (packG 3 1 Z3)]⟩ ∧ Z1.length = m ∧ NL ri G Z3 Z4 Z2 ∧ Z2.length = x0_2.length ∧ HD Z3 x0_3 e21.h ∧ List.drop Z0 v34 = Z1 ∧ X1b (X1a x1 x0_3 x0_4) x1 x0_3 x0_0 Z1 Z0 Z2 = some r) [(0, _), (1, _), (5, _), (117, _)] [] [] ⟨0, v34, v34, es35, cs36, rfl, rfl, o37, hl38, hd39, rfl, r40⟩ (fun y m hI hb54 => ?_)
      obtain ⟨i55, w56, v57, es58, cs59, rfl, rfl, o60, hl61, hd62, g63, r65⟩ := hI
      refine .gn 0 ?_
      cases w56 with
      | nil =>
       rw [X1b] at r65; try dsimp only at r65
       refine .go 5 ?_
       refine .cond_dec rfl (fun c => absurd c (Xl g63)) (fun _ => ?_)
       refine .exit rfl ?_
       exact (hb53 _ ⟨v57, es58, cs59, rfl, o60, hl61, r65⟩).ar
      | cons x66 xs68 =>
       have r69 : X4p (X1a x1 x0_3 x0_4) x1 x0_3 x0_0 (X1b (X1a x1 x0_3 x0_4) x1 x0_3 x0_0 xs68 (i55 + 1)) x66 i55 v57 = some r := r65; clear r65; unfold X4p at r69; try dsimp only at r69
       refine .go 5 ?_
       refine .cond_dec rfl (fun _ => ?_) (fun c => absurd (X15 g63) c)
       refine .go 2 ?_
       refine .block (.go 3 ?_)
       obtain ⟨u70, hu70, r71⟩ := X0 r69
       obtain ⟨e72, he73, hn74, ho75, p76⟩ := NL.get o60 hu70
       refine .q .ro (.idxO 0 rfl rfl rfl hu70 sl51 ty22.sz) rfl (.q .ro (.loadO 0 0 rfl hu70 p76 rfl (.inl ⟨rfl, rfl⟩) ty22 rfl) rfl (.go 12 ?_))
       obtain ⟨u78, h79, r80⟩ := X0 r71
       refine .kR (fun y => y = ⟨[(135, .bool u78)], G :: Fs, [], []⟩) [(116, _), (118, _), (0, _), (1, _), (5, _), (117, _), (10, _)] [_] [0] [_, _] [0, 1] 6 ?_ ?_
       ·rintro _ rfl
        refine .gn 1 ?_
        refine .cB r80 (fun c81 r82 => ?_) (fun c81 r83 => ?_)
        ·refine .drawL (.q 0 (.q 1 (.q 2 (.q 3 (.q 4 (.q 5 (.q 6 (.q 7 (.q 8 (.q 9 (.q 10 (.q 14 (.e 11 1 (.e 12 1 (.e 13 1 (.e 15 2 .nil)))))))))))))))) [_] (by kernel_rfl) (by kernel_rfl) (X1 [0] rfl) ?_
         refine .go 12 ?_
         obtain ⟨u84, hu84, r85⟩ := X0 r82
         obtain ⟨c86, p87, h88⟩ := OL.get ho75 hu84
         obtain rfl := h88
         refine .q .d1 (.inN 1 rfl he73 hn74 (.idxO (l := u70) 0 rfl rfl rfl hu84 sl22 ty3.sz)) rfl (.clsL (HpLe.refl _) (X1 [0] rfl) (.q .d1 (.inN 1 rfl he73 hn74 (.loadO (l := u70) 0 0 rfl hu84 p87 rfl (.inl ⟨rfl, rfl⟩) ty3 rfl)) rfl (.clsL (HpLe.refl _) (X1 [0] rfl) ?_)))
         obtain ⟨u89, hu89, r90⟩ := X0 r85
         refine .cVd [_, _, _] Tryz.call190 (X32 mcs  hu89) ?_
         refine .clsL (HpLe.refl _) (X1 [0] rfl) ?_
         obtain ⟨u91, hu91, r92⟩ := X0 r90
         obtain ⟨e93, he94, hn96, ho98, p99, ea100, ek101, el102⟩ := NL.getH o60 hu91 hd62 hn24
         refine .takeN 1 rfl he94 hn96 (.revalV 150 (v' := .slice e93.a u91.length e93.k) (by rw [ea100, ek101, el102]) rfl ?_)
         obtain ⟨u103, hu103, r104⟩ := X0 r92
         refine .takeN 2 rfl (NL.ne he73 (Xfw hu91) (Xfw hu70) (Xi7 hu103)) hn74 ?_
         refine .toV 0 rfl (fun vb105 po106 va107 vb108 => ?_)
         obtain ⟨u109, hu109, r110⟩ := X0 r104
         refine .pullS 1 rfl [_, _, _, _] rfl (.pullS 1 rfl [_, _, _, _] rfl ?_)
         refine .callB (Q := fun v bo so => ∃ lc0 : List Value, v = .tuple #[] ∧ bo = [] ∧ so = [.g (viewG vb105 3 [] lc0 po106)] ∧ OL ri G lc0 u109 ∧ u109.length = u70.length) (b1 := []) (b2 := [_]) (s1 := [_]) (sB := [_]) (s2 := [_, _]) [_, _, _, _] [] .d2 rfl rfl Tryz.call67 rfl rfl (fun Fs' G' hle hB hm => RetG.mono (X1p (G := G') hm va107 (OL.mono hle ho75) (SlR.rd ho98 rfl hle (hB _ (List.mem_of_getElem? (i := 0) rfl))) hu109) (fun v _ bo so h => by obtain ⟨l0c, e1, e2, e3, f0, f1⟩ := h; exact ⟨l0c, e1, e2, e3, OL.flat (Rep.flat_int _) f0, f1⟩)) rfl (fun v111 bo so h112 => ?_)
         obtain ⟨cs113, rfl, rfl, rfl, o114, hl115⟩ := h112
         refine .gn 0 ?_
         refine .ofV 0 rfl vb108 hl115 o114 rfl ?_
         obtain ⟨u116, hu116, r117⟩ := X0 r110
         refine .backN2 1 2 (i := (i55 : Int)) (j := x0_3) rfl rfl rfl o60 he73 he94 (Xfw hu70) (Xfw hu91) (Ne.symm (Xi7 hu103)) (Eq.trans hl115 hn74.symm) o114 hu116 (fun es118 hles118 o119 hmes118 he120 => ?_)
         refine .reval 116 hles118 rfl (.recell 0 (([_, _, .slice a0_2 u116.length k0_2, _] : List Value) ++ List.map (Value.int .i64) x0_4) rfl (by rw [hles118] <;> rfl) [_] rfl (.backS 1 (i := x0_3) (e := e93) rfl rfl he120 hn96 (.go 6 ?_)))
         exact (hb54 _ _ ⟨(i55 + 1), xs68, u116, es118, cs59, rfl, rfl, o119, (hles118.trans hl61), (HD.of hmes118 hd62), (X4 g63), r117⟩ (Nat.lt_succ_self _)).ax ⟨rfl, (congrArg (fun z => some (Value.int .i64 z)) (X5 (NL.len' o37) g63)), rfl, rfl, rfl, rfl, trivial⟩
        ·refine .go 6 ?_
         exact (hb54 _ _ ⟨(i55 + 1), xs68, v57, es58, cs59, rfl, rfl, o60, hl61, hd62, (X4 g63), r83⟩ (Nat.lt_succ_self _)).ax ⟨rfl, (congrArg (fun z => some (Value.int .i64 z)) (X5 (NL.len' o37) g63)), rfl, rfl, rfl, rfl, trivial⟩
       ·intro hb121
        refine .split 129 rfl (fun c122 => ?_) (fun c122 => ?_)
        ·have r123 := ifT h79 c122
         refine .go 5 ?_
         obtain ⟨u124, hu124, r125⟩ := X0 r123
         obtain ⟨c126, p127, h128⟩ := OL.get ho75 hu124
         obtain rfl := h128
         refine .q .ro (.inN 1 rfl he73 hn74 (.idxO (l := u70) 0 rfl rfl rfl hu124 sl22 ty3.sz)) rfl (.go 1 ?_)
         refine .q .ro (.inN 1 rfl he73 hn74 (.loadO (l := u70) 0 0 rfl hu124 p127 rfl (.inl ⟨rfl, rfl⟩) ty3 rfl)) rfl (.go 3 ?_)
         exact (hb121 _ rfl).ax ⟨sval r125, rfl, rfl, rfl, rfl, rfl, rfl, rfl, trivial⟩
        ·have r129 := ifF h79 c122
         refine .go 6 ?_
         exact (hb121 _ rfl).ax ⟨sval r129, rfl, rfl, rfl, rfl, rfl, rfl, rfl, trivial⟩
    ·intro hb130
     refine .block (.pullS 1 rfl [_, _] rfl (.pullS 1 rfl [_, _] rfl ?_))
     refine .lp (fun y m => ∃ (Z0 : Nat) (Z1 : List Int) (Z2 : List (List Int)) (Z3 Z4 : _), y = ⟨[(97, .int .i64 (Z0 : Int))], [], [(p0, .cells (([.int .i64 x0_0, .int .i64 x0_1, .slice a0_2 Z2.length k0_2, .int .i64 x0_3] : List Value) ++ List.map (Value.int .i64) x0_4).toArray 286 (0, 0))], [.s (.slice a0_2 Z2.length k0_2) 22 1 Z2.length Z4, .g (packG 3 1 Z3)]⟩ ∧ Z1.length = m ∧ NL ri G Z3 Z4 Z2 ∧ Z2.length = x0_2.length ∧ HD Z3 x0_3 e21.h ∧ HD Z3 x0_3 e21.h ∧ List.drop Z0 u19 = Z1 ∧ X1d (X1c x1 x0_3 x0_0 x0_4) x0_3 u32 x0_0 Z1 Z0 Z2 = some r) [(0, _), (1, _), (5, _), (6, _), (95, _), (96, _)] [] [] ⟨0, u19, v13, es14, cs15, rfl, rfl, o16, hl17, (HD.mk he23), (HD.mk he23), rfl, r33⟩ (fun y m hI hb131 => ?_)
     obtain ⟨i132, w133, v134, es135, cs136, rfl, rfl, o137, hl138, hd139, hd140, g141, r142⟩ := hI
     refine .gn 0 ?_
     cases w133 with
     | nil =>
      rw [X1d] at r142; try dsimp only at r142
      refine .go 5 ?_
      refine .cond_dec rfl (fun c => absurd c (Xl g141)) (fun _ => ?_)
      refine .exit rfl ?_
      exact (hb130 _ ⟨v134, es135, cs136, rfl, o137, hl138, hd139, r142⟩).ar
     | cons x143 xs144 =>
      have r145 : X4q (X1c x1 x0_3 x0_0 x0_4) x0_3 u32 x0_0 (X1d (X1c x1 x0_3 x0_0 x0_4) x0_3 u32 x0_0 xs144 (i132 + 1)) x143 i132 v134 = some r := r142; clear r142; unfold X4q at r145; try dsimp only at r145
      refine .go 5 ?_
      refine .cond_dec rfl (fun _ => ?_) (fun c => absurd (X15 g141) c)
      refine .go 2 ?_
      refine .block (.go 3 ?_)
      obtain ⟨u146, hu146, r147⟩ := X0 r145
      obtain ⟨e148, he149, hn150, ho151, p152, ea153, ek154, el155⟩ := NL.getH o137 hu146 hd140 hn24
      obtain ⟨u156, hu156, r157⟩ := X0 r147
      obtain ⟨c158, p159, h160⟩ := OL.get ho151 hu156
      obtain rfl := h160
      refine .q .ro (.idxNH 1 (l := u146) rfl he149 hn150 ea153 ek154 el155 rfl rfl hu156 sl22 ty3.sz) rfl (.q .ro (.inN 1 rfl he149 hn150 (.loadO (l := u146) 0 0 rfl hu156 p159 rfl (.inl ⟨rfl, rfl⟩) ty3 rfl)) rfl (.go 12 ?_))
      obtain ⟨u161, hu161, r162⟩ := X0 r157
      refine .cV [_, _, _] Tryz.call77 (X13 mcs  hu161) ?_
      obtain ⟨u163, hu163, r164⟩ := X0 r162
      obtain ⟨e165, he166, hn167, ho168, p169, ea170, ek171, el172⟩ := NL.getH o137 hu163 hd139 hn24
      obtain ⟨u173, hu173, r174⟩ := X0 r164
      obtain ⟨c175, p176, h177⟩ := OL.get ho168 hu173
      obtain rfl := h177
      refine .q .ro (.idxNH 1 (l := u163) rfl he166 hn167 ea170 ek171 el172 rfl rfl hu173 sl22 ty3.sz) rfl (.takeN 1 rfl he166 hn167 ?_)
      obtain ⟨u178, hu178, r179⟩ := X0 r174
      refine .storeR 0 0 (Q := ri) .ro rfl rfl ho168 hu178 rfl (.inl ⟨rfl, rfl⟩) rfl ty3 p176 ((Rep.intI .i64 u161) :) rfl rfl (fun cs180 hlcs180 o181 => ?_)
      obtain ⟨u182, hu182, r183⟩ := X0 r179
      refine .backN 0 1 rfl rfl rfl o137 he166 (Eq.trans hlcs180 hn167.symm) o181 hu182 (fun es184 hles184 o185 hmes184 => ?_)
      refine .recell 0 (([_, _, .slice a0_2 u182.length k0_2, _] : List Value) ++ List.map (Value.int .i64) x0_4) rfl (by rw [hles184] <;> rfl) [_] rfl (.go 6 ?_)
      exact (hb131 _ _ ⟨(i132 + 1), xs144, u182, es184, cs136, rfl, rfl, o185, (hles184.trans hl138), (HD.of hmes184 hd139), (HD.of hmes184 hd140), (X4 g141), r183⟩ (Nat.lt_succ_self _)).ax ⟨(congrArg (fun z => some (Value.int .i64 z)) (X5 (OL.len' ho25) g141)), rfl, rfl, rfl, rfl, rfl, rfl, trivial⟩
   ·intro hb186
    refine .drawL (.q 0 (.q 1 (.q 2 (.q 3 (.q 4 (.q 5 (.q 6 (.q 7 (.q 8 (.q 9 (.q 10 (.q 11 (.q 12 (.q 13 (.q 14 (.q 15 (.q 16 (.q 17 (.q 20 (.q 21 (.q 22 (.q 23 (.q 24 (.q 25 (.q 26 (.q 27 (.alt (.e 18 1 (.alt (.e 19 1 (.e 28 1 (.e 29 1 (.e 30 1 (.e 31 1 (.e 32 2 (.e 33 2 .nil))))))) (.e 28 1 (.alt (.e 19 1 (.e 29 1 (.e 30 1 (.e 31 1 (.e 32 2 (.e 33 2 .nil)))))) (.e 29 1 (.e 19 1 (.e 30 1 (.e 31 1 (.e 32 2 (.e 33 2 .nil)))))))))) (.e 28 1 (.alt (.e 18 1 (.alt (.e 19 1 (.e 29 1 (.e 30 1 (.e 31 1 (.e 32 2 (.e 33 2 .nil)))))) (.e 29 1 (.e 19 1 (.e 30 1 (.e 31 1 (.e 32 2 (.e 33 2 .nil)))))))) (.e 29 1 (.e 18 1 (.e 19 1 (.e 30 1 (.e 31 1 (.e 32 2 (.e 33 2 .nil)))))))))))))))))))))))))))))))))))) [_] (by kernel_rfl) (by kernel_rfl) (X1 [0] rfl) ?_
    obtain ⟨u187, hu187, r188⟩ := X0 r12
    obtain ⟨u189, hu189, r191⟩ := X0 r188
    obtain ⟨u192, hu192, r193⟩ := X0 r191
    obtain ⟨u194, hu194, r195⟩ := X0 r193
    obtain ⟨u196, hu196, r198⟩ := X0 r195
    obtain ⟨u199, hu199, r200⟩ := X0 r198
    refine .go 26 ?_
    refine .alt ?_ ?_
    ·obtain ⟨e202, he203, hn204, ho205, p206⟩ := NL.get oo0_2 hu187
     refine .q .d1 (.idxO 0 rfl rfl rfl hu187 sl51 ty22.sz) rfl (.clsL (HpLe.refl _) (X1 [0] rfl) ?_)
     refine .alt ?_ ?_
     ·refine .q .d1 (.loadO 0 0 rfl hu187 p206 rfl (.inl ⟨rfl, rfl⟩) ty22 rfl) rfl ?_
      refine .clsL (HpLe.refl _) (X1 [0] rfl) ?_
      obtain ⟨e207, he208, hn209, ho210, p211⟩ := NL.get oo0_2 hu189
      refine .q .d1 (.idxO 0 rfl rfl rfl hu189 sl51 ty22.sz) rfl (.clsL (HpLe.refl _) (X1 [0] rfl) (.q .d1 (.loadO 0 0 rfl hu189 p211 rfl (.inl ⟨rfl, rfl⟩) ty22 rfl) rfl (.clsL (HpLe.refl _) (X1 [0] rfl) ?_)))
      obtain ⟨e212, he213, hn214, ho215, p216⟩ := NL.get oo0_2 hu192
      refine .q .d1 (.idxO 0 rfl rfl rfl hu192 sl51 ty22.sz) rfl (.clsL (HpLe.refl _) (X1 [0] rfl) ?_)
      refine .swap1 0 (Q := ri) (ej := e202) .d1 rfl oo0_2 hu192 hn204 rfl (.inl ⟨rfl, rfl⟩) rfl ty22 (fun cs217 o218 => ?_)
      refine .clsL (HpLe.refl _) (X1 [0] rfl) (.q .d2 (.idxO 0 (l := x0_2) rfl rfl rfl hu194 sl51 ty22.sz) rfl ?_)
      refine .swap2 0 1 (Q := ri) (i := x0_3) (j := v95) .d2 rfl rfl oo0_2 o218 hu189 hu187 he208 he203 hn209 hu196 hu199 rfl (.inl ⟨rfl, rfl⟩) rfl ty22 rfl (fun es219 cs220 hlcs220 o221 => ?_)
      refine .reval 41 hlcs220 rfl (.reval 47 hlcs220 rfl (.reval 55 hlcs220 rfl (.reval 60 hlcs220 rfl (.reval 67 hlcs220 rfl (.recell 0 (([_, _, .slice a0_2 u199.length k0_2, _] : List Value) ++ List.map (Value.int .i64) x0_4) rfl (by rw [hlcs220] <;> rfl) [_] rfl (.go 1 ?_))))))
      exact (hb186 _ ⟨u199, es219, cs220, rfl, o221, hlcs220, r200⟩).ar
     ·obtain ⟨e222, he223, hn224, ho225, p226⟩ := NL.get oo0_2 hu189
      refine .q .d1 (.idxO 0 rfl rfl rfl hu189 sl51 ty22.sz) rfl (.clsL (HpLe.refl _) (X1 [0] rfl) ?_)
      refine .alt ?_ ?_
      ·refine .q .d1 (.loadO 0 0 rfl hu187 p206 rfl (.inl ⟨rfl, rfl⟩) ty22 rfl) rfl ?_
       refine .clsL (HpLe.refl _) (X1 [0] rfl) (.q .d1 (.loadO 0 0 rfl hu189 p226 rfl (.inl ⟨rfl, rfl⟩) ty22 rfl) rfl (.clsL (HpLe.refl _) (X1 [0] rfl) ?_))
       obtain ⟨e227, he228, hn229, ho230, p231⟩ := NL.get oo0_2 hu192
       refine .q .d1 (.idxO 0 rfl rfl rfl hu192 sl51 ty22.sz) rfl (.clsL (HpLe.refl _) (X1 [0] rfl) ?_)
       refine .swap1 0 (Q := ri) (ej := e202) .d1 rfl oo0_2 hu192 hn204 rfl (.inl ⟨rfl, rfl⟩) rfl ty22 (fun cs232 o233 => ?_)
       refine .clsL (HpLe.refl _) (X1 [0] rfl) (.q .d2 (.idxO 0 (l := x0_2) rfl rfl rfl hu194 sl51 ty22.sz) rfl ?_)
       refine .swap2 0 1 (Q := ri) (i := x0_3) (j := v95) .d2 rfl rfl oo0_2 o233 hu189 hu187 he223 he203 hn224 hu196 hu199 rfl (.inl ⟨rfl, rfl⟩) rfl ty22 rfl (fun es234 cs235 hlcs235 o236 => ?_)
       refine .reval 41 hlcs235 rfl (.reval 47 hlcs235 rfl (.reval 55 hlcs235 rfl (.reval 60 hlcs235 rfl (.reval 67 hlcs235 rfl (.recell 0 (([_, _, .slice a0_2 u199.length k0_2, _] : List Value) ++ List.map (Value.int .i64) x0_4) rfl (by rw [hlcs235] <;> rfl) [_] rfl (.go 1 ?_))))))
       exact (hb186 _ ⟨u199, es234, cs235, rfl, o236, hlcs235, r200⟩).ar
      ·refine .q .d1 (.loadO 0 0 rfl hu189 p226 rfl (.inl ⟨rfl, rfl⟩) ty22 rfl) rfl ?_
       refine .clsL (HpLe.refl _) (X1 [0] rfl) (.q .d1 (.loadO 0 0 rfl hu187 p206 rfl (.inl ⟨rfl, rfl⟩) ty22 rfl) rfl (.clsL (HpLe.refl _) (X1 [0] rfl) ?_))
       obtain ⟨e237, he238, hn239, ho240, p241⟩ := NL.get oo0_2 hu192
       refine .q .d1 (.idxO 0 rfl rfl rfl hu192 sl51 ty22.sz) rfl (.clsL (HpLe.refl _) (X1 [0] rfl) ?_)
       refine .swap1 0 (Q := ri) (ej := e202) .d1 rfl oo0_2 hu192 hn204 rfl (.inl ⟨rfl, rfl⟩) rfl ty22 (fun cs242 o243 => ?_)
       refine .clsL (HpLe.refl _) (X1 [0] rfl) (.q .d2 (.idxO 0 (l := x0_2) rfl rfl rfl hu194 sl51 ty22.sz) rfl ?_)
       refine .swap2 0 1 (Q := ri) (i := x0_3) (j := v95) .d2 rfl rfl oo0_2 o243 hu189 hu187 he223 he203 hn224 hu196 hu199 rfl (.inl ⟨rfl, rfl⟩) rfl ty22 rfl (fun es244 cs245 hlcs245 o246 => ?_)
       refine .reval 41 hlcs245 rfl (.reval 47 hlcs245 rfl (.reval 55 hlcs245 rfl (.reval 60 hlcs245 rfl (.reval 67 hlcs245 rfl (.recell 0 (([_, _, .slice a0_2 u199.length k0_2, _] : List Value) ++ List.map (Value.int .i64) x0_4) rfl (by rw [hlcs245] <;> rfl) [_] rfl (.go 1 ?_))))))
       exact (hb186 _ ⟨u199, es244, cs245, rfl, o246, hlcs245, r200⟩).ar
    ·obtain ⟨e247, he248, hn249, ho250, p251⟩ := NL.get oo0_2 hu189
     refine .q .d1 (.idxO 0 rfl rfl rfl hu189 sl51 ty22.sz) rfl (.clsL (HpLe.refl _) (X1 [0] rfl) ?_)
     refine .alt ?_ ?_
     ·obtain ⟨e252, he253, hn254, ho255, p256⟩ := NL.get oo0_2 hu187
      refine .q .d1 (.idxO 0 rfl rfl rfl hu187 sl51 ty22.sz) rfl (.clsL (HpLe.refl _) (X1 [0] rfl) ?_)
      refine .alt ?_ ?_
      ·refine .q .d1 (.loadO 0 0 rfl hu187 p256 rfl (.inl ⟨rfl, rfl⟩) ty22 rfl) rfl ?_
       refine .clsL (HpLe.refl _) (X1 [0] rfl) (.q .d1 (.loadO 0 0 rfl hu189 p251 rfl (.inl ⟨rfl, rfl⟩) ty22 rfl) rfl (.clsL (HpLe.refl _) (X1 [0] rfl) ?_))
       obtain ⟨e257, he258, hn259, ho260, p261⟩ := NL.get oo0_2 hu192
       refine .q .d1 (.idxO 0 rfl rfl rfl hu192 sl51 ty22.sz) rfl (.clsL (HpLe.refl _) (X1 [0] rfl) ?_)
       refine .swap1 0 (Q := ri) (ej := e252) .d1 rfl oo0_2 hu192 hn254 rfl (.inl ⟨rfl, rfl⟩) rfl ty22 (fun cs262 o263 => ?_)
       refine .clsL (HpLe.refl _) (X1 [0] rfl) (.q .d2 (.idxO 0 (l := x0_2) rfl rfl rfl hu194 sl51 ty22.sz) rfl ?_)
       refine .swap2 0 1 (Q := ri) (i := x0_3) (j := v95) .d2 rfl rfl oo0_2 o263 hu189 hu187 he248 he253 hn249 hu196 hu199 rfl (.inl ⟨rfl, rfl⟩) rfl ty22 rfl (fun es264 cs265 hlcs265 o266 => ?_)
       refine .reval 41 hlcs265 rfl (.reval 47 hlcs265 rfl (.reval 55 hlcs265 rfl (.reval 60 hlcs265 rfl (.reval 67 hlcs265 rfl (.recell 0 (([_, _, .slice a0_2 u199.length k0_2, _] : List Value) ++ List.map (Value.int .i64) x0_4) rfl (by rw [hlcs265] <;> rfl) [_] rfl (.go 1 ?_))))))
       exact (hb186 _ ⟨u199, es264, cs265, rfl, o266, hlcs265, r200⟩).ar
      ·refine .q .d1 (.loadO 0 0 rfl hu189 p251 rfl (.inl ⟨rfl, rfl⟩) ty22 rfl) rfl ?_
       refine .clsL (HpLe.refl _) (X1 [0] rfl) (.q .d1 (.loadO 0 0 rfl hu187 p256 rfl (.inl ⟨rfl, rfl⟩) ty22 rfl) rfl (.clsL (HpLe.refl _) (X1 [0] rfl) ?_))
       obtain ⟨e267, he268, hn269, ho270, p271⟩ := NL.get oo0_2 hu192
       refine .q .d1 (.idxO 0 rfl rfl rfl hu192 sl51 ty22.sz) rfl (.clsL (HpLe.refl _) (X1 [0] rfl) ?_)
       refine .swap1 0 (Q := ri) (ej := e252) .d1 rfl oo0_2 hu192 hn254 rfl (.inl ⟨rfl, rfl⟩) rfl ty22 (fun cs272 o273 => ?_)
       refine .clsL (HpLe.refl _) (X1 [0] rfl) (.q .d2 (.idxO 0 (l := x0_2) rfl rfl rfl hu194 sl51 ty22.sz) rfl ?_)
       refine .swap2 0 1 (Q := ri) (i := x0_3) (j := v95) .d2 rfl rfl oo0_2 o273 hu189 hu187 he248 he253 hn249 hu196 hu199 rfl (.inl ⟨rfl, rfl⟩) rfl ty22 rfl (fun es274 cs275 hlcs275 o276 => ?_)
       refine .reval 41 hlcs275 rfl (.reval 47 hlcs275 rfl (.reval 55 hlcs275 rfl (.reval 60 hlcs275 rfl (.reval 67 hlcs275 rfl (.recell 0 (([_, _, .slice a0_2 u199.length k0_2, _] : List Value) ++ List.map (Value.int .i64) x0_4) rfl (by rw [hlcs275] <;> rfl) [_] rfl (.go 1 ?_))))))
       exact (hb186 _ ⟨u199, es274, cs275, rfl, o276, hlcs275, r200⟩).ar
     ·refine .q .d1 (.loadO 0 0 rfl hu189 p251 rfl (.inl ⟨rfl, rfl⟩) ty22 rfl) rfl ?_
      refine .clsL (HpLe.refl _) (X1 [0] rfl) ?_
      obtain ⟨e277, he278, hn279, ho280, p281⟩ := NL.get oo0_2 hu187
      refine .q .d1 (.idxO 0 rfl rfl rfl hu187 sl51 ty22.sz) rfl (.clsL (HpLe.refl _) (X1 [0] rfl) (.q .d1 (.loadO 0 0 rfl hu187 p281 rfl (.inl ⟨rfl, rfl⟩) ty22 rfl) rfl (.clsL (HpLe.refl _) (X1 [0] rfl) ?_)))
      obtain ⟨e282, he283, hn285, ho286, p287⟩ := NL.get oo0_2 hu192
      refine .q .d1 (.idxO 0 rfl rfl rfl hu192 sl51 ty22.sz) rfl (.clsL (HpLe.refl _) (X1 [0] rfl) ?_)
      refine .swap1 0 (Q := ri) (ej := e277) .d1 rfl oo0_2 hu192 hn279 rfl (.inl ⟨rfl, rfl⟩) rfl ty22 (fun cs288 o289 => ?_)
      refine .clsL (HpLe.refl _) (X1 [0] rfl) (.q .d2 (.idxO 0 (l := x0_2) rfl rfl rfl hu194 sl51 ty22.sz) rfl ?_)
      refine .swap2 0 1 (Q := ri) (i := x0_3) (j := v95) .d2 rfl rfl oo0_2 o289 hu189 hu187 he248 he278 hn249 hu196 hu199 rfl (.inl ⟨rfl, rfl⟩) rfl ty22 rfl (fun es290 cs291 hlcs291 o292 => ?_)
      refine .reval 41 hlcs291 rfl (.reval 47 hlcs291 rfl (.reval 55 hlcs291 rfl (.reval 60 hlcs291 rfl (.reval 67 hlcs291 rfl (.recell 0 (([_, _, .slice a0_2 u199.length k0_2, _] : List Value) ++ List.map (Value.int .i64) x0_4) rfl (by rw [hlcs291] <;> rfl) [_] rfl (.go 1 ?_))))))
      exact (hb186 _ ⟨u199, es290, cs291, rfl, o292, hlcs291, r200⟩).ar
 ·intro hb293
  refine .block ?_
  refine .lp (fun y m => ∃ (Z0 : Nat) (Z1 : _), y = ⟨[(4, .int .i64 Z1)], [], [], []⟩ ∧ Z0 = m ∧ X2d (X1e x1 x0_0 x0_3 x0_4 x0_2) x1 x0_2 Z0 Z1 = some r) [(0, _), (1, _)] [_] [_, _] ⟨big, x0_3, rfl, rfl, h⟩ (fun y m hI hb294 => ?_)
  obtain ⟨n295, v296, rfl, rfl, r297⟩ := hI
  refine .gn 0 ?_
  obtain ⟨m298, rfl⟩ : ∃ m, n295 = m + 1 := by cases n295 with | zero => exact absurd (show (none : Option _) = some _ from r297) (by simp) | succ m => exact ⟨m, rfl⟩
  have r299 : X4s (X1e x1 x0_0 x0_3 x0_4 x0_2) x1 x0_2 (X2d (X1e x1 x0_0 x0_3 x0_4 x0_2) x1 x0_2 m298) v296 = some r := r297; clear r297; unfold X4s at r299; try dsimp only at r299
  refine .go 11 ?_
  obtain ⟨u300, h301, r302⟩ := X0 r299
  refine .kR (fun y => y = ⟨[(34, .bool u300)], G :: Fs, [], []⟩) [(4, _), (0, _), (1, _)] [_] [0] [_, _] [0, 1] 12 ?_ ?_
  ·rintro _ rfl
   refine .gn 1 ?_
   refine .cB r302 (fun c303 r304 => ?_) (fun c303 r305 => ?_)
   ·refine .go 1 ?_
    refine .block (.go 6 ?_)
    exact (hb294 _ _ ⟨m298, (w64 (v296 + 1)), rfl, rfl, r304⟩ (Nat.lt_succ_self _)).ar
   ·refine .exit rfl ?_
    exact (hb293 _ ⟨(v296), rfl, r305⟩).ar
  ·intro hb306
   refine .split 22 rfl (fun c307 => ?_) (fun c307 => ?_)
   ·have r308 := ifT h301 c307
    refine .go 11 ?_
    obtain ⟨u309, hu309, r310⟩ := X0 r308
    obtain ⟨e311, he312, hn313, ho314, p315⟩ := NL.get oo0_2 hu309
    refine .q .ro (.idxO 0 rfl rfl rfl hu309 sl51 ty22.sz) rfl (.go 1 ?_)
    refine .q .ro (.loadO 0 0 rfl hu309 p315 rfl (.inl ⟨rfl, rfl⟩) ty22 rfl) rfl (.go 3 ?_)
    obtain ⟨u316, hu316, r317⟩ := X0 r310
    obtain ⟨c318, p319, h320⟩ := OL.get ho314 hu316
    obtain rfl := h320
    refine .q .ro (.inN 1 rfl he312 hn313 (.idxO (l := u309) 0 rfl rfl rfl hu316 sl22 ty3.sz)) rfl (.go 1 ?_)
    refine .q .ro (.inN 1 rfl he312 hn313 (.loadO (l := u309) 0 0 rfl hu316 p319 rfl (.inl ⟨rfl, rfl⟩) ty3 rfl)) rfl (.go 3 ?_)
    exact (hb306 _ rfl).ax ⟨sval r317, rfl, rfl, rfl, trivial⟩
   ·have r321 := ifF h301 c307
    refine .go 12 ?_
    exact (hb306 _ rfl).ax ⟨sval r321, rfl, rfl, rfl, trivial⟩
theorem Xet {x0_0 : Int} {x0_1 : Int} {x0_2 : Int} {x0_3 : List Int} {x0_4 : List Int} {r : (Int × Int × (List (List Int)) × Int × (List Int))} (hG : G ∈ Fs) (s0_3 : SlR ri G a0_3 k0_3 x0_3) (s0_4 : SlR ri G a0_4 k0_4 x0_4) (h : Xa5 (x0_0, x0_1, x0_2, x0_3, x0_4) = some r) : RetW Tryz.prog 192 #[.agg #[.int .i64 x0_0, .int .i64 x0_1, .int .i64 x0_2, .slice a0_3 x0_3.length k0_3, .slice a0_4 x0_4.length k0_4]] Fs [] [] (fun v bo so G => ∃ a0 : Option Addr, ∃ k0 : Nat, ∃ b0 : Nat, v = .pointer (some ⟨b0, 0, none⟩) ∧ bo = [(b0, .cells (([.int .i64 r.1, .int .i64 r.2.1, .slice a0 r.2.2.1.length k0, .int .i64 r.2.2.2.1] : List Value) ++ List.map (Value.int .i64) r.2.2.2.2).toArray 286 (0, 0))] ∧ so = [] ∧ SlR (Rep.sl ri) G a0 k0 r.2.2.1 ∧ r.2.2.2.2.length = 32) := by
 unfold Xa5 at h
 try dsimp only at h
 refine RetW.st [(0, _)] Tryz.func192 Tryz.ntmps192 hG fun w0 S0 hS0 B0 => ?_
 refine .go 2 ?_
 refine .box [_, _, _, _, _] .ro rfl rfl rfl (fun b1 hb1 => ?_)
 refine .go 9 ?_
 refine .q .ro (.build [_, _, _, _, _, _, _, _, _, _, _, _, _, _, _, _, _, _, _, _, _, _, _, _, _, _, _, _, _, _, _, _, _, _, _, _] [(0, _), (1, _)] ty286 pl286 rfl rfl) rfl ?_
 refine .box [_, _, _, _, _, _, _, _, _, _, _, _, _, _, _, _, _, _, _, _, _, _, _, _, _, _, _, _, _, _, _, _, _, _, _, _] .ro rfl rfl rfl (fun b2 hb2 => ?_)
 refine .recell 0 ([_, _, _, _] ++ List.map (Value.int .i64) (List.replicate 32 (0 : Int))) rfl rfl [_, _] rfl (.go 9 ?_)
 refine .kB (fun y => ∃ (Z0 Z1 : _) (Z2 : List (List Int)) (Z3 : _) (Z4 : Nat) (Z5 Z6 Z7 : _) (Z8 : List Int) (Z9 Z10 Z11 : _), y = ⟨[], G :: Fs, [(b2, .cells (([.int .i64 Z0, .int .i64 Z1, .slice Z3 Z2.length Z4, .int .i64 Z7] : List Value) ++ List.map (Value.int .i64) Z8).toArray 286 (0, 0)), (b1, .cells #[.int .i64 Z9, .int .i64 Z10, .int .i64 Z11, .slice a0_3 x0_3.length k0_3, .slice a0_4 x0_4.length k0_4] 256 (0, 0))], [.s (.slice Z3 Z2.length Z4) 22 1 Z2.length Z6, .g (packG 3 1 Z5)]⟩ ∧ NL ri G Z5 Z6 Z2 ∧ Z8.length = 32 ∧ X3b Z0 Z1 Z2 Z7 Z8 Z9 Z10 Z11 = some r) [(1, _), (3, _)] [] [] [] [] ?_ ?_
 ·rintro _ ⟨v12, v13, v14, a15, k16, es17, cs18, v19, v20, v21, v23, v24, rfl, o25, hl26, r27⟩
  refine .gn 0 ?_
  unfold X3b at r27
  try dsimp only at r27
  refine .go 7 ?_
  refine .block (.pullS 1 rfl [_, _] rfl (.pullS 1 rfl [_, _] rfl ?_))
  refine .lp (fun y m => ∃ (Z0 : Nat) (Z1 : _) (Z2 : List (List Int)) (Z3 Z4 Z5 : _) (Z6 : List Int), y = ⟨[(52, .int .i64 Z1)], [], [(b2, .cells (([.int .i64 v12, .int .i64 v13, .slice a15 Z2.length k16, .int .i64 Z5] : List Value) ++ List.map (Value.int .i64) Z6).toArray 286 (0, 0))], [.s (.slice a15 Z2.length k16) 22 1 Z2.length Z4, .g (packG 3 1 Z3)]⟩ ∧ Z0 = m ∧ NL ri G Z3 Z4 Z2 ∧ Z2.length = v14.length ∧ Z6.length = 32 ∧ X57 v24 v12 v13 Z0 Z1 Z2 Z5 Z6 = some r) [(3, _), (51, _)] [_] [] ⟨big, 0, v14, es17, cs18, v19, v20, rfl, rfl, o25, rfl, hl26, r27⟩ (fun y m hI hb28 => ?_)
  obtain ⟨n29, v30, v31, es32, cs33, v34, v35, rfl, rfl, o36, hl37, hl38, r39⟩ := hI
  refine .gn 0 ?_
  obtain ⟨m40, rfl⟩ : ∃ m, n29 = m + 1 := by cases n29 with | zero => exact absurd (show (none : Option _) = some _ from r39) (by simp) | succ m => exact ⟨m, rfl⟩
  have r41 : X7l v24 v12 v13 (X57 v24 v12 v13 m40) v30 v31 v34 v35 = some r := r39; clear r39; unfold X7l at r41; try dsimp only at r41
  refine .go 5 ?_
  refine .cH r41 (fun c42 r43 => ?_) (fun c42 r44 => ?_)
  ·refine .go 2 ?_
   refine .block (.go 8 ?_)
   obtain ⟨u45, hu45, r46⟩ := X0 r43
   refine .pullS 1 rfl [_, _] rfl (.pullS 1 rfl [_, _] rfl ?_)
   refine .callS (b1 := [_]) (b2 := [_]) (s1 := [_, _]) [_, _] [] .ro rfl rfl Tryz.call201 rfl rfl (Xbx mcs o36 hl38 hu45) rfl (fun v47 bo so h48 => ?_)
   obtain ⟨es49, cs50, rfl, rfl, rfl, o52, hl53, hl54⟩ := h48
   refine .gn 0 ?_
   refine .recell 0 (([_, _, .slice a15 u45.1.length k16, _] : List Value) ++ List.map (Value.int .i64) u45.2.2) rfl (by rw [hl53] <;> rfl) [_, _] rfl (.go 6 ?_)
   exact (hb28 _ _ ⟨m40, (w64 (v30 + 1)), u45.1, es49, cs50, u45.2.1, u45.2.2, rfl, rfl, o52, (hl53.trans hl37), hl54, r46⟩ (Nat.lt_succ_self _)).ar
  ·refine .exit rfl ?_
   refine .go 5 ?_
   refine .pullS 1 rfl [_, _] rfl (.pullS 1 rfl [_, _] rfl ?_)
   refine .freezeN (Q := ri) rfl o36 rfl B0 (fun G55 e56 B57 s58 => ?_)
   cases r44
   refine .pull 1 rfl [_, _] rfl (.drop 1 0 [_] _ rfl rfl ?_)
   refine .rW 0 [.tmp 2] [_] Tryz.func192 Tryz.results192 ⟨RV.tmp rfl, trivial⟩ B57 hS0 (fun G' hg => ⟨a15, k16, _, rfl, rfl, rfl, (SlR.mono hg s58), hl38⟩)
 ·intro hb59
  refine .block (.packE 3 1 (.own_nil 22 1 (.pullS 1 rfl [_, _] rfl (.pullS 1 rfl [_, _] rfl ?_))))
  refine .lp (fun y m => ∃ (Z0 : Nat) (Z1 : _) (Z2 : List (List Int)) (Z3 : _) (Z4 : Nat) (Z5 Z6 : _), y = ⟨[(16, .int .i64 Z1)], [], [(b2, .cells (([.int .i64 x0_0, .int .i64 x0_2, .slice Z3 Z2.length Z4, .int .i64 0] : List Value) ++ List.map (Value.int .i64) (List.replicate 32 (0 : Int))).toArray 286 (0, 0))], [.s (.slice Z3 Z2.length Z4) 22 1 Z2.length Z6, .g (packG 3 1 Z5)]⟩ ∧ Z0 = m ∧ NL ri G Z5 Z6 Z2 ∧ X58 X3b x0_1 x0_0 x0_2 (List.replicate 32 (0 : Int)) x0_3 x0_4 Z0 Z1 Z2 = some r) [(1, _), (3, _), (15, _)] [_] [] ⟨big, 0, ([] : List (List Int)), none, 0, [], [], rfl, rfl, (NL.nil (Q := ri)), h⟩ (fun y m hI hb60 => ?_)
  obtain ⟨n61, v62, v63, a65, k66, es67, cs68, rfl, rfl, o69, r70⟩ := hI
  refine .gn 0 ?_
  obtain ⟨m71, rfl⟩ : ∃ m, n61 = m + 1 := by cases n61 with | zero => exact absurd (show (none : Option _) = some _ from r70) (by simp) | succ m => exact ⟨m, rfl⟩
  have r72 : X7m X3b x0_1 x0_0 x0_2 (List.replicate 32 (0 : Int)) x0_3 x0_4 (X58 X3b x0_1 x0_0 x0_2 (List.replicate 32 (0 : Int)) x0_3 x0_4 m71) v62 v63 = some r := r70; clear r70; unfold X7m at r72; try dsimp only at r72
  refine .go 5 ?_
  refine .cH r72 (fun c73 r74 => ?_) (fun c73 r75 => ?_)
  ·refine .go 2 ?_
   refine .block (.go 18 ?_)
   obtain ⟨u76, hu76, r77⟩ := X0 r74
   obtain ⟨a78, k79, h80, s81⟩ := SlR.sub s0_3 hu76
   refine .q .ro (.sliceR s0_3 rfl hu76 sl22 ty3.sz (fun h => .yes' rfl h) (fun h => .yes' rfl h) h80) rfl (.own_nil 3 1 ?_)
   obtain ⟨u82, hu82, r83⟩ := X0 r77
   refine .appR (Q := ri) 0 .ro sl22 ty3 rfl rfl rfl rfl rfl (OL.nil (Rp' := ri)) rfl rfl s81 rfl mcs hu82 rfl (fun a84 k85 cs86 o87 => ?_)
   refine .go 2 ?_
   refine .drawL (.q 0 (.q 1 (.q 2 (.q 3 (.q 4 (.q 5 (.q 6 (.q 7 (.q 8 (.q 9 (.q 10 (.e 11 1 (.e 12 1 (.e 13 1 (.e 14 1 (.q 15 (.q 16 (.e 17 2 .nil)))))))))))))))))) [_, _] (by kernel_rfl) (by kernel_rfl) (X1 [0, 1] rfl) (.go 9 ?_)
   obtain ⟨u88, hu88, r89⟩ := X0 r83
   obtain ⟨c90, p91, h92⟩ := SlR.get s0_4 hu88
   obtain rfl := h92
   refine .dq (.idxR s0_4 rfl rfl hu88 sl22 ty3.sz) rfl (.dq (.load_rp p91 mcs rfl ty3 rfl) rfl ?_)
   refine .lit [_] [(0, _)] .d1 sl22 ty3 rfl rfl rfl rfl rfl rfl (fun b93 hb93 => ?_)
   have o94 : OL ri G [.int .i64 u88] ([u88] : List Int) := ((OL.cons rfl (Rep.intI .i64 u88) (OL.nil (Rp' := ri))) :)
   refine .reval 43 (n' := ([u88] : List Int).length) rfl rfl (.clsL (HpLe.refl _) (X1 [0, 1] rfl) ?_)
   obtain ⟨u95, hu95, r96⟩ := X0 r89
   refine .appO (Q := ri) 0 .d1 sl22 ty3 rfl rfl rfl rfl rfl rfl o87 o94 rfl rfl rfl B0 hu95 rfl (fun a97 k98 cs99 o100 => ?_)
   refine .clsL (HpLe.refl _) (X1 [0, 1] rfl) ?_
   refine .lit [_] [(0, _)] .d1 sl51 ty22 rfl rfl rfl rfl rfl rfl (fun b101 hb101 => ?_)
   refine .pullS 1 rfl [_, _, _, _] rfl (.pack1 rfl ?_)
   have o102 : NL ri G [⟨a97, u95.length, k98, cs99⟩] [.slice a97 u95.length k98] ([u95] : List (List Int)) := (NL.one o100 :)
   refine .reval 45 (n' := ([u95] : List (List Int)).length) rfl rfl (.clsL (HpLe.refl _) (X1 [0, 1] rfl) ?_)
   obtain ⟨u103, hu103, r104⟩ := X0 r96
   refine .pullS 1 rfl [_, _, _, _] rfl ?_
   refine .appN 0 1 (Q := ri) .d1 sl51 ty22 rfl rfl rfl rfl rfl rfl o69 o102 rfl rfl hu103 rfl B0 (fun a105 k106 cs107 o108 => ?_)
   refine .clsL (HpLe.refl _) (X1 [0, 1] rfl) (.go 2 ?_)
   refine .store 0 ([_, _, _, _] ++ List.map (Value.int .i64) (List.replicate 32 (0 : Int))) [_, _] .d2 rfl rfl rfl ty51 rfl rfl rfl rfl (.go 6 ?_)
   exact (hb60 _ _ ⟨m71, (w64 (v62 + 1)), u103, a105, k106, (es67 ++ [⟨a97, u95.length, k98, cs99⟩]), cs107, rfl, rfl, o108, r104⟩ (Nat.lt_succ_self _)).ar
  ·refine .exit rfl ?_
   exact (hb59 _ ⟨x0_0, x0_2, v63, a65, k66, es67, cs68, 0, (List.replicate 32 (0 : Int)), x0_0, x0_1, x0_2, rfl, o69, rfl, r75⟩).ar
theorem Xam {x0_0 : Int} {x0_1 : Int} {x0_2 : List (List Int)} {x0_3 : Int} {x0_4 : List Int} {r : Bool} (hG : G ∈ Fs) (s0_2 : SlR (Rep.sl ri) G a0_2 k0_2 x0_2) (hnx0_4 : x0_4.length = 32) (h : X4b (x0_0, x0_1, x0_2, x0_3, x0_4) = some r) : RetS Tryz.prog 193 #[.pointer (some ⟨p0, 0, none⟩)] Fs [(p0, .cells (([.int .i64 x0_0, .int .i64 x0_1, .slice a0_2 x0_2.length k0_2, .int .i64 x0_3] : List Value) ++ List.map (Value.int .i64) x0_4).toArray 286 (0, 0))] [] (fun v bo so => v = .bool r ∧ bo = [(p0, .cells (([.int .i64 x0_0, .int .i64 x0_1, .slice a0_2 x0_2.length k0_2, .int .i64 x0_3] : List Value) ++ List.map (Value.int .i64) x0_4).toArray 286 (0, 0))] ∧ so = []) := by
 unfold X4b at h
 try dsimp only at h
 refine RetS.st [(0, _)] Tryz.func193 Tryz.ntmps193 hG fun w0 S0 hS0 B0 => ?_
 refine .go 6 ?_
 refine .drawL (.q 0 (.q 1 (.q 2 (.q 3 (.q 4 (.q 5 (.q 6 (.q 7 (.q 8 (.q 9 (.q 10 .nil))))))))))) [_] (by kernel_rfl) (by kernel_rfl) (X1 [0] rfl) (.go 8 ?_)
 obtain ⟨u1, hu1, r2⟩ := X0 h
 obtain ⟨a3, k4, h5, s6⟩ := SlR.sub s0_2 hu1
 refine .dq (.sliceR s0_2 rfl hu1 sl51 ty22.sz (fun h => .yes' rfl h) (fun _ => .no) h5) rfl (.go 3 ?_)
 refine .block ?_
 refine .lp (fun y m => ∃ (Z0 : Nat) (Z1 : List (List Int)), y = ⟨[(15, .int .i64 (Z0 : Int))], [], [], []⟩ ∧ Z1.length = m ∧ List.drop Z0 u1 = Z1 ∧ X12 x0_1 Z1  = some r) [(0, _), (13, _), (14, _)] [_] [] ⟨0, u1, rfl, rfl, rfl, r2⟩ (fun y m hI hb38 => ?_)
 obtain ⟨i34, w35, rfl, rfl, g36, r37⟩ := hI
 refine .gn 0 ?_
 cases w35 with
 | nil =>
  rw [X12] at r37; try dsimp only at r37
  refine .go 5 ?_
  refine .cond_dec rfl (fun c => absurd c (Xl g36)) (fun _ => ?_)
  refine .exit rfl (.go 4 ?_)
  cases r37
  refine .rS [.tmp 2] [_] Tryz.func193 Tryz.results193 ⟨rfl, rfl, rfl⟩
 | cons x47 xs48 =>
  have r46 : X34 x0_1 (X12 x0_1 xs48) x47  = some r := r37; clear r37; unfold X34 at r46; try dsimp only at r46
  refine .go 5 ?_
  refine .cond_dec rfl (fun _ => ?_) (fun c => absurd (X15 g36) c)
  refine .go 2 ?_
  refine .block (.go 2 ?_)
  obtain ⟨c49, p50, h51⟩ := SlR.get s6 (X3 g36)
  obtain ⟨a52, k53, rfl, s54⟩ := h51
  refine .q .ro (.idxR s6 rfl rfl (X3 g36) sl51 ty22.sz) rfl (.q .ro (.load_rp p50 mcs rfl ty22 rfl) rfl (.go 9 ?_))
  obtain ⟨u55, hu55, r56⟩ := X0 r46
  obtain ⟨c57, p58, h59⟩ := SlR.get s54 hu55
  obtain rfl := h59
  refine .q .ro (.idxR s54 rfl rfl hu55 sl22 ty3.sz) rfl (.q .ro (.load_rp p58 mcs rfl ty3 rfl) rfl (.go 2 ?_))
  refine .cH r56 (fun c60 r61 => ?_) (fun c60 r62 => ?_)
  ·refine .go 4 ?_
   cases r61
   refine .rS [.tmp 2] [_] Tryz.func193 Tryz.results193 ⟨rfl, rfl, rfl⟩
  ·refine .go 6 ?_
   exact (hb38 _ _ ⟨(i34 + 1), xs48, rfl, rfl, (X4 g36), r62⟩ (Nat.lt_succ_self _)).ax ⟨(congrArg (fun z => some (Value.int .i64 z)) (X5 (SlR.len s6) g36)), rfl, rfl, rfl, trivial⟩
theorem Xg1 {x0_0 : Int} {x0_1 : Int} {x0_2 : Int} {x0_3 : List Int} {x0_4 : List Int} {r : ((List Int) × Int)} (hG : G ∈ Fs) (s0_3 : SlR ri G a0_3 k0_3 x0_3) (s0_4 : SlR ri G a0_4 k0_4 x0_4) (h : X9t (x0_0, x0_1, x0_2, x0_3, x0_4) = some r) : RetS Tryz.prog 175 #[.agg #[.int .i64 x0_0, .int .i64 x0_1, .int .i64 x0_2, .slice a0_3 x0_3.length k0_3, .slice a0_4 x0_4.length k0_4]] Fs [] [] (fun v bo so => ∃ (oa0 : Option Addr) (ok0 : Nat) (oc0 : List Value), v = .tuple #[.slice oa0 r.1.length ok0, .int .i64 r.2] ∧ bo = [] ∧ so = [.s (.slice oa0 r.1.length ok0) 3 1 r.1.length oc0] ∧ OL ri G oc0 r.1) := by
 unfold X9t at h
 try dsimp only at h
 refine RetS.st [(0, _)] Tryz.func175 Tryz.ntmps175 hG fun w0 S0 hS0 B0 => ?_
 refine .go 2 ?_
 refine .box [_, _, _, _, _] .ro rfl rfl rfl (fun b1 hb1 => ?_)
 refine .go 6 ?_
 refine .q .ro (.load_own_a 0 [_, _, _, _, _] rfl rfl ty256 rfl) rfl ?_
 obtain ⟨u2, hu2, r3⟩ := X0 h
 refine .cV [_] Tryz.call191 (Xg0 mcs s0_3 s0_4 hu2) ?_
 refine .go 7 ?_
 refine .cH r3 (fun c6 r7 => ?_) (fun c6 r9 => ?_)
 ·refine .go 6 ?_
  refine .own_nil 3 1 ?_
  cases r7
  refine .drop 1 0 [] _ rfl rfl ?_
  refine .rS [.tmp 2, .tmp 3] [_, _] Tryz.func175 Tryz.results175 ⟨none, 0, [], rfl, rfl, rfl, (OL.nil (Rp' := ri))⟩
 ·refine .go 3 ?_
  refine .q .ro (.load_own_a 0 [_, _, _, _, _] rfl rfl ty256 rfl) rfl ?_
  obtain ⟨u10, hu10, r11⟩ := X0 r9
  refine .cW [_] Tryz.call192 (Xet mcs s0_3 s0_4 hu10) B0 (fun v13 bo so G14 e15 B16 h12 => ?_)
  obtain ⟨a19, k20, b18, rfl, rfl, rfl, s21, hl22⟩ := h12
  refine .gn 6 ?_
  obtain ⟨u23, hu23, r24⟩ := X0 r11
  refine .callS (b1 := [_]) (b2 := [_]) (s1 := []) [_] [] .ro rfl rfl Tryz.call193 rfl rfl (Xam mcs s21 hl22 hu23) rfl (fun v26 bo so h25 => ?_)
  obtain ⟨rfl, rfl, rfl⟩ := h25
  refine .gn 2 ?_
  refine .cB r24 (fun c27 r28 => ?_) (fun c27 r30 => ?_)
  ·refine .go 5 ?_
   refine .own_nil 3 1 ?_
   cases r28
   refine .drop 2 0 [] _ rfl rfl ?_
   refine .rS [.tmp 2, .tmp 3] [_, _] Tryz.func175 Tryz.results175 ⟨none, 0, [], rfl, rfl, rfl, (OL.nil (Rp' := ri))⟩
  ·refine .go 5 ?_
   obtain ⟨u31, hu31, r32⟩ := X0 r30
   refine .makeR (G := G14) (Q := ri) .ro sl22 ty3 rfl rfl rfl ((Rep.intI .i64 0) :) rfl rfl hu31 rfl rfl (fun b33 cs34 hb33 o35 => ?_)
   refine .go 9 ?_
   refine .block ?_
   refine .lp (fun y m => ∃ (Z0 : Nat) (Z1 Z2 : List Int) (Z3 : _) (Z4 : Nat) (Z5 : _), y = ⟨[(6, .slice Z3 Z2.length Z4), (24, .int .i64 (Z0 : Int))], [], [], [.s (.slice Z3 Z2.length Z4) 3 1 Z2.length Z5]⟩ ∧ Z1.length = m ∧ OL ri G14 Z5 Z2 ∧ List.drop Z0 u31 = Z1 ∧ X3q u10.2.2.1 u10.2.2.2.2 x0_2 Z1 Z0 Z2 = some r) [(1, _), (5, _), (23, _)] [_, _] [] ⟨0, u31, u31, (some ⟨b33, 0, none⟩), u31.length, cs34, rfl, rfl, o35, rfl, r32⟩ (fun y m hI hb89 => ?_)
   obtain ⟨i79, w80, v82, a83, k84, cs85, rfl, rfl, o86, g81, r88⟩ := hI
   refine .gn 0 ?_
   cases w80 with
   | nil =>
    rw [X3q] at r88; try dsimp only at r88
    refine .go 5 ?_
    refine .cond_dec rfl (fun c => absurd c (Xl g81)) (fun _ => ?_)
    refine .exit rfl (.go 6 ?_)
    cases r88
    refine .drop 2 0 [] _ rfl rfl ?_
    refine .rS [.tmp 2, .tmp 3] [_, _] Tryz.func175 Tryz.results175 ⟨a83, k84, cs85, rfl, rfl, rfl, (OL.flat (Rep.flat_int _) o86)⟩
   | cons x17 xs29 =>
    have r36 : X8l u10.2.2.1 u10.2.2.2.2 x0_2 (X3q u10.2.2.1 u10.2.2.2.2 x0_2 xs29 (i79 + 1)) x17 i79 v82 = some r := r88; clear r88; unfold X8l at r36; try dsimp only at r36
    refine .go 5 ?_
    refine .cond_dec rfl (fun _ => ?_) (fun c => absurd (X15 g81) c)
    refine .go 2 ?_
    refine .block (.go 11 ?_)
    obtain ⟨u37, hu37, r38⟩ := X0 r36
    refine .q .ro (.indexAddr_ar (4 + ((i79 : Int)).toNat) rfl rfl ar284 ty3.sz (X21 hu37).1 (Xbi (X21 hu37).2.1 hl22) (by rw [Nat.mul_one])) rfl (.q .ro (.load_own 0 rfl rfl ty3 (Xol (pre := [_, _, _, _]) (f := Value.int .i64) (L := u10.2.2.2.2) hu37)) rfl (.go 7 ?_))
    refine .cH r38 (fun c39 r40 => ?_) (fun c39 r41 => ?_)
    ·refine .drawL (.q 0 (.q 1 (.q 2 (.q 3 (.q 4 (.q 5 (.q 6 (.q 7 (.q 8 (.q 9 (.q 10 (.q 11 (.q 12 (.q 13 (.e 14 2 (.e 15 2 .nil)))))))))))))))) [_, _] (by kernel_rfl) (by kernel_rfl) (X1 [0, 1] rfl) ?_
     refine .go 8 ?_
     obtain ⟨u42, hu42, r43⟩ := X0 r40
     obtain ⟨c44, p45, h46⟩ := SlR.get s21 hu42
     obtain ⟨a47, k48, rfl, s49⟩ := h46
     refine .dq (.idxR s21 rfl rfl hu42 sl51 ty22.sz) rfl (.dq (.load_rp p45 mcs rfl ty22 rfl) rfl (.go 2 ?_))
     obtain ⟨u50, hu50, r52⟩ := X0 r43
     obtain ⟨c53, p54, h55⟩ := SlR.get s49 hu50
     obtain rfl := h55
     refine .dq (.idxR s49 rfl rfl hu50 sl22 ty3.sz) rfl (.dq (.load_rp p54 mcs rfl ty3 rfl) rfl ?_)
     obtain ⟨u56, hu56, r57⟩ := X0 r52
     obtain ⟨c58, p59, h60⟩ := OL.get o86 hu56
     obtain rfl := h60
     refine .q .d2 (.idxO 0 rfl rfl rfl hu56 sl22 ty3.sz) rfl ?_
     obtain ⟨u61, hu61, r62⟩ := X0 r57
     refine .storeR 0 0 (Q := ri) .d2 rfl rfl o86 hu61 rfl (.inl ⟨rfl, rfl⟩) rfl ty3 p59 ((Rep.intI .i64 u50) :) rfl rfl (fun cs63 hlcs63 o65 => ?_)
     refine .reval 6 hlcs63 rfl (.reval 35 hlcs63 rfl (.go 6 ?_))
     exact (hb89 _ _ ⟨(i79 + 1), xs29, u61, a83, k84, cs63, rfl, rfl, o65, (X4 g81), r62⟩ (Nat.lt_succ_self _)).ax ⟨rfl, (congrArg (fun z => some (Value.int .i64 z)) (X5 (OL.len' o35) g81)), rfl, rfl, rfl, trivial⟩
    ·refine .go 6 ?_
     exact (hb89 _ _ ⟨(i79 + 1), xs29, v82, a83, k84, cs85, rfl, rfl, o86, (X4 g81), r41⟩ (Nat.lt_succ_self _)).ax ⟨rfl, (congrArg (fun z => some (Value.int .i64 z)) (X5 (OL.len' o35) g81)), rfl, rfl, rfl, trivial⟩
theorem Xg2 {x0_0 : Int} {x1 : List Int} {x2 : List Int} {r : ((List Int) × (List Int) × Int)} (hG : G ∈ Fs) (s1 : SlR ri G a1 k1 x1) (s2 : SlR ri G a2 k2 x2) (h : X9u x0_0 x1 x2 = some r) : RetS Tryz.prog 176 #[.agg #[.int .i64 x0_0], .slice a1 x1.length k1, .slice a2 x2.length k2] Fs [] [] (fun v bo so => ∃ (oa0 : Option Addr) (ok0 : Nat) (oc0 : List Value), ∃ (oa1 : Option Addr) (ok1 : Nat) (oc1 : List Value), v = .tuple #[.slice oa0 r.1.length ok0, .slice oa1 r.2.1.length ok1, .int .i64 r.2.2] ∧ bo = [] ∧ so = [.s (.slice oa0 r.1.length ok0) 3 1 r.1.length oc0, .s (.slice oa1 r.2.1.length ok1) 3 1 r.2.1.length oc1] ∧ OL ri G oc0 r.1 ∧ OL ri G oc1 r.2.1) := by
 unfold X9u at h
 try dsimp only at h
 refine RetS.st [(0, _), (1, _), (2, _)] Tryz.func176 Tryz.ntmps176 hG fun w0 S0 hS0 B0 => ?_
 refine .go 2 ?_
 refine .box [_] .ro rfl rfl rfl (fun b1 hb1 => ?_)
 refine .go 6 ?_
 refine .q .ro (.load_own_a 0 [_] rfl rfl ty45 rfl) rfl (.go 2 ?_)
 refine .lit [_, _] [(0, _), (1, _)] .ro sl51 ty22 rfl rfl rfl rfl rfl rfl (fun b2 hb2 => ?_)
 have o3 : OL (Rep.sl ri) G [.slice a1 x1.length k1, .slice a2 x2.length k2] ([x1, x2] : List (List Int)) := ((OL.cons rfl (Rep.slI s1) (OL.cons rfl (Rep.slI s2) (OL.nil (Rp' := (Rep.sl ri))))) :)
 refine .reval 21 (n' := ([x1, x2] : List (List Int)).length) rfl rfl ?_
 refine .freezeR 0 rfl rfl o3 [] rfl B0 (fun G5 e6 B7 s8 => ?_)
 obtain ⟨u10, hu10, r11⟩ := X0 h
 refine .cV [_, _] Tryz.call194 (Xe1 mcs s8 hu10) ?_
 refine .go 12 ?_
 refine .cH r11 (fun c14 r15 => ?_) (fun c14 r16 => ?_)
 ·cases r15
 ·refine .go 4 ?_
  obtain ⟨u17, hu17, r18⟩ := X0 r16
  refine .cS [_] Tryz.call195 (Xbt mcs (SlR.mono e6 s1) hu17) (fun v20 bo so h19 => ?_)
  obtain ⟨a22, k23, cs24, rfl, rfl, rfl, o25⟩ := h19
  refine .gn 1 ?_
  obtain ⟨u26, hu26, r27⟩ := X0 r18
  refine .cS [_] Tryz.call196 (Xc0 mcs (SlR.mono e6 s2) hu26) (fun v29 bo so h28 => ?_)
  obtain ⟨a30, k31, rfl, rfl, rfl, s32⟩ := h28
  refine .gn 15 ?_
  refine .cH r27 (fun c33 r34 => ?_) (fun c33 r35 => ?_)
  ·cases r34
  ·refine .go 8 ?_
   refine .q .ro (.max2 rfl rfl) rfl ?_
   obtain ⟨u36, hu36, r37⟩ := X0 r35
   refine .makeR (G := G5) (Q := ri) .ro sl22 ty3 rfl rfl rfl ((Rep.intI .i64 0) :) rfl rfl hu36 rfl rfl (fun b38 cs39 hb38 o40 => ?_)
   refine .go 8 ?_
   obtain ⟨u42, hu42, r43⟩ := X0 r37
   obtain ⟨c44, p45, h46⟩ := SlR.get s32 hu42
   obtain rfl := h46
   refine .q .ro (.idxR s32 rfl rfl hu42 sl22 ty3.sz) rfl (.q .ro (.load_rp p45 mcs rfl ty3 rfl) rfl ?_)
   obtain ⟨u47, hu47, r48⟩ := X0 r43
   refine .cV [_, _] Tryz.call197 (X5s mcs  hu47) ?_
   refine .go 3 ?_
   refine .kB (fun y => ∃ (Z0 : List Int) (Z1 : _) (Z2 : Nat) (Z3 Z4 Z5 : _) (Z6 : Value) (Z7 : List Int) (Z8 : _) (Z9 : Nat) (Z10 : _), y = ⟨[(11, Z6), (13, .slice Z8 Z7.length Z9)], G5 :: Fs, [], [.s (.slice Z1 Z0.length Z2) 3 1 Z0.length Z3, .s (.slice Z8 Z7.length Z9) 3 1 Z7.length Z10]⟩ ∧ OL ri G5 Z3 Z0 ∧ PartV Z1 1 Z6 Z4.toNat (Z5 - Z4).toNat ∧ OL ri G5 Z10 Z7 ∧ X35 Z0 Z4 Z5 Z7 = some r) [] [_] [0] [] [] ?_ ?_
   ·rintro _ ⟨v12, a13, k21, cs41, v49, v50, vv52, v53, a54, k55, cs56, rfl, o57, pv58, o59, r60⟩
    refine .gn 0 ?_
    unfold X35 at r60
    try dsimp only at r60
    refine .go 3 ?_
    refine .freezeR 1 rfl rfl o59 [_] rfl B7 (fun G61 e62 B63 s65 => ?_)
    obtain ⟨u66, hu66, r68⟩ := X0 r60
    refine .cS [_] Tryz.call195 (Xbt mcs s65 hu66) (fun v69 bo so h70 => ?_)
    obtain ⟨a71, k72, cs73, rfl, rfl, rfl, o74⟩ := h70
    refine .gn 1 ?_
    refine .freezeR 1 rfl rfl (OL.mono e62 o57) [_] rfl B63 (fun G75 e76 B78 s79 => ?_)
    obtain ⟨u80, hu80, r81⟩ := X0 r68
    obtain ⟨a82, k83, h84, s85⟩ := SlR.part s79 pv58 hu80
    refine .revalV 91 h84.symm rfl ?_
    obtain ⟨u86, hu86, r87⟩ := X0 r81
    refine .cS [_] Tryz.call195 (Xbt mcs s85 hu86) (fun v88 bo so h89 => ?_)
    obtain ⟨a90, k91, cs92, rfl, rfl, rfl, o93⟩ := h89
    refine .gn 4 ?_
    cases r87
    refine .drop 1 0 [] _ rfl rfl (.pullS 1 rfl [_, _] rfl ?_)
    refine .rS [.tmp 6, .tmp 7, .tmp 8] [_, _, _] Tryz.func176 Tryz.results176 ⟨a71, k72, cs73, a90, k91, cs92, rfl, rfl, rfl, (OL.flat (Rep.flat_int _) o74), (OL.flat (Rep.flat_int _) o93)⟩
   ·intro hb94
    refine .block ?_
    refine .owncap 1 rfl (fun h95 => ?_)
    refine .pullS 1 rfl [_, _] rfl ?_
    refine .lp (fun y m => ∃ (Z0 : Nat) (Z1 : List Int) (Z2 Z3 Z4 : _) (Z5 : Value) (Z6 : List Int) (Z7 : _) (Z8 : Nat) (Z9 : _), y = ⟨[(11, Z5), (13, .slice Z7 Z6.length Z8)], [], [], [.s (.slice a22 Z1.length k23) 3 1 Z1.length Z2, .s (.slice Z7 Z6.length Z8) 3 1 Z6.length Z9]⟩ ∧ Z0 = m ∧ OL ri G5 Z2 Z1 ∧ Z1.length = u17.length ∧ PartV a22 1 Z5 Z3.toNat (Z4 - Z3).toNat ∧ OL ri G5 Z9 Z6 ∧ X50 X35 u26 u10.1 (u26.length : Int) u47 Z0 Z1 Z3 Z4 Z6 = some r) [(2, _), (9, _), (12, _), (14, _)] [_] [] ⟨big, u17, cs24, 0, (u17.length : Int), _, u36, (some ⟨b38, 0, none⟩), u36.length, cs39, rfl, rfl, o25, rfl, (PartV.all h95), o40, r48⟩ (fun y m hI hb96 => ?_)
    obtain ⟨n97, v98, cs99, v100, v101, vv102, v103, a104, k105, cs106, rfl, rfl, o107, hl108, pv109, o110, r111⟩ := hI
    refine .gn 0 ?_
    obtain ⟨m112, rfl⟩ : ∃ m, n97 = m + 1 := by cases n97 with | zero => exact absurd (show (none : Option _) = some _ from r111) (by simp) | succ m => exact ⟨m, rfl⟩
    have r113 : X8n X35 u26 u10.1 (u26.length : Int) u47 (X50 X35 u26 u10.1 (u26.length : Int) u47 m112) v98 v100 v101 v103 = some r := r111; clear r111; unfold X8n at r113; try dsimp only at r113
    refine .go 4 ?_
    refine .q .ro (.len_p rfl pv109 sl22) rfl (.go 3 ?_)
    refine .cH r113 (fun c114 r115 => ?_) (fun c114 r116 => ?_)
    ·refine .go 1 ?_
     refine .block (.go 3 ?_)
     refine .q .ro (.len_p rfl pv109 sl22) rfl (.go 9 ?_)
     refine .q .ro (.len_p rfl pv109 sl22) rfl (.go 1 ?_)
     obtain ⟨u117, hu117, r118⟩ := X0 r115
     obtain ⟨u119, hu119, r120⟩ := X0 r118
     obtain ⟨c121, p122, h123⟩ := OL.get o107 hu119
     obtain rfl := h123
     refine .q .ro (.idxP 0 rfl rfl pv109 rfl hu117 hu119 sl22 ty3.sz) rfl (.q .ro (.loadO 0 0 rfl hu119 p122 rfl (.inl ⟨rfl, rfl⟩) ty3 rfl) rfl (.go 1 ?_))
     obtain ⟨u124, hu124, r125⟩ := X0 r120
     refine .cV [_, _, _] Tryz.call77 (X13 mcs  hu124) ?_
     refine .go 7 ?_
     obtain ⟨u126, hu126, r127⟩ := X0 r125
     obtain ⟨c128, p129, h130⟩ := OL.get o110 hu126
     obtain rfl := h130
     refine .q .ro (.idxO 1 rfl rfl rfl hu126 sl22 ty3.sz) rfl ?_
     obtain ⟨u131, hu131, r132⟩ := X0 r127
     refine .storeR 1 0 (Q := ri) .ro rfl rfl o110 hu131 rfl (.inl ⟨rfl, rfl⟩) rfl ty3 p129 ((Rep.intI .i64 u124) :) rfl rfl (fun cs133 hlcs133 o134 => ?_)
     refine .reval 13 hlcs133 rfl (.reval 67 hlcs133 rfl (.go 2 ?_))
     refine .kG (fun y => ∃ (Z0 : List Int) (Z1 : _), y = ⟨[], G5 :: Fs, [], [.s (.slice a22 Z0.length k23) 3 1 Z0.length Z1]⟩ ∧ OL ri G5 Z1 Z0 ∧ Z0.length = u17.length ∧ (X8m (X50 X35 u26 u10.1 (u26.length : Int) u47 m112) v100 v101 u131) Z0 = some r) [(11, _), (13, _), (2, _), (9, _), (12, _), (14, _)] [_] [0] [_] [1] ?_ ?_
     ·rintro _ ⟨v135, cs136, rfl, o137, hl138, r139⟩
      refine .gn 0 ?_
      unfold X8m at r139
      try dsimp only at r139
      refine .go 3 ?_
      refine .q .ro (.len_p rfl pv109 sl22) rfl (.go 2 ?_)
      refine .q .ro (.len_p rfl pv109 sl22) rfl (.go 1 ?_)
      obtain ⟨u140, hu140, r141⟩ := X0 r139
      refine .q .ro (.sliceP3 rfl pv109 hu140 sl22 ty3.sz rfl rfl) rfl ?_
      refine .toV 0 rfl (fun vb142 po143 va144 vb145 => ?_)
      obtain ⟨u146, hu146, r147⟩ := X0 r141
      refine .lendP 0 87 rfl va144 o137 (PartV.psub3 pv109 hu140) rfl hu146 rfl (fun a148 k149 h150 o151 va152 => ?_)
      obtain ⟨u153, hu153, r154⟩ := X0 r147
      refine .callS (b1 := []) (b2 := [_]) (s1 := [_]) [_] [] .ro rfl rfl Tryz.call196 rfl rfl (Xda mcs va152 o151 hu153) rfl (fun v155 bo so h156 => ?_)
      obtain ⟨vv157, cs158, rfl, rfl, rfl, pv159, o160, hl161⟩ := h156
      refine .gn 0 ?_
      refine .backP 0 rfl va144 o137 rfl hu146 o160 hl161 (fun cs162 hl163 o164 va165 => ?_)
      refine .ofV 0 rfl vb145 hl163 o164 rfl ?_
      obtain ⟨u166, hu166, r167⟩ := X0 r154
      refine .go 3 ?_
      exact (hb96 _ _ ⟨m112, (lcpy v135 u140.1 u146.length u153.2), cs162, u166.1, u166.2, _, u131, a104, k105, cs133, rfl, rfl, o164, (hl163.trans hl138), (PartV.comp (PartV.psub3 pv109 hu140) h150 pv159 hu166), o134, r167⟩ (Nat.lt_succ_self _)).ar
     ·intro hb168
      refine .drawL (.q 0 (.q 1 (.q 2 (.q 4 (.q 5 (.q 7 (.alt (.e 3 1 (.e 6 1 (.e 8 2 .nil))) (.e 6 1 (.e 3 1 (.e 8 2 .nil)))))))))) [_] (by kernel_rfl) (by kernel_rfl) (X1 [0] rfl) ?_
      obtain ⟨u169, hu169, r170⟩ := X0 r132
      obtain ⟨u171, hu171, r172⟩ := X0 r170
      obtain ⟨u173, hu173, r174⟩ := X0 r172
      obtain ⟨u175, hu175, r177⟩ := X0 r174
      refine .go 6 ?_
      refine .alt ?_ ?_
      ·refine .q .d1 (.sliceP rfl pv109 hu169 sl22 ty3.sz (fun h => .yes' rfl h) (fun _ => .no)) rfl ?_
       refine .clsL (HpLe.refl _) (X1 [0] rfl) (.cVd [_, _, _] Tryz.call190 (X32 mcs  hu171) ?_)
       refine .clsL (HpLe.refl _) (X1 [0] rfl) ?_
       refine .toV 0 rfl (fun vb178 po179 va180 vb181 => ?_)
       refine .lendP 0 74 rfl va180 o107 (PartV.psub pv109 hu169) rfl hu173 rfl (fun a182 k183 h184 o185 va186 => ?_)
       refine .callS (b1 := []) (b2 := [_]) (s1 := [_]) [_, _, _, _] [] .d2 rfl rfl Tryz.call67 rfl rfl (X1p mcs va186 o185 s32 hu175) rfl (fun v187 bo so h188 => ?_)
       obtain ⟨cs189, rfl, rfl, rfl, o191, hl192⟩ := h188
       refine .gn 0 ?_
       refine .backP 0 rfl va180 o107 rfl hu173 o191 hl192 (fun cs193 hl198 o199 va200 => ?_)
       refine .ofV 0 rfl vb181 hl198 o199 rfl (.go 1 ?_)
       exact (hb168 _ ⟨(lcpy v98 u169.1 u173.length u175), cs193, rfl, o199, (hl198.trans hl108), r177⟩).ar
      ·refine .cVd [_, _, _] Tryz.call190 (X32 mcs  hu171) ?_
       refine .clsL (HpLe.refl _) (X1 [0] rfl) (.q .d1 (.sliceP rfl pv109 hu169 sl22 ty3.sz (fun h => .yes' rfl h) (fun _ => .no)) rfl (.clsL (HpLe.refl _) (X1 [0] rfl) ?_))
       refine .toV 0 rfl (fun vb201 po202 va203 vb204 => ?_)
       refine .lendP 0 74 rfl va203 o107 (PartV.psub pv109 hu169) rfl hu173 rfl (fun a205 k206 h207 o208 va209 => ?_)
       refine .callS (b1 := []) (b2 := [_]) (s1 := [_]) [_, _, _, _] [] .d2 rfl rfl Tryz.call67 rfl rfl (X1p mcs va209 o208 s32 hu175) rfl (fun v210 bo so h211 => ?_)
       obtain ⟨cs212, rfl, rfl, rfl, o213, hl214⟩ := h211
       refine .gn 0 ?_
       refine .backP 0 rfl va203 o107 rfl hu173 o213 hl214 (fun cs215 hl216 o217 va218 => ?_)
       refine .ofV 0 rfl vb204 hl216 o217 rfl (.go 1 ?_)
       exact (hb168 _ ⟨(lcpy v98 u169.1 u173.length u175), cs215, rfl, o217, (hl216.trans hl108), r177⟩).ar
    ·refine .exit rfl ?_
     exact (hb94 _ ⟨v98, a22, k23, cs99, v100, v101, _, v103, a104, k105, cs106, rfl, o107, pv109, o110, r116⟩).ar
theorem Xe4 {x0 : Int} {x1 : List (Int × Bool)} {x2 : List Int} {r : (List Int)} (hG : G ∈ Fs) (s1 : SlR (Rep.pair ri Rep.bool) G a1 k1 x1) (s2 : SlR ri G a2 k2 x2) (h : X9e x0 x1 x2 = some r) : RetS Tryz.prog 177 #[.int .i64 x0, .slice a1 x1.length k1, .slice a2 x2.length k2] Fs [] [] (fun v bo so => ∃ (oa0 : Option Addr) (ok0 : Nat) (oc0 : List Value), v = .slice oa0 r.length ok0 ∧ bo = [] ∧ so = [.s (.slice oa0 r.length ok0) 3 1 r.length oc0] ∧ OL ri G oc0 r) := by
 unfold X9e at h
 try dsimp only at h
 refine RetS.st [(0, _), (1, _), (2, _)] Tryz.func177 Tryz.ntmps177 hG fun w0 S0 hS0 B0 => ?_
 refine .go 15 ?_
 refine .block (.own_nil 3 1 ?_)
 refine .lp (fun y m => ∃ (Z0 : Nat) (Z1 : List (Int × Bool)) (Z2 : List Int) (Z3 : _) (Z4 : Nat) (Z5 : _), y = ⟨[(7, .slice Z3 Z2.length Z4), (12, .int .i64 (Z0 : Int))], [], [], [.s (.slice Z3 Z2.length Z4) 3 1 Z2.length Z5]⟩ ∧ Z1.length = m ∧ OL ri G Z5 Z2 ∧ List.drop Z0 x1 = Z1 ∧ X2n x0 x2 Z1 Z0 Z2 = some r) [(0, _), (2, _), (10, _), (11, _)] [] [] ⟨0, x1, ([] : List Int), none, 0, [], rfl, rfl, (OL.nil (Rp' := ri)), rfl, h⟩ (fun y m hI hb99 => ?_)
 obtain ⟨i89, w90, v92, a93, k94, cs95, rfl, rfl, o96, g91, r98⟩ := hI
 refine .gn 0 ?_
 cases w90 with
 | nil =>
  rw [X2n] at r98; try dsimp only at r98
  refine .go 5 ?_
  refine .cond_dec rfl (fun c => absurd c (Xl g91)) (fun _ => ?_)
  refine .exit rfl (.go 5 ?_)
  cases r98
  refine .rS [.tmp 6] [_] Tryz.func177 Tryz.results177 ⟨a93, k94, cs95, rfl, rfl, rfl, o96⟩
 | cons x10 xs11 =>
  have r12 : X6u x0 x2 (X2n x0 x2 xs11 (i89 + 1)) x10 i89 v92 = some r := r98; clear r98; unfold X6u at r12; try dsimp only at r12
  refine .go 5 ?_
  refine .cond_dec rfl (fun _ => ?_) (fun c => absurd (X15 g91) c)
  refine .go 2 ?_
  refine .block (.go 3 ?_)
  obtain ⟨c13, p14, h15⟩ := SlR.get s1 (X3 g91)
  obtain ⟨_, _, rfl, rfl, rfl⟩ := h15
  refine .q .ro (.idxR s1 rfl rfl (X3 g91) sl218 ty220.sz) rfl (.q .ro (.load_rp_a [_, _] p14 mcs rfl ty220 rfl) rfl ?_)
  refine .alloc .ro ty220 rfl (fun b16 hb16 => ?_)
  refine .go 1 ?_
  refine .store 0 [_, _] [_] .ro rfl rfl rfl ty220 rfl rfl rfl rfl (.go 2 ?_)
  refine .drawL (.q 0 (.q 1 (.q 2 (.q 3 (.q 4 (.q 5 (.q 6 (.q 8 (.q 9 (.e 7 1 (.q 10 (.q 11 .nil)))))))))))) [_] (by kernel_rfl) (by kernel_rfl) (X1 [0] rfl) (.go 3 ?_)
  obtain ⟨u17, h18, r19⟩ := X0 r12
  refine .kD (fun y => y = ⟨[(28, .bool u17)], G :: Fs, [], []⟩) [(7, _), (12, _), (0, _), (2, _), (10, _), (11, _), (8, _)] [_] [0] [_] [0] 9 ?_ ?_
  ·rintro _ rfl
   refine .gn 1 ?_
   refine .cB r19 (fun c20 r21 => ?_) (fun c20 r23 => ?_)
   ·refine .go 4 ?_
    refine .lit [_] [(0, _)] .ro sl22 ty3 rfl rfl rfl rfl rfl rfl (fun b24 hb24 => ?_)
    have o25 : OL ri G [.int .i64 (w64 ((i89 : Int) + 1))] ([(w64 ((i89 : Int) + 1))] : List Int) := ((OL.cons rfl (Rep.intI .i64 (w64 ((i89 : Int) + 1))) (OL.nil (Rp' := ri))) :)
    refine .reval 32 (n' := ([(w64 ((i89 : Int) + 1))] : List Int).length) rfl rfl ?_
    obtain ⟨u26, hu26, r27⟩ := X0 r21
    refine .appO (Q := ri) 0 .ro sl22 ty3 rfl rfl rfl rfl rfl rfl o96 o25 rfl rfl rfl B0 hu26 rfl (fun a28 k29 cs30 o31 => ?_)
    refine .go 7 ?_
    refine .drop 1 0 [] _ rfl rfl ?_
    exact (hb99 _ _ ⟨(i89 + 1), xs11, u26, a28, k29, cs30, rfl, rfl, o31, (X4 g91), r27⟩ (Nat.lt_succ_self _)).ax ⟨rfl, (congrArg (fun z => some (Value.int .i64 z)) (X5 (SlR.len s1) g91)), rfl, rfl, rfl, rfl, trivial⟩
   ·refine .go 6 ?_
    refine .drop 1 0 [] _ rfl rfl ?_
    exact (hb99 _ _ ⟨(i89 + 1), xs11, v92, a93, k94, cs95, rfl, rfl, o96, (X4 g91), r23⟩ (Nat.lt_succ_self _)).ax ⟨rfl, (congrArg (fun z => some (Value.int .i64 z)) (X5 (SlR.len s1) g91)), rfl, rfl, rfl, rfl, trivial⟩
  ·intro hb32
   refine .split_b 19 rfl (fun c33 => ?_) (fun c33 => ?_)
   ·have r34 := ifT h18 c33
    refine .dgq_on rfl (.go 1 ?_)
    refine .dgq_on rfl (.go 1 ?_)
    refine .dgq_on rfl (.go 1 ?_)
    refine .dgq_on rfl (.go 1 ?_)
    refine .dgq_on rfl (.go 1 ?_)
    refine .dgq_on rfl (.go 1 ?_)
    refine .dge_on rfl ?_
    obtain ⟨u35, hu35, r36⟩ := X0 r34
    refine .cVd [_, _, _] Tryz.call79 (X4w mcs s2 hu35) ?_
    refine .clsL (HpLe.refl _) (X1 [0] rfl) (.dgq_on rfl (.go 2 ?_))
    exact (hb32 _ rfl).ax ⟨sval r36, rfl, rfl, rfl, rfl, rfl, rfl, rfl, trivial⟩
   ·have r37 := ifBF h18 c33
    refine .dgq_off rfl rfl rfl (.dgq_off rfl rfl rfl (.dgq_off rfl rfl rfl (.dgq_off rfl rfl rfl (.dgq_off rfl rfl rfl (.dgq_off rfl rfl rfl (.dge_offL rfl rfl rfl (HpLe.refl _) (X1 [0] rfl) (.dgq_off rfl rfl rfl (.go 1 ?_))))))))
    exact (hb32 _ rfl).ax ⟨sval r37, rfl, rfl, rfl, rfl, rfl, rfl, rfl, trivial⟩
theorem Xe5 {x0_0 : Int} {x1 : List (Int × Bool)} {x2 : Int} {r : (((List Int) × (List Int)) × (Option Int))} (hG : G ∈ Fs) (hg0 : Rp G (.pointer (some ⟨0, 0, none⟩)) [ifc233 (some 12)]) (s1 : SlR (Rep.pair ri Rep.bool) G a1 k1 x1) (h : X9f x0_0 x1 x2 = some r) : RetW Tryz.prog 152 #[.agg #[.int .i64 x0_0], .slice a1 x1.length k1, .int .i64 x2] Fs [] [] (fun v bo so G => ∃ a0 : Option Addr, ∃ k0 : Nat, ∃ a1 : Option Addr, ∃ k1 : Nat, v = .tuple #[.agg #[.slice a0 r.1.1.length k0, .slice a1 r.1.2.length k1], (ifc233 r.2)] ∧ bo = [] ∧ so = [] ∧ SlR ri G a0 k0 r.1.1 ∧ SlR ri G a1 k1 r.1.2) := by
 unfold X9f at h
 try dsimp only at h
 refine RetW.st [(0, _), (1, _), (2, _)] Tryz.func152 Tryz.ntmps152 hG fun w0 S0 hS0 B0 => ?_
 refine .go 2 ?_
 refine .box [_] .ro rfl rfl rfl (fun b1 hb1 => ?_)
 refine .alloc .ro ty215 rfl (fun b2 hb2 => ?_)
 refine .go 5 ?_
 refine .q .ro (.load_own_a 1 [_] rfl rfl ty45 rfl) rfl (.go 2 ?_)
 obtain ⟨u3, hu3, r4⟩ := X0 h
 refine .cS [_, _, _] Tryz.call170 (Xe2 mcs s1 hu3) (fun v6 bo so h5 => ?_)
 obtain ⟨a8, k9, cs10, rfl, rfl, rfl, o11⟩ := h5
 refine .gn 11 ?_
 refine .cH r4 (fun c12 r13 => ?_) (fun c12 r14 => ?_)
 ·cases r13
 ·refine .go 4 ?_
  obtain ⟨u15, hu15, r16⟩ := X0 r14
  refine .cV [_] Tryz.call173 (Xes mcs s1 hu15) ?_
  refine .go 1 ?_
  obtain ⟨u19, hu19, r20⟩ := X0 r16
  refine .cV [_, _] Tryz.call172 (Xe3 mcs  hu19) ?_
  refine .go 8 ?_
  refine .q .ro (.load_own_a 1 [_] rfl rfl ty45 rfl) rfl (.go 3 ?_)
  obtain ⟨u23, hu23, r24⟩ := X0 r20
  refine .cW [_, _, _, _] Tryz.call174 (Xgt mcs s1 hu23) B0 (fun v26 bo so G27 e28 B29 h25 => ?_)
  obtain ⟨a31, k32, a34, k35, rfl, rfl, rfl, s33, s36⟩ := h25
  refine .gn 3 ?_
  refine .alloc .ro ty256 rfl (fun b37 hb37 => ?_)
  refine .store 0 [_, _, _, _, _] [_, _, _] .ro rfl rfl rfl ty256 rfl rfl rfl rfl (.go 8 ?_)
  refine .cH r24 (fun c38 r39 => ?_) (fun c38 r40 => ?_)
  ·cases r39
  ·refine .go 3 ?_
   refine .q .ro (.load_own_a 0 [_, _, _, _, _] rfl rfl ty256 rfl) rfl ?_
   obtain ⟨u41, hu41, r42⟩ := X0 r40
   refine .cS [_] Tryz.call175 (Xg1 mcs s33 s36 hu41) (fun v44 bo so h43 => ?_)
   obtain ⟨a46, k47, cs48, rfl, rfl, rfl, o49⟩ := h43
   refine .gn 12 ?_
   refine .cH r42 (fun c50 r51 => ?_) (fun c50 r52 => ?_)
   ·cases r51
   ·refine .go 2 ?_
    refine .kG (fun y => ∃ (Z0 : _) (Z1 : List Int) (Z2 : _) (Z3 : Nat) (Z4 : List Int) (Z5 : _) (Z6 : Nat) (Z7 : _), y = ⟨[(15, .slice Z2 Z1.length Z3), (16, .slice Z5 Z4.length Z6)], Z0 :: Fs, [], [.s (.slice Z5 Z4.length Z6) 3 1 Z4.length Z7]⟩ ∧ HpLe G27 Z0 ∧ Bd w0 S0 Fs Z0 ∧ SlR ri Z0 Z2 Z3 Z1 ∧ OL ri Z0 Z7 Z4 ∧ (X6v x1 x2 u19.1 x0_0) Z1 Z4 = some r) [(1, _), (2, _), (3, _), (6, _), (10, _)] [_, _, _] [0, 1, 2] [_] [1] ?_ ?_
    ·rintro _ ⟨G17, v18, a21, k30, v53, a54, k55, cs56, rfl, e57, B58, s59, o60, r61⟩
     refine .gn 0 ?_
     unfold X6v at r61
     try dsimp only at r61
     refine .go 2 ?_
     refine .q .ro (.load_own_a 2 [_] rfl rfl ty45 rfl) rfl (.go 2 ?_)
     refine .freezeR 0 rfl rfl o60 [_] rfl B58 (fun G62 e63 B65 s66 => ?_)
     obtain ⟨u67, hu67, r68⟩ := X0 r61
     refine .cS [_, _, _] Tryz.call176 (Xg2 mcs (SlR.mono e63 s59) s66 hu67) (fun v69 bo so h70 => ?_)
     obtain ⟨a71, k72, cs73, a74, k75, cs76, rfl, rfl, rfl, o77, o78⟩ := h70
     refine .gn 14 ?_
     refine .kR (fun y => y = ⟨[(88, .bool (decide ((u67.2.2 ≠ 0) ∨ (0 < (u67.2.1.length : Int)))))], G62 :: Fs, [], []⟩) [(1, _), (2, _), (3, _), (6, _), (10, _), (17, _)] [_, _, _] [0, 1, 2] [_, _, _] [0, 1, 2] 4 ?_ ?_
     ·rintro _ rfl
      refine .gn 1 ?_
      refine .kR (fun y => y = ⟨[(94, .bool (decide (((u67.2.2 ≠ 0) ∨ (0 < (u67.2.1.length : Int))) ∨ (x2 < (u67.1.length : Int)))))], G62 :: Fs, [], []⟩) [(1, _), (3, _), (6, _), (10, _), (17, _)] [_, _, _] [0, 1, 2] [_, _, _] [0, 1, 2] 5 ?_ ?_
      ·rintro _ rfl
       refine .gn 1 ?_
       refine .cH r68 (fun c79 r80 => ?_) (fun c79 r81 => ?_)
       ·cases r80
       ·refine .go 8 ?_
        refine .freezeR 0 rfl rfl o77 [_, _] rfl B65 (fun G82 e83 B84 s85 => ?_)
        obtain ⟨u86, hu86, r87⟩ := X0 r81
        refine .cS [_, _, _] Tryz.call177 (Xe4 mcs (SlR.mono (HpLe.trans (HpLe.trans (HpLe.trans e28 e57) e63) e83) s1) s85 hu86) (fun v88 bo so h89 => ?_)
        obtain ⟨a90, k91, cs92, rfl, rfl, rfl, o93⟩ := h89
        refine .gn 0 ?_
        refine .q .ro (.build [_, _] [(0, _), (1, _)] ty215 pl215 rfl rfl) rfl ?_
        refine .alloc .ro ty215 rfl (fun b94 hb94 => ?_)
        refine .store 0 [_, _] [_, _, _, _] .ro rfl rfl rfl ty215 rfl rfl rfl rfl (.go 10 ?_)
        refine .cH r87 (fun c95 r96 => ?_) (fun c95 r97 => ?_)
        ·cases r96
        ·refine .go 3 ?_
         refine .q .ro (.load_own_a 0 [_, _] rfl rfl ty215 rfl) rfl (.store 2 [_, _] [_, _, _, _] .ro rfl rfl rfl ty215 rfl rfl rfl rfl (.go 2 ?_))
         refine .freezeR 0 rfl rfl o93 [_, _] rfl B84 (fun G98 e99 B101 s102 => ?_)
         cases r97
         refine .drop 0 2 _ [] rfl rfl ?_
         refine .rW 4 [.cell 6 215, .tmp 7] [_, _] Tryz.func152 Tryz.results152 ⟨RV.cell_a 2 [_, _] rfl rfl ty215 rfl, RV.tmp rfl, trivial⟩ B101 hS0 (fun G' hg => ⟨a71, k72, a90, k91, rfl, rfl, rfl, (SlR.mono hg (SlR.mono e99 s85)), (SlR.mono hg s102)⟩)
      ·intro hb103
       refine .split 89 rfl (fun c104 => ?_) (fun c104 => ?_)
       ·refine .go 5 ?_
        exact (hb103 _ rfl).ax ⟨X4y c104, rfl, rfl, rfl, rfl, rfl, trivial⟩
       ·refine .go 9 ?_
        exact (hb103 _ rfl).ax ⟨X4z c104, rfl, rfl, rfl, rfl, rfl, trivial⟩
     ·intro hb105
      refine .split 84 rfl (fun c106 => ?_) (fun c106 => ?_)
      ·refine .go 4 ?_
       exact (hb105 _ rfl).ax ⟨X4y c106, rfl, rfl, rfl, rfl, rfl, rfl, trivial⟩
      ·refine .go 7 ?_
       exact (hb105 _ rfl).ax ⟨X4z c106, rfl, rfl, rfl, rfl, rfl, rfl, trivial⟩
    ·intro hb107
     refine .freezeR 0 rfl rfl o49 [_] rfl B29 (fun G108 e109 B110 s111 => ?_)
     refine .drawL (.q 0 (.q 1 (.q 2 (.q 3 (.q 4 (.q 5 (.q 6 (.q 7 (.q 8 (.q 9 (.alt (.e 10 1 (.e 11 1 (.e 12 1 (.q 13 (.q 14 .nil))))) (.e 11 1 (.e 10 1 (.e 12 1 (.q 13 (.q 14 .nil)))))))))))))))) [_, _, _] (by kernel_rfl) (by kernel_rfl) (X1 [0, 1, 2] rfl) ?_
     obtain ⟨u112, hu112, r113⟩ := X0 r52
     obtain ⟨u114, hu114, r115⟩ := X0 r113
     obtain ⟨u116, hu116, r117⟩ := X0 r115
     obtain ⟨u118, hu118, r119⟩ := X0 r117
     refine .go 4 ?_
     obtain ⟨a120, k121, h122, s123⟩ := SlR.sub s111 hu112
     refine .dq (.sliceR s111 rfl hu112 sl22 ty3.sz (fun _ => .no) (fun h => .yes' rfl h) h122) rfl (.go 4 ?_)
     obtain ⟨a124, k125, h126, s127⟩ := SlR.sub s111 hu114
     refine .dq (.sliceR s111 rfl hu114 sl22 ty3.sz (fun h => .yes' rfl h) (fun _ => .no) h126) rfl ?_
     refine .alt ?_ ?_
     ·refine .cSd [_] Tryz.call100 (X24 mcs s127 hu116) (fun v128 bo so h129 => ?_)
      obtain ⟨a130, k131, cs132, rfl, rfl, rfl, o133⟩ := h129
      refine .gn 0 ?_
      refine .clsL (HpLe.refl _) (X1 [0, 1, 2] rfl) ?_
      refine .lit [_] [(0, _)] .d1 sl22 ty3 rfl rfl rfl rfl rfl rfl (fun b134 hb134 => ?_)
      have o135 : OL ri G108 [.int .i64 1] ([1] : List Int) := ((OL.cons rfl (Rep.intI .i64 1) (OL.nil (Rp' := ri))) :)
      refine .reval 72 (n' := ([1] : List Int).length) rfl rfl (.clsL (HpLe.refl _) (X1 [0, 1, 2] rfl) ?_)
      refine .appO (Q := ri) 0 .d1 sl22 ty3 rfl rfl rfl rfl rfl rfl o133 o135 rfl rfl rfl B110 hu118 rfl (fun a136 k137 cs138 o139 => ?_)
      refine .clsL (HpLe.refl _) (X1 [0, 1, 2] rfl) (.go 3 ?_)
      exact (hb107 _ ⟨G108, u112, a120, k121, u118, a136, k137, cs138, rfl, e109, B110, s123, o139, r119⟩).ar
     ·refine .lit [_] [(0, _)] .d1 sl22 ty3 rfl rfl rfl rfl rfl rfl (fun b140 hb140 => ?_)
      have o141 : OL ri G108 [.int .i64 1] ([1] : List Int) := ((OL.cons rfl (Rep.intI .i64 1) (OL.nil (Rp' := ri))) :)
      refine .reval 72 (n' := ([1] : List Int).length) rfl rfl (.clsL (HpLe.refl _) (X1 [0, 1, 2] rfl) ?_)
      refine .cSd [_] Tryz.call100 (X24 mcs s127 hu116) (fun v142 bo so h143 => ?_)
      obtain ⟨a144, k145, cs146, rfl, rfl, rfl, o147⟩ := h143
      refine .gn 0 ?_
      refine .clsL (HpLe.refl _) (X1 [0, 1, 2] rfl) (.pullS 1 rfl [_, _, _] rfl ?_)
      refine .appO (Q := ri) 0 .d1 sl22 ty3 rfl rfl rfl rfl rfl rfl o147 o141 rfl rfl rfl B110 hu118 rfl (fun a148 k149 cs150 o151 => ?_)
      refine .clsL (HpLe.refl _) (X1 [0, 1, 2] rfl) (.go 3 ?_)
      exact (hb107 _ ⟨G108, u112, a120, k121, u118, a148, k149, cs150, rfl, e109, B110, s123, o151, r119⟩).ar
theorem Xe6 {x0_0 : Int} {x1 : List (Int × Bool)} {x2 : Int} {r : (((List Int) × (List Int)) × Int)} (hG : G ∈ Fs) (hg0 : Rp G (.pointer (some ⟨0, 0, none⟩)) [ifc233 (some 12)]) (s1 : SlR (Rep.pair ri Rep.bool) G a1 k1 x1) (h : X7n x0_0 x1 x2 = some r) : RetW Tryz.prog 131 #[.agg #[.int .i64 x0_0], .slice a1 x1.length k1, .int .i64 x2] Fs [] [] (fun v bo so G => ∃ a0 : Option Addr, ∃ k0 : Nat, ∃ a1 : Option Addr, ∃ k1 : Nat, v = .tuple #[.agg #[.slice a0 r.1.1.length k0, .slice a1 r.1.2.length k1], .int .i64 r.2] ∧ bo = [] ∧ so = [] ∧ SlR ri G a0 k0 r.1.1 ∧ SlR ri G a1 k1 r.1.2) := by
 unfold X7n at h
 try dsimp only at h
 refine RetW.st [(0, _), (1, _), (2, _)] Tryz.func131 Tryz.ntmps131 hG fun w0 S0 hS0 B0 => ?_
 refine .go 2 ?_
 refine .box [_] .ro rfl rfl rfl (fun b1 hb1 => ?_)
 refine .alloc .ro ty215 rfl (fun b2 hb2 => ?_)
 refine .go 4 ?_
 refine .q .ro (.load_own_a 1 [_] rfl rfl ty45 rfl) rfl (.go 2 ?_)
 obtain ⟨u3, hu3, r4⟩ := X0 h
 refine .cW [_, _, _] Tryz.call152 (Xe5 mcs hg0 s1 hu3) B0 (fun v6 bo so G7 e8 B9 h5 => ?_)
 obtain ⟨a11, k12, a14, k15, rfl, rfl, rfl, s13, s16⟩ := h5
 refine .gn 3 ?_
 refine .alloc .ro ty215 rfl (fun b17 hb17 => ?_)
 refine .store 0 [_, _] [_, _, _] .ro rfl rfl rfl ty215 rfl rfl rfl rfl (.go 6 ?_)
 refine .q .ro (.load_rp (Rp.mono e8 hg0) mcs rfl ty233 rfl) rfl ?_
 obtain ⟨u18, hu18, r19⟩ := X0 r4
 refine .cV [_, _] Tryz.call153 (Xhj mcs  hu18) ?_
 refine .go 1 ?_
 refine .cB r19 (fun c22 r23 => ?_) (fun c22 r24 => ?_)
 ·cases r23
 ·refine .go 2 ?_
  refine .drawL (.q 0 (.q 1 (.e 2 1 (.e 3 1 (.q 4 .nil))))) [_, _] (by kernel_rfl) (by kernel_rfl) (X1 [0, 2] rfl) (.dq (.load_own_a 0 [_, _] rfl rfl ty215 rfl) rfl (.go 1 ?_))
  obtain ⟨u25, hu25, r26⟩ := X0 r24
  refine .cVd [_] Tryz.call154 (Xdy mcs  hu25) ?_
  refine .clsL (HpLe.refl _) (X1 [0, 2] rfl) (.store 1 [_, _] [_, _, _] .d1 rfl rfl rfl ty215 rfl rfl rfl rfl (.clsL (HpLe.refl _) (X1 [0, 2] rfl) (.go 2 ?_)))
  cases r26
  refine .rW 3 [.cell 6 215, .tmp 7] [_, _] Tryz.func131 Tryz.results131 ⟨RV.cell_a 1 [_, _] rfl rfl ty215 rfl, RV.tmp rfl, trivial⟩ B9 hS0 (fun G' hg => ⟨a11, k12, a14, k15, rfl, rfl, rfl, (SlR.mono hg s13), (SlR.mono hg s16)⟩)
theorem Xan {x0_0 : Int} {x0_1 : Int} {x0_2 : List (Bool × (List Int))} {x1 : Int} {r : (((List Int) × (List Int)) × Int)} (hG : G ∈ Fs) (hg0 : Rp G (.pointer (some ⟨0, 0, none⟩)) [ifc233 (some 12)]) (s0_2 : SlR (Rep.pair Rep.bool (Rep.sl ri)) G a0_2 k0_2 x0_2) (h : X2u (x0_0, x0_1, x0_2) x1 = some r) : RetW Tryz.prog 86 #[.agg #[.int .i64 x0_0, .int .i64 x0_1, .slice a0_2 x0_2.length k0_2], .int .i64 x1] Fs [] [] (fun v bo so G => ∃ a0 : Option Addr, ∃ k0 : Nat, ∃ a1 : Option Addr, ∃ k1 : Nat, v = .tuple #[.agg #[.slice a0 r.1.1.length k0, .slice a1 r.1.2.length k1], .int .i64 r.2] ∧ bo = [] ∧ so = [] ∧ SlR ri G a0 k0 r.1.1 ∧ SlR ri G a1 k1 r.1.2) := by
 unfold X2u at h
 try dsimp only at h
 refine RetW.st [(0, _), (1, _)] Tryz.func86 Tryz.ntmps86 hG fun w0 S0 hS0 B0 => ?_
 refine .go 2 ?_
 refine .box [_, _, _] .ro rfl rfl rfl (fun b1 hb1 => ?_)
 refine .alloc .ro ty215 rfl (fun b2 hb2 => ?_)
 refine .go 14 ?_
 refine .kB (fun y => ∃ (Z0 : List (Int × Bool)) (Z1 : _) (Z2 : Nat) (Z3 Z4 Z5 : _), y = ⟨[(6, .slice Z1 Z0.length Z2)], G :: Fs, [(b1, .cells #[.int .i64 Z4, .int .i64 Z5, .slice a0_2 x0_2.length k0_2] 162 (0, 0))], [.s (.slice Z1 Z0.length Z2) 220 2 Z0.length Z3]⟩ ∧ OL (Rep.pair ri Rep.bool) G Z3 Z0 ∧ Xo Z0 Z4 Z5 = some r) [(2, _), (4, _)] [_] [0] [] [] ?_ ?_
 ·rintro _ ⟨v10, a11, k12, cs13, v14, v15, rfl, o16, r17⟩
  refine .gn 0 ?_
  unfold Xo at r17
  try dsimp only at r17
  refine .go 3 ?_
  refine .q .ro (.load_own_a 0 [_] rfl rfl ty45 rfl) rfl (.go 3 ?_)
  refine .freezeR 0 rfl rfl o16 [] rfl B0 (fun G18 e19 B20 s21 => ?_)
  obtain ⟨u23, hu23, r24⟩ := X0 r17
  refine .cW [_, _, _] Tryz.call131 (Xe6 mcs (Rp.mono e19 hg0) s21 hu23) B20 (fun v25 bo so G26 e27 B28 h29 => ?_)
  obtain ⟨a30, k31, a32, k33, rfl, rfl, rfl, s34, s35⟩ := h29
  refine .gn 2 ?_
  refine .store 1 [_, _] [_, _] .ro rfl rfl rfl ty215 rfl rfl rfl rfl (.go 2 ?_)
  cases r24
  refine .rW 2 [.cell 4 215, .tmp 5] [_, _] Tryz.func86 Tryz.results86 ⟨RV.cell_a 1 [_, _] rfl rfl ty215 rfl, RV.tmp rfl, trivial⟩ B28 hS0 (fun G' hg => ⟨a30, k31, a32, k33, rfl, rfl, rfl, (SlR.mono hg s34), (SlR.mono hg s35)⟩)
 ·intro hb36
  refine .block (.own_nil 220 2 ?_)
  refine .lp (fun y m => ∃ (Z0 : Nat) (Z1 : List (Bool × (List Int))) (Z2 : List (Int × Bool)) (Z3 : _) (Z4 : Nat) (Z5 : _), y = ⟨[(6, .slice Z3 Z2.length Z4), (13, .int .i64 (Z0 : Int))], [], [], [.s (.slice Z3 Z2.length Z4) 220 2 Z2.length Z5]⟩ ∧ Z1.length = m ∧ OL (Rep.pair ri Rep.bool) G Z5 Z2 ∧ List.drop Z0 x0_2 = Z1 ∧ Xi Xo x1 x0_0 x0_1 Z1 Z2 = some r) [(1, _), (2, _), (4, _), (11, _), (12, _)] [_, _] [] ⟨0, x0_2, ([] : List (Int × Bool)), none, 0, [], rfl, rfl, (OL.nil (Rp' := (Rep.pair ri Rep.bool))), rfl, h⟩ (fun y m hI hb37 => ?_)
  obtain ⟨i38, w39, v40, a41, k42, cs43, rfl, rfl, o44, g46, r47⟩ := hI
  refine .gn 0 ?_
  cases w39 with
  | nil =>
   rw [Xi] at r47; try dsimp only at r47
   refine .go 5 ?_
   refine .cond_dec rfl (fun c => absurd c (Xl g46)) (fun _ => ?_)
   refine .exit rfl (.pull 1 rfl [_, _] rfl ?_)
   exact (hb36 _ ⟨v40, a41, k42, cs43, x0_0, x0_1, rfl, o44, r47⟩).ar
  | cons x48 xs49 =>
   have r50 : X36 Xo x1 x0_0 x0_1 (Xi Xo x1 x0_0 x0_1 xs49) x48 v40 = some r := r47; clear r47; unfold X36 at r50; try dsimp only at r50
   refine .go 5 ?_
   refine .cond_dec rfl (fun _ => ?_) (fun c => absurd (X15 g46) c)
   refine .go 2 ?_
   refine .block (.go 2 ?_)
   obtain ⟨c51, p52, h53⟩ := SlR.get s0_2 (X3 g46)
   obtain ⟨_, _, rfl, rfl, a54, k55, rfl, s56⟩ := h53
   refine .q .ro (.idxR s0_2 rfl rfl (X3 g46) sl60 ty63.sz) rfl (.q .ro (.load_rp_a [_, _] p52 mcs rfl ty63 rfl) rfl ?_)
   refine .alloc .ro ty63 rfl (fun b57 hb57 => ?_)
   refine .store 0 [_, _] [_, _, _] .ro rfl rfl rfl ty63 rfl rfl rfl rfl (.go 5 ?_)
   refine .q .ro (.build [_, _] [(1, _)] ty220 pl220 rfl rfl) rfl ?_
   refine .alloc .ro ty220 rfl (fun b58 hb58 => ?_)
   refine .store 0 [_, _] [_, _, _, _] .ro rfl rfl rfl ty220 rfl rfl rfl rfl (.go 7 ?_)
   refine .kI (fun y => ∃ (Z0 : _), y = ⟨[], G :: Fs, [(b58, .cells #[.int .i64 Z0, .bool x48.1] 220 (0, 0))], []⟩ ∧ (X1k (Xi Xo x1 x0_0 x0_1 xs49) x48.1 v40) Z0 = some r) [(6, _), (13, _), (1, _), (2, _), (4, _), (11, _), (12, _), (9, _)] [_, _, _] [1, 2, 3] [_] [0] ?_ ?_
   ·rintro _ ⟨v59, rfl, r61⟩
    refine .gn 0 ?_
    unfold X1k at r61
    try dsimp only at r61
    refine .go 2 ?_
    refine .q .ro (.load_own_a 0 [_, _] rfl rfl ty220 rfl) rfl ?_
    refine .lit [_, _] [(0, _)] .ro sl218 ty220 rfl rfl rfl rfl rfl rfl (fun b62 hb62 => ?_)
    have o65 : OL (Rep.pair ri Rep.bool) G [.int .i64 v59, .bool x48.1] ([(v59, x48.1)] : List (Int × Bool)) := ((OL.cons rfl (Rep.pairI (Rep.intI .i64 v59) (Rep.boolI x48.1)) (OL.nil (Rp' := (Rep.pair ri Rep.bool)))) :)
    refine .reval 30 (n' := ([(v59, x48.1)] : List (Int × Bool)).length) rfl rfl ?_
    obtain ⟨u66, hu66, r67⟩ := X0 r61
    refine .appO (Q := (Rep.pair ri Rep.bool)) 0 .ro sl218 ty220 rfl rfl rfl rfl rfl rfl o44 o65 rfl rfl rfl B0 hu66 rfl (fun a68 k69 cs70 o71 => ?_)
    refine .go 7 ?_
    refine .drop 2 0 [_, _] _ rfl rfl ?_
    exact (hb37 _ _ ⟨(i38 + 1), xs49, u66, a68, k69, cs70, rfl, rfl, o71, (X4 g46), r67⟩ (Nat.lt_succ_self _)).ax ⟨rfl, (congrArg (fun z => some (Value.int .i64 z)) (X5 (SlR.len s0_2) g46)), rfl, rfl, rfl, rfl, rfl, trivial⟩
   ·intro hb72
    refine .cB r50 (fun c73 r74 => ?_) (fun c73 r75 => ?_)
    ·refine .go 4 ?_
     obtain ⟨u76, hu76, r77⟩ := X0 r74
     obtain ⟨c78, p79, h80⟩ := SlR.get s56 hu76
     obtain rfl := h80
     refine .q .ro (.idxR s56 rfl rfl hu76 sl22 ty3.sz) rfl (.q .ro (.load_rp p79 mcs rfl ty3 rfl) rfl (.go 1 ?_))
     refine .store 0 [_, _] [_, _, _, _] .ro rfl rfl rfl ty3 rfl rfl rfl rfl (.go 1 ?_)
     exact (hb72 _ ⟨(u76), rfl, r77⟩).ar
    ·refine .go 1 ?_
     exact (hb72 _ ⟨(0), rfl, r75⟩).ar
theorem Xbj {x0 : Int} {r : Bool} (hG : G ∈ Fs)  (h : X7o x0 = some r) : RetS Tryz.prog 186 #[.int .i64 x0] Fs [] [] (rv (.bool r)) := by
 unfold X7o at h
 try dsimp only at h
 refine RetS.st [(0, _)] Tryz.func186 Tryz.ntmps186 hG fun w0 S0 hS0 B0 => ?_
 refine .go 11 ?_
 cases h
 refine .rS [.tmp 2] [_] Tryz.func186 Tryz.results186 ⟨rfl, rfl, rfl⟩
theorem X65 {x0 : Int} {x1 : Int} {r : Bool} (hG : G ∈ Fs)  (h : X8t x0 x1 = some r) : RetS Tryz.prog 165 #[.int .i64 x0, .int .i64 x1] Fs [] [] (rv (.bool r)) := by
 unfold X8t at h
 try dsimp only at h
 refine RetS.st [(0, _), (1, _)] Tryz.func165 Tryz.ntmps165 hG fun w0 S0 hS0 B0 => ?_
 refine .go 7 ?_
 obtain ⟨u1, hu1, r2⟩ := X0 h
 refine .cV [_] Tryz.call186 (Xbj mcs  hu1) ?_
 refine .go 1 ?_
 obtain ⟨u11, h12, r13⟩ := X0 r2
 refine .kR (fun y => y = ⟨[(11, .bool u11)], G :: Fs, [], []⟩) [(0, _), (1, _), (4, _)] [] [] [] [] 4 ?_ ?_
 ·rintro _ rfl
  refine .gn 1 ?_
  refine .kR (fun y => y = ⟨[(16, .bool (decide ((u11 = true) ∨ (x0 < x1))))], G :: Fs, [], []⟩) [(4, _)] [] [] [] [] 4 ?_ ?_
  ·rintro _ rfl
   refine .gn 2 ?_
   cases r13
   refine .rS [.tmp 4] [_] Tryz.func165 Tryz.results165 ⟨rfl, rfl, rfl⟩
  ·intro hb17
   refine .split_b 12 rfl (fun c16 => ?_) (fun c16 => ?_)
   ·refine .go 4 ?_
    exact (hb17 _ rfl).ax ⟨X4y c16, rfl, trivial⟩
   ·refine .go 7 ?_
    exact (hb17 _ rfl).ax ⟨X4z (Xd2 c16), rfl, trivial⟩
 ·intro hb10
  refine .split_b 7 rfl (fun c9 => ?_) (fun c9 => ?_)
  ·have r20 := ifT h12 c9
   refine .go 3 ?_
   obtain ⟨u21, hu21, r22⟩ := X0 r20
   refine .cV [_] Tryz.call186 (Xbj mcs  hu21) ?_
   refine .go 3 ?_
   exact (hb10 _ rfl).ax ⟨sval r22, rfl, rfl, rfl, trivial⟩
  ·have r25 := ifBF h12 c9
   refine .go 4 ?_
   exact (hb10 _ rfl).ax ⟨sval r25, rfl, rfl, rfl, trivial⟩
end Go.Proofs.YtfcicopgdahmcaaGreatDoor
end

section
set_option maxHeartbeats 4000000
set_option maxRecDepth 100000
namespace Go.Proofs.YtfcicopgdahmcaaGreatDoor
open Go.RowKit
set_option linter.unusedSimpArgs false
set_option linter.unusedVariables false
set_option synthInstance.maxSize 2000
set_option synthInstance.maxHeartbeats 400000
variable {Fs : List Hp} {G : Hp} {a0 : Option Addr} {k0 p0 p3 p4 p2 : Nat} {cc0 : List Value} {bb0 : Option Nat}
theorem X87 {x0 : List Int} {pre0 post0 : List Value} {x1 : Int} {x2 : Int} {r : (List Int)} (hG : G ∈ Fs) (vva0 : VA a0 bb0 x0.length k0 pre0 cc0) (oo0 : OL ri G cc0 x0) (h : X18 x0 x1 x2 = some r) : RetS Tryz.prog 159 #[.slice a0 x0.length k0, .int .i64 x1, .int .i64 x2] Fs [] [.g (viewG bb0 3 pre0 cc0 post0)] (fun v bo so => ∃ lc0 : List Value, v = .tuple #[] ∧ bo = [] ∧ so = [.g (viewG bb0 3 pre0 lc0 post0)] ∧ OL ri G lc0 r ∧ r.length = x0.length) := by
 unfold X18 at h
 try dsimp only at h
 refine RetS.st [(0, _), (1, _), (2, _)] Tryz.func159 Tryz.ntmps159 hG fun w0 S0 hS0 B0 => ?_
 refine .go 6 ?_
 refine .block ?_
 refine .lp (fun y m => ∃ (Z0 : Nat) (Z1 : _) (Z2 : List Int) (Z3 : _), y = ⟨[(6, .int .i64 Z1), (0, .slice a0 Z2.length k0)], [], [], [.g (viewG bb0 3 pre0 Z3 post0)]⟩ ∧ Z0 = m ∧ OL ri G Z3 Z2 ∧ VA a0 bb0 Z2.length k0 pre0 Z3 ∧ Z2.length = x0.length ∧ X2 x1 x2 Z0 Z1 Z2 = some r) [(1, _), (2, _)] [] [] ⟨big, (w64 (x1 + 1)), x0, cc0, rfl, rfl, oo0, vva0, rfl, h⟩ (fun y m hI hb10 => ?_)
 obtain ⟨n11, v12, v13, cs14, rfl, rfl, o15, va16, hl17, r18⟩ := hI
 refine .gn 0 ?_
 obtain ⟨m19, rfl⟩ : ∃ m, n11 = m + 1 := by cases n11 with | zero => exact absurd (show (none : Option _) = some _ from r18) (by simp) | succ m => exact ⟨m, rfl⟩
 have r20 : Xj x1 x2 (X2 x1 x2 m19) v12 v13 = some r := r18; clear r18; unfold Xj at r20; try dsimp only at r20
 refine .go 7 ?_
 refine .cH r20 (fun c21 r23 => ?_) (fun c21 r24 => ?_)
 ·refine .go 2 ?_
  refine .block (.go 5 ?_)
  refine .block ?_
  refine .lp (fun y m => ∃ (Z0 : Nat) (Z1 : _) (Z2 : List Int) (Z3 : _), y = ⟨[(7, .int .i64 Z1), (0, .slice a0 Z2.length k0)], [], [], [.g (viewG bb0 3 pre0 Z3 post0)]⟩ ∧ Z0 = m ∧ OL ri G Z3 Z2 ∧ VA a0 bb0 Z2.length k0 pre0 Z3 ∧ Z2.length = x0.length ∧ X7 (X2 x1 x2 m19) v12 x1 Z0 Z1 Z2 = some r) [(6, _), (1, _), (2, _)] [] [] ⟨big, v12, v13, cs14, rfl, rfl, o15, va16, hl17, r23⟩ (fun y m hI hb25 => ?_)
  obtain ⟨n26, v27, v28, cs29, rfl, rfl, o30, va31, hl32, r33⟩ := hI
  refine .gn 0 ?_
  obtain ⟨m34, rfl⟩ : ∃ m, n26 = m + 1 := by cases n26 with | zero => exact absurd (show (none : Option _) = some _ from r33) (by simp) | succ m => exact ⟨m, rfl⟩
  have r35 : Xt (X2 x1 x2 m19) v12 x1 (X7 (X2 x1 x2 m19) v12 x1 m34) v27 v28 = some r := r33; clear r33; unfold Xt at r35; try dsimp only at r35
  refine .go 2 ?_
  refine .kG (fun y => ∃ (Z0 : _), y = ⟨[(30, .bool Z0)], G :: Fs, [], []⟩ ∧ (X1j (X7 (X2 x1 x2 m19) v12 x1 m34) (X2 x1 x2 m19) v27 v12 v28) Z0 = some r) [(7, _), (0, _), (6, _), (1, _), (2, _)] [] [] [_] [0] ?_ ?_
  ·rintro _ ⟨v36, rfl, r37⟩
   refine .gn 0 ?_
   unfold X1j at r37
   try dsimp only at r37
   refine .cB r37 (fun c38 r39 => ?_) (fun c38 r40 => ?_)
   ·refine .go 2 ?_
    refine .block (.drawL (.q 0 (.q 1 (.q 2 (.q 3 (.q 4 (.q 5 (.q 6 (.q 7 (.q 10 (.q 11 (.alt (.e 8 1 (.alt (.e 9 1 (.e 12 1 (.e 13 1 (.e 14 1 (.e 15 1 (.e 16 2 (.e 17 2 .nil))))))) (.e 12 1 (.alt (.e 9 1 (.e 13 1 (.e 14 1 (.e 15 1 (.e 16 2 (.e 17 2 .nil)))))) (.e 13 1 (.e 9 1 (.e 14 1 (.e 15 1 (.e 16 2 (.e 17 2 .nil)))))))))) (.e 12 1 (.alt (.e 8 1 (.alt (.e 9 1 (.e 13 1 (.e 14 1 (.e 15 1 (.e 16 2 (.e 17 2 .nil)))))) (.e 13 1 (.e 9 1 (.e 14 1 (.e 15 1 (.e 16 2 (.e 17 2 .nil)))))))) (.e 13 1 (.e 8 1 (.e 9 1 (.e 14 1 (.e 15 1 (.e 16 2 (.e 17 2 .nil)))))))))))))))))))) [] (by kernel_rfl) (by kernel_rfl) (X1 [] rfl) ?_)
    obtain ⟨u41, hu41, r42⟩ := X0 r39
    obtain ⟨u43, hu43, r44⟩ := X0 r42
    obtain ⟨u45, hu45, r46⟩ := X0 r44
    obtain ⟨u47, hu47, r48⟩ := X0 r46
    obtain ⟨u49, hu49, r50⟩ := X0 r48
    obtain ⟨u51, hu51, r52⟩ := X0 r50
    refine .go 10 ?_
    refine .alt ?_ ?_
    ·obtain ⟨c53, p54, h55⟩ := OL.get o30 hu41
     obtain rfl := h55
     refine .q .d1 (.idxV 0 rfl va31 o30 rfl rfl hu41 sl22 ty3.sz rfl rfl) rfl (.clsL (HpLe.refl _) (X1 [] rfl) ?_)
     refine .alt ?_ ?_
     ·refine .q .d1 (.loadV 0 0 rfl va31 o30 rfl rfl hu41 p54 rfl (.inl ⟨rfl, rfl⟩) ty3 rfl) rfl ?_
      refine .clsL (HpLe.refl _) (X1 [] rfl) ?_
      obtain ⟨c56, p57, h58⟩ := OL.get o30 hu43
      obtain rfl := h58
      refine .q .d1 (.idxV 0 rfl va31 o30 rfl rfl hu43 sl22 ty3.sz rfl rfl) rfl (.clsL (HpLe.refl _) (X1 [] rfl) (.q .d1 (.loadV 0 0 rfl va31 o30 rfl rfl hu43 p57 rfl (.inl ⟨rfl, rfl⟩) ty3 rfl) rfl (.clsL (HpLe.refl _) (X1 [] rfl) ?_)))
      obtain ⟨c59, p60, h61⟩ := OL.get o30 hu45
      obtain rfl := h61
      refine .q .d1 (.idxV 0 rfl va31 o30 rfl rfl hu45 sl22 ty3.sz rfl rfl) rfl (.clsL (HpLe.refl _) (X1 [] rfl) ?_)
      refine .storeV 0 0 (Q := ri) .d1 rfl va31 rfl rfl o30 hu47 rfl (.inl ⟨rfl, rfl⟩) rfl ty3 p60 ((Rep.intI .i64 u41) :) rfl rfl (fun cs62 hlcs62 o63 va65 => ?_)
      refine .reval 0 hlcs62 rfl (.reval 33 hlcs62 rfl (.reval 35 hlcs62 rfl (.reval 38 hlcs62 rfl (.reval 43 hlcs62 rfl (.clsL (HpLe.refl _) (X1 [] rfl) ?_)))))
      obtain ⟨c66, p67, h68⟩ := OL.get o63 hu49
      obtain rfl := h68
      refine .q .d2 (.idxV 0 rfl va65 o63 rfl rfl hu49 sl22 ty3.sz rfl rfl) rfl ?_
      refine .storeV 0 0 (Q := ri) .d2 rfl va65 rfl rfl o63 hu51 rfl (.inl ⟨rfl, rfl⟩) rfl ty3 p67 ((Rep.intI .i64 u43) :) rfl rfl (fun cs69 hlcs69 o70 va71 => ?_)
      refine .reval 0 hlcs69 rfl (.reval 33 hlcs69 rfl (.reval 35 hlcs69 rfl (.reval 38 hlcs69 rfl (.reval 43 hlcs69 rfl (.go 7 ?_)))))
      exact (hb25 _ _ ⟨m34, (w64 (v27 - 1)), u51, cs69, rfl, rfl, o70, va71, (hlcs69.trans (hlcs62.trans hl32)), r52⟩ (Nat.lt_succ_self _)).ar
     ·obtain ⟨c72, p73, h74⟩ := OL.get o30 hu43
      obtain rfl := h74
      refine .q .d1 (.idxV 0 rfl va31 o30 rfl rfl hu43 sl22 ty3.sz rfl rfl) rfl (.clsL (HpLe.refl _) (X1 [] rfl) ?_)
      refine .alt ?_ ?_
      ·refine .q .d1 (.loadV 0 0 rfl va31 o30 rfl rfl hu41 p54 rfl (.inl ⟨rfl, rfl⟩) ty3 rfl) rfl ?_
       refine .clsL (HpLe.refl _) (X1 [] rfl) (.q .d1 (.loadV 0 0 rfl va31 o30 rfl rfl hu43 p73 rfl (.inl ⟨rfl, rfl⟩) ty3 rfl) rfl (.clsL (HpLe.refl _) (X1 [] rfl) ?_))
       obtain ⟨c75, p76, h77⟩ := OL.get o30 hu45
       obtain rfl := h77
       refine .q .d1 (.idxV 0 rfl va31 o30 rfl rfl hu45 sl22 ty3.sz rfl rfl) rfl (.clsL (HpLe.refl _) (X1 [] rfl) ?_)
       refine .storeV 0 0 (Q := ri) .d1 rfl va31 rfl rfl o30 hu47 rfl (.inl ⟨rfl, rfl⟩) rfl ty3 p76 ((Rep.intI .i64 u41) :) rfl rfl (fun cs78 hlcs78 o79 va80 => ?_)
       refine .reval 0 hlcs78 rfl (.reval 33 hlcs78 rfl (.reval 35 hlcs78 rfl (.reval 38 hlcs78 rfl (.reval 43 hlcs78 rfl (.clsL (HpLe.refl _) (X1 [] rfl) ?_)))))
       obtain ⟨c81, p82, h83⟩ := OL.get o79 hu49
       obtain rfl := h83
       refine .q .d2 (.idxV 0 rfl va80 o79 rfl rfl hu49 sl22 ty3.sz rfl rfl) rfl ?_
       refine .storeV 0 0 (Q := ri) .d2 rfl va80 rfl rfl o79 hu51 rfl (.inl ⟨rfl, rfl⟩) rfl ty3 p82 ((Rep.intI .i64 u43) :) rfl rfl (fun cs84 hlcs84 o85 va86 => ?_)
       refine .reval 0 hlcs84 rfl (.reval 33 hlcs84 rfl (.reval 35 hlcs84 rfl (.reval 38 hlcs84 rfl (.reval 43 hlcs84 rfl (.go 7 ?_)))))
       exact (hb25 _ _ ⟨m34, (w64 (v27 - 1)), u51, cs84, rfl, rfl, o85, va86, (hlcs84.trans (hlcs78.trans hl32)), r52⟩ (Nat.lt_succ_self _)).ar
      ·refine .q .d1 (.loadV 0 0 rfl va31 o30 rfl rfl hu43 p73 rfl (.inl ⟨rfl, rfl⟩) ty3 rfl) rfl ?_
       refine .clsL (HpLe.refl _) (X1 [] rfl) (.q .d1 (.loadV 0 0 rfl va31 o30 rfl rfl hu41 p54 rfl (.inl ⟨rfl, rfl⟩) ty3 rfl) rfl (.clsL (HpLe.refl _) (X1 [] rfl) ?_))
       obtain ⟨c87, p88, h89⟩ := OL.get o30 hu45
       obtain rfl := h89
       refine .q .d1 (.idxV 0 rfl va31 o30 rfl rfl hu45 sl22 ty3.sz rfl rfl) rfl (.clsL (HpLe.refl _) (X1 [] rfl) ?_)
       refine .storeV 0 0 (Q := ri) .d1 rfl va31 rfl rfl o30 hu47 rfl (.inl ⟨rfl, rfl⟩) rfl ty3 p88 ((Rep.intI .i64 u41) :) rfl rfl (fun cs90 hlcs90 o91 va92 => ?_)
       refine .reval 0 hlcs90 rfl (.reval 33 hlcs90 rfl (.reval 35 hlcs90 rfl (.reval 38 hlcs90 rfl (.reval 43 hlcs90 rfl (.clsL (HpLe.refl _) (X1 [] rfl) ?_)))))
       obtain ⟨c93, p94, h95⟩ := OL.get o91 hu49
       obtain rfl := h95
       refine .q .d2 (.idxV 0 rfl va92 o91 rfl rfl hu49 sl22 ty3.sz rfl rfl) rfl ?_
       refine .storeV 0 0 (Q := ri) .d2 rfl va92 rfl rfl o91 hu51 rfl (.inl ⟨rfl, rfl⟩) rfl ty3 p94 ((Rep.intI .i64 u43) :) rfl rfl (fun cs96 hlcs96 o97 va98 => ?_)
       refine .reval 0 hlcs96 rfl (.reval 33 hlcs96 rfl (.reval 35 hlcs96 rfl (.reval 38 hlcs96 rfl (.reval 43 hlcs96 rfl (.go 7 ?_)))))
       exact (hb25 _ _ ⟨m34, (w64 (v27 - 1)), u51, cs96, rfl, rfl, o97, va98, (hlcs96.trans (hlcs90.trans hl32)), r52⟩ (Nat.lt_succ_self _)).ar
    ·obtain ⟨c99, p100, h101⟩ := OL.get o30 hu43
     obtain rfl := h101
     refine .q .d1 (.idxV 0 rfl va31 o30 rfl rfl hu43 sl22 ty3.sz rfl rfl) rfl (.clsL (HpLe.refl _) (X1 [] rfl) ?_)
     refine .alt ?_ ?_
     ·obtain ⟨c102, p103, h104⟩ := OL.get o30 hu41
      obtain rfl := h104
      refine .q .d1 (.idxV 0 rfl va31 o30 rfl rfl hu41 sl22 ty3.sz rfl rfl) rfl (.clsL (HpLe.refl _) (X1 [] rfl) ?_)
      refine .alt ?_ ?_
      ·refine .q .d1 (.loadV 0 0 rfl va31 o30 rfl rfl hu41 p103 rfl (.inl ⟨rfl, rfl⟩) ty3 rfl) rfl ?_
       refine .clsL (HpLe.refl _) (X1 [] rfl) (.q .d1 (.loadV 0 0 rfl va31 o30 rfl rfl hu43 p100 rfl (.inl ⟨rfl, rfl⟩) ty3 rfl) rfl (.clsL (HpLe.refl _) (X1 [] rfl) ?_))
       obtain ⟨c105, p106, h107⟩ := OL.get o30 hu45
       obtain rfl := h107
       refine .q .d1 (.idxV 0 rfl va31 o30 rfl rfl hu45 sl22 ty3.sz rfl rfl) rfl (.clsL (HpLe.refl _) (X1 [] rfl) ?_)
       refine .storeV 0 0 (Q := ri) .d1 rfl va31 rfl rfl o30 hu47 rfl (.inl ⟨rfl, rfl⟩) rfl ty3 p106 ((Rep.intI .i64 u41) :) rfl rfl (fun cs108 hlcs108 o109 va110 => ?_)
       refine .reval 0 hlcs108 rfl (.reval 33 hlcs108 rfl (.reval 35 hlcs108 rfl (.reval 38 hlcs108 rfl (.reval 43 hlcs108 rfl (.clsL (HpLe.refl _) (X1 [] rfl) ?_)))))
       obtain ⟨c111, p112, h113⟩ := OL.get o109 hu49
       obtain rfl := h113
       refine .q .d2 (.idxV 0 rfl va110 o109 rfl rfl hu49 sl22 ty3.sz rfl rfl) rfl ?_
       refine .storeV 0 0 (Q := ri) .d2 rfl va110 rfl rfl o109 hu51 rfl (.inl ⟨rfl, rfl⟩) rfl ty3 p112 ((Rep.intI .i64 u43) :) rfl rfl (fun cs114 hlcs114 o115 va116 => ?_)
       refine .reval 0 hlcs114 rfl (.reval 33 hlcs114 rfl (.reval 35 hlcs114 rfl (.reval 38 hlcs114 rfl (.reval 43 hlcs114 rfl (.go 7 ?_)))))
       exact (hb25 _ _ ⟨m34, (w64 (v27 - 1)), u51, cs114, rfl, rfl, o115, va116, (hlcs114.trans (hlcs108.trans hl32)), r52⟩ (Nat.lt_succ_self _)).ar
      ·refine .q .d1 (.loadV 0 0 rfl va31 o30 rfl rfl hu43 p100 rfl (.inl ⟨rfl, rfl⟩) ty3 rfl) rfl ?_
       refine .clsL (HpLe.refl _) (X1 [] rfl) (.q .d1 (.loadV 0 0 rfl va31 o30 rfl rfl hu41 p103 rfl (.inl ⟨rfl, rfl⟩) ty3 rfl) rfl (.clsL (HpLe.refl _) (X1 [] rfl) ?_))
       obtain ⟨c117, p118, h119⟩ := OL.get o30 hu45
       obtain rfl := h119
       refine .q .d1 (.idxV 0 rfl va31 o30 rfl rfl hu45 sl22 ty3.sz rfl rfl) rfl (.clsL (HpLe.refl _) (X1 [] rfl) ?_)
       refine .storeV 0 0 (Q := ri) .d1 rfl va31 rfl rfl o30 hu47 rfl (.inl ⟨rfl, rfl⟩) rfl ty3 p118 ((Rep.intI .i64 u41) :) rfl rfl (fun cs120 hlcs120 o121 va122 => ?_)
       refine .reval 0 hlcs120 rfl (.reval 33 hlcs120 rfl (.reval 35 hlcs120 rfl (.reval 38 hlcs120 rfl (.reval 43 hlcs120 rfl (.clsL (HpLe.refl _) (X1 [] rfl) ?_)))))
       obtain ⟨c123, p124, h125⟩ := OL.get o121 hu49
       obtain rfl := h125
       refine .q .d2 (.idxV 0 rfl va122 o121 rfl rfl hu49 sl22 ty3.sz rfl rfl) rfl ?_
       refine .storeV 0 0 (Q := ri) .d2 rfl va122 rfl rfl o121 hu51 rfl (.inl ⟨rfl, rfl⟩) rfl ty3 p124 ((Rep.intI .i64 u43) :) rfl rfl (fun cs126 hlcs126 o127 va128 => ?_)
       refine .reval 0 hlcs126 rfl (.reval 33 hlcs126 rfl (.reval 35 hlcs126 rfl (.reval 38 hlcs126 rfl (.reval 43 hlcs126 rfl (.go 7 ?_)))))
       exact (hb25 _ _ ⟨m34, (w64 (v27 - 1)), u51, cs126, rfl, rfl, o127, va128, (hlcs126.trans (hlcs120.trans hl32)), r52⟩ (Nat.lt_succ_self _)).ar
     ·refine .q .d1 (.loadV 0 0 rfl va31 o30 rfl rfl hu43 p100 rfl (.inl ⟨rfl, rfl⟩) ty3 rfl) rfl ?_
      refine .clsL (HpLe.refl _) (X1 [] rfl) ?_
      obtain ⟨c129, p130, h131⟩ := OL.get o30 hu41
      obtain rfl := h131
      refine .q .d1 (.idxV 0 rfl va31 o30 rfl rfl hu41 sl22 ty3.sz rfl rfl) rfl (.clsL (HpLe.refl _) (X1 [] rfl) (.q .d1 (.loadV 0 0 rfl va31 o30 rfl rfl hu41 p130 rfl (.inl ⟨rfl, rfl⟩) ty3 rfl) rfl (.clsL (HpLe.refl _) (X1 [] rfl) ?_)))
      obtain ⟨c132, p133, h134⟩ := OL.get o30 hu45
      obtain rfl := h134
      refine .q .d1 (.idxV 0 rfl va31 o30 rfl rfl hu45 sl22 ty3.sz rfl rfl) rfl (.clsL (HpLe.refl _) (X1 [] rfl) ?_)
      refine .storeV 0 0 (Q := ri) .d1 rfl va31 rfl rfl o30 hu47 rfl (.inl ⟨rfl, rfl⟩) rfl ty3 p133 ((Rep.intI .i64 u41) :) rfl rfl (fun cs135 hlcs135 o136 va137 => ?_)
      refine .reval 0 hlcs135 rfl (.reval 33 hlcs135 rfl (.reval 35 hlcs135 rfl (.reval 38 hlcs135 rfl (.reval 43 hlcs135 rfl (.clsL (HpLe.refl _) (X1 [] rfl) ?_)))))
      obtain ⟨c138, p139, h140⟩ := OL.get o136 hu49
      obtain rfl := h140
      refine .q .d2 (.idxV 0 rfl va137 o136 rfl rfl hu49 sl22 ty3.sz rfl rfl) rfl ?_
      refine .storeV 0 0 (Q := ri) .d2 rfl va137 rfl rfl o136 hu51 rfl (.inl ⟨rfl, rfl⟩) rfl ty3 p139 ((Rep.intI .i64 u43) :) rfl rfl (fun cs141 hlcs141 o142 va143 => ?_)
      refine .reval 0 hlcs141 rfl (.reval 33 hlcs141 rfl (.reval 35 hlcs141 rfl (.reval 38 hlcs141 rfl (.reval 43 hlcs141 rfl (.go 7 ?_)))))
      exact (hb25 _ _ ⟨m34, (w64 (v27 - 1)), u51, cs141, rfl, rfl, o142, va143, (hlcs141.trans (hlcs135.trans hl32)), r52⟩ (Nat.lt_succ_self _)).ar
   ·refine .exit rfl ?_
    refine .go 6 ?_
    exact (hb10 _ _ ⟨m19, (w64 (v12 + 1)), v28, cs29, rfl, rfl, o30, va31, hl32, r40⟩ (Nat.lt_succ_self _)).ar
  ·intro hb144
   refine .drawL (.q 0 (.q 1 (.q 2 (.q 3 (.q 4 (.q 5 (.q 8 (.q 9 (.q 10 (.alt (.e 6 1 (.alt (.e 7 1 (.e 11 1 (.e 12 1 (.e 13 1 (.q 14 .nil))))) (.e 11 1 (.alt (.e 7 1 (.e 12 1 (.e 13 1 (.q 14 .nil)))) (.e 12 1 (.e 7 1 (.e 13 1 (.q 14 .nil)))))))) (.e 11 1 (.alt (.e 6 1 (.alt (.e 7 1 (.e 12 1 (.e 13 1 (.q 14 .nil)))) (.e 12 1 (.e 7 1 (.e 13 1 (.q 14 .nil)))))) (.e 12 1 (.e 6 1 (.e 7 1 (.e 13 1 (.q 14 .nil))))))))))))))))) [] (by kernel_rfl) (by kernel_rfl) (X1 [] rfl) (.go 4 ?_)
   obtain ⟨u145, h146, r147⟩ := X0 r35
   refine .kD (fun y => y = ⟨[(30, .bool u145)], G :: Fs, [], []⟩) [(7, _), (0, _), (6, _), (1, _), (2, _)] [] [] [_] [0] 11 ?_ ?_
   ·rintro _ rfl
    refine .gn 1 ?_
    exact (hb144 _ ⟨(u145), rfl, r147⟩).ar
   ·intro hb148
    refine .split 19 rfl (fun c149 => ?_) (fun c149 => ?_)
    ·have r150 := ifT h146 c149
     refine .dgq_on rfl (.go 1 ?_)
     refine .dgq_on rfl (.go 1 ?_)
     refine .dgq_on rfl (.go 1 ?_)
     refine .dgq_on rfl (.go 1 ?_)
     refine .dgq_on rfl (.go 1 ?_)
     obtain ⟨u151, hu151, r152⟩ := X0 r150
     obtain ⟨u153, hu153, r154⟩ := X0 r152
     obtain ⟨u155, hu155, r156⟩ := X0 r154
     refine .alt ?_ ?_
     ·refine .dge_on rfl ?_
      obtain ⟨c157, p158, h160⟩ := OL.get o30 hu151
      obtain rfl := h160
      refine .q .d1 (.idxV 0 rfl va31 o30 rfl rfl hu151 sl22 ty3.sz rfl rfl) rfl (.clsL (HpLe.refl _) (X1 [] rfl) ?_)
      refine .alt ?_ ?_
      ·refine .dge_on rfl ?_
       refine .q .d1 (.loadV 0 0 rfl va31 o30 rfl rfl hu151 p158 rfl (.inl ⟨rfl, rfl⟩) ty3 rfl) rfl (.clsL (HpLe.refl _) (X1 [] rfl) (.dge_on rfl ?_))
       obtain ⟨c161, p162, h163⟩ := OL.get o30 hu153
       obtain rfl := h163
       refine .q .d1 (.idxV 0 rfl va31 o30 rfl rfl hu153 sl22 ty3.sz rfl rfl) rfl (.clsL (HpLe.refl _) (X1 [] rfl) (.dge_on rfl (.q .d1 (.loadV 0 0 rfl va31 o30 rfl rfl hu153 p162 rfl (.inl ⟨rfl, rfl⟩) ty3 rfl) rfl (.clsL (HpLe.refl _) (X1 [] rfl) (.dge_on rfl (.cVd [_, _] Tryz.call165 (X65 mcs  hu155) ?_))))))
       refine .clsL (HpLe.refl _) (X1 [] rfl) (.go 1 ?_)
       exact (hb148 _ rfl).ax ⟨sval r156, rfl, rfl, rfl, rfl, rfl, trivial⟩
      ·refine .dge_on rfl ?_
       obtain ⟨c164, p166, h167⟩ := OL.get o30 hu153
       obtain rfl := h167
       refine .q .d1 (.idxV 0 rfl va31 o30 rfl rfl hu153 sl22 ty3.sz rfl rfl) rfl (.clsL (HpLe.refl _) (X1 [] rfl) ?_)
       refine .alt ?_ ?_
       ·refine .dge_on rfl ?_
        refine .q .d1 (.loadV 0 0 rfl va31 o30 rfl rfl hu151 p158 rfl (.inl ⟨rfl, rfl⟩) ty3 rfl) rfl (.clsL (HpLe.refl _) (X1 [] rfl) (.dge_on rfl (.q .d1 (.loadV 0 0 rfl va31 o30 rfl rfl hu153 p166 rfl (.inl ⟨rfl, rfl⟩) ty3 rfl) rfl (.clsL (HpLe.refl _) (X1 [] rfl) (.dge_on rfl (.cVd [_, _] Tryz.call165 (X65 mcs  hu155) ?_))))))
        refine .clsL (HpLe.refl _) (X1 [] rfl) (.go 1 ?_)
        exact (hb148 _ rfl).ax ⟨sval r156, rfl, rfl, rfl, rfl, rfl, trivial⟩
       ·refine .dge_on rfl ?_
        refine .q .d1 (.loadV 0 0 rfl va31 o30 rfl rfl hu153 p166 rfl (.inl ⟨rfl, rfl⟩) ty3 rfl) rfl (.clsL (HpLe.refl _) (X1 [] rfl) (.dge_on rfl (.q .d1 (.loadV 0 0 rfl va31 o30 rfl rfl hu151 p158 rfl (.inl ⟨rfl, rfl⟩) ty3 rfl) rfl (.clsL (HpLe.refl _) (X1 [] rfl) (.dge_on rfl (.cVd [_, _] Tryz.call165 (X65 mcs  hu155) ?_))))))
        refine .clsL (HpLe.refl _) (X1 [] rfl) (.go 1 ?_)
        exact (hb148 _ rfl).ax ⟨sval r156, rfl, rfl, rfl, rfl, rfl, trivial⟩
     ·refine .dge_on rfl ?_
      obtain ⟨c168, p169, h170⟩ := OL.get o30 hu153
      obtain rfl := h170
      refine .q .d1 (.idxV 0 rfl va31 o30 rfl rfl hu153 sl22 ty3.sz rfl rfl) rfl (.clsL (HpLe.refl _) (X1 [] rfl) ?_)
      refine .alt ?_ ?_
      ·refine .dge_on rfl ?_
       obtain ⟨c171, p172, h173⟩ := OL.get o30 hu151
       obtain rfl := h173
       refine .q .d1 (.idxV 0 rfl va31 o30 rfl rfl hu151 sl22 ty3.sz rfl rfl) rfl (.clsL (HpLe.refl _) (X1 [] rfl) ?_)
       refine .alt ?_ ?_
       ·refine .dge_on rfl ?_
        refine .q .d1 (.loadV 0 0 rfl va31 o30 rfl rfl hu151 p172 rfl (.inl ⟨rfl, rfl⟩) ty3 rfl) rfl (.clsL (HpLe.refl _) (X1 [] rfl) (.dge_on rfl (.q .d1 (.loadV 0 0 rfl va31 o30 rfl rfl hu153 p169 rfl (.inl ⟨rfl, rfl⟩) ty3 rfl) rfl (.clsL (HpLe.refl _) (X1 [] rfl) (.dge_on rfl (.cVd [_, _] Tryz.call165 (X65 mcs  hu155) ?_))))))
        refine .clsL (HpLe.refl _) (X1 [] rfl) (.go 1 ?_)
        exact (hb148 _ rfl).ax ⟨sval r156, rfl, rfl, rfl, rfl, rfl, trivial⟩
       ·refine .dge_on rfl ?_
        refine .q .d1 (.loadV 0 0 rfl va31 o30 rfl rfl hu153 p169 rfl (.inl ⟨rfl, rfl⟩) ty3 rfl) rfl (.clsL (HpLe.refl _) (X1 [] rfl) (.dge_on rfl (.q .d1 (.loadV 0 0 rfl va31 o30 rfl rfl hu151 p172 rfl (.inl ⟨rfl, rfl⟩) ty3 rfl) rfl (.clsL (HpLe.refl _) (X1 [] rfl) (.dge_on rfl (.cVd [_, _] Tryz.call165 (X65 mcs  hu155) ?_))))))
        refine .clsL (HpLe.refl _) (X1 [] rfl) (.go 1 ?_)
        exact (hb148 _ rfl).ax ⟨sval r156, rfl, rfl, rfl, rfl, rfl, trivial⟩
      ·refine .dge_on rfl ?_
       refine .q .d1 (.loadV 0 0 rfl va31 o30 rfl rfl hu153 p169 rfl (.inl ⟨rfl, rfl⟩) ty3 rfl) rfl (.clsL (HpLe.refl _) (X1 [] rfl) (.dge_on rfl ?_))
       obtain ⟨c174, p175, h176⟩ := OL.get o30 hu151
       obtain rfl := h176
       refine .q .d1 (.idxV 0 rfl va31 o30 rfl rfl hu151 sl22 ty3.sz rfl rfl) rfl (.clsL (HpLe.refl _) (X1 [] rfl) (.dge_on rfl (.q .d1 (.loadV 0 0 rfl va31 o30 rfl rfl hu151 p175 rfl (.inl ⟨rfl, rfl⟩) ty3 rfl) rfl (.clsL (HpLe.refl _) (X1 [] rfl) (.dge_on rfl (.cVd [_, _] Tryz.call165 (X65 mcs  hu155) ?_))))))
       refine .clsL (HpLe.refl _) (X1 [] rfl) (.go 1 ?_)
       exact (hb148 _ rfl).ax ⟨sval r156, rfl, rfl, rfl, rfl, rfl, trivial⟩
    ·have r177 := ifF h146 c149
     refine .dgq_off rfl rfl rfl (.dgq_off rfl rfl rfl (.dgq_off rfl rfl rfl (.dgq_off rfl rfl rfl (.dgq_off rfl rfl rfl ?_))))
     refine .alt ?_ ?_
     ·refine .dge_offL rfl rfl rfl (HpLe.refl _) (X1 [] rfl) ?_
      refine .alt ?_ ?_
      ·refine .dge_offL rfl rfl rfl (HpLe.refl _) (X1 [] rfl) ?_
       refine .dge_offL rfl rfl rfl (HpLe.refl _) (X1 [] rfl) (.dge_offL rfl rfl rfl (HpLe.refl _) (X1 [] rfl) (.dge_offL rfl rfl rfl (HpLe.refl _) (X1 [] rfl) (.go 1 ?_)))
       exact (hb148 _ rfl).ax ⟨sval r177, rfl, rfl, rfl, rfl, rfl, trivial⟩
      ·refine .dge_offL rfl rfl rfl (HpLe.refl _) (X1 [] rfl) ?_
       refine .alt ?_ ?_
       ·refine .dge_offL rfl rfl rfl (HpLe.refl _) (X1 [] rfl) ?_
        refine .dge_offL rfl rfl rfl (HpLe.refl _) (X1 [] rfl) (.dge_offL rfl rfl rfl (HpLe.refl _) (X1 [] rfl) (.go 1 ?_))
        exact (hb148 _ rfl).ax ⟨sval r177, rfl, rfl, rfl, rfl, rfl, trivial⟩
       ·refine .dge_offL rfl rfl rfl (HpLe.refl _) (X1 [] rfl) ?_
        refine .dge_offL rfl rfl rfl (HpLe.refl _) (X1 [] rfl) (.dge_offL rfl rfl rfl (HpLe.refl _) (X1 [] rfl) (.go 1 ?_))
        exact (hb148 _ rfl).ax ⟨sval r177, rfl, rfl, rfl, rfl, rfl, trivial⟩
     ·refine .dge_offL rfl rfl rfl (HpLe.refl _) (X1 [] rfl) ?_
      refine .alt ?_ ?_
      ·refine .dge_offL rfl rfl rfl (HpLe.refl _) (X1 [] rfl) ?_
       refine .alt ?_ ?_
       ·refine .dge_offL rfl rfl rfl (HpLe.refl _) (X1 [] rfl) ?_
        refine .dge_offL rfl rfl rfl (HpLe.refl _) (X1 [] rfl) (.dge_offL rfl rfl rfl (HpLe.refl _) (X1 [] rfl) (.go 1 ?_))
        exact (hb148 _ rfl).ax ⟨sval r177, rfl, rfl, rfl, rfl, rfl, trivial⟩
       ·refine .dge_offL rfl rfl rfl (HpLe.refl _) (X1 [] rfl) ?_
        refine .dge_offL rfl rfl rfl (HpLe.refl _) (X1 [] rfl) (.dge_offL rfl rfl rfl (HpLe.refl _) (X1 [] rfl) (.go 1 ?_))
        exact (hb148 _ rfl).ax ⟨sval r177, rfl, rfl, rfl, rfl, rfl, trivial⟩
      ·refine .dge_offL rfl rfl rfl (HpLe.refl _) (X1 [] rfl) ?_
       refine .dge_offL rfl rfl rfl (HpLe.refl _) (X1 [] rfl) (.dge_offL rfl rfl rfl (HpLe.refl _) (X1 [] rfl) (.dge_offL rfl rfl rfl (HpLe.refl _) (X1 [] rfl) (.go 1 ?_)))
       exact (hb148 _ rfl).ax ⟨sval r177, rfl, rfl, rfl, rfl, rfl, trivial⟩
 ·refine .exit rfl ?_
  cases r24
  refine .rS [] [] Tryz.func159 Tryz.results159 ⟨cs14, rfl, rfl, rfl, o15, hl17⟩
theorem Xcv {x0 : Int} {r : Int} (hG : G ∈ Fs)  (h : X9v x0 = some r) : RetS Tryz.prog 169 #[.int .u64 x0] Fs [] [] (rv (.int .i64 r)) := by
 unfold X9v at h
 try dsimp only at h
 refine RetS.st [(0, _)] Tryz.func169 Tryz.ntmps169 hG fun w0 S0 hS0 B0 => ?_
 refine .go 10 ?_
 refine .cutI (β := Unit) (fun y => []) [(0, _), (2, _)] (fun y => G :: Fs) (fun y => []) [] (fun y => []) [] (fun y => (X7r x0)  = some r) ⟨rfl, rfl, trivial⟩ [] rfl [] rfl ?_ ?_
 ·intro _ hI
  have r6 := hI; clear hI
  refine .gn 0 ?_
  unfold X7r at r6
  try dsimp only at r6
  refine .go 6 ?_
  refine .cutI (β := Unit) (fun y => []) [(0, _), (2, _)] (fun y => G :: Fs) (fun y => []) [] (fun y => []) [] (fun y => (X7q x0)  = some r) ⟨rfl, rfl, trivial⟩ [] rfl [] rfl ?_ ?_
  ·intro _ hI
   have r13 := hI; clear hI
   refine .gn 0 ?_
   unfold X7q at r13
   try dsimp only at r13
   refine .go 6 ?_
   refine .cutI (β := Unit) (fun y => []) [(0, _), (2, _)] (fun y => G :: Fs) (fun y => []) [] (fun y => []) [] (fun y => (X7p x0)  = some r) ⟨rfl, rfl, trivial⟩ [] rfl [] rfl ?_ ?_
   ·intro _ hI
    have r20 := hI; clear hI
    refine .gn 0 ?_
    unfold X7p at r20
    try dsimp only at r20
    refine .go 4 ?_
    refine .q .ro (.convw Tryz.underlying251 Tryz.underlying5 rfl) rfl ?_
    obtain ⟨u22, hu22, r23⟩ := X0 r20
    refine .q .ro (.sidx rfl rfl Tryz.underlying9 hu22) rfl (.q .ro (.convw Tryz.underlying5 Tryz.underlying3 rfl) rfl (.go 3 ?_))
    cases r23
    refine .rS [.tmp 2] [_] Tryz.func169 Tryz.results169 ⟨rfl, rfl, rfl⟩
   ·intro hb24
    refine .cH r13 (fun c25 r26 => ?_) (fun c25 r27 => ?_)
    ·cases r26
    ·refine .go 1 ?_
     exact .arr (hb24 () r27) ⟨rfl, rfl, trivial⟩
  ·intro hb28
   refine .cH r6 (fun c29 r30 => ?_) (fun c29 r31 => ?_)
   ·cases r30
   ·refine .go 1 ?_
    exact .arr (hb28 () r31) ⟨rfl, rfl, trivial⟩
 ·intro hb32
  refine .cH h (fun c33 r34 => ?_) (fun c33 r35 => ?_)
  ·cases r34
  ·refine .go 1 ?_
   exact .arr (hb32 () r35) ⟨rfl, rfl, trivial⟩
theorem Xe7 {x0 : Int} {r : Int} (hG : G ∈ Fs)  (h : X9g x0 = some r) : RetS Tryz.prog 151 #[.int .u64 x0] Fs [] [] (rv (.int .i64 r)) := by
 unfold X9g at h
 try dsimp only at h
 refine RetS.st [(0, _)] Tryz.func151 Tryz.ntmps151 hG fun w0 S0 hS0 B0 => ?_
 refine .go 5 ?_
 refine .cond_false rfl (.go 4 ?_)
 obtain ⟨u1, hu1, r2⟩ := X0 h
 refine .cV [_] Tryz.call169 (Xcv mcs  hu1) ?_
 refine .go 2 ?_
 cases r2
 refine .rS [.tmp 2] [_] Tryz.func151 Tryz.results151 ⟨rfl, rfl, rfl⟩
end Go.Proofs.YtfcicopgdahmcaaGreatDoor
end

section
set_option maxHeartbeats 4000000
set_option maxRecDepth 100000
namespace Go.Proofs.YtfcicopgdahmcaaGreatDoor
open Go.RowKit
set_option linter.unusedSimpArgs false
set_option linter.unusedVariables false
set_option synthInstance.maxSize 2000
set_option synthInstance.maxHeartbeats 400000
variable {Fs : List Hp} {G : Hp} {a0 : Option Addr} {k0 : Nat} {cc0 : List Value} {bb0 : Option Nat}
theorem X90 (n : Nat) : ∀ {Fs : List Hp} {G : Hp} {a0 : Option Addr} {k0 : Nat} {x0 : List Int} {cc0 : List Value} {bb0 : Option Nat} {pre0 post0 : List Value} {x1 : Int} {x2 : Int} {x3 : Int} {r : (List Int)} (hG : G ∈ Fs) (vva0 : VA a0 bb0 x0.length k0 pre0 cc0) (oo0 : OL ri G cc0 x0) (h : X19 n x0 x1 x2 x3 = some r), RetS Tryz.prog 150 #[.slice a0 x0.length k0, .int .i64 x1, .int .i64 x2, .int .i64 x3] Fs [] [.g (viewG bb0 3 pre0 cc0 post0)] (fun v bo so => ∃ lc0 : List Value, v = .tuple #[] ∧ bo = [] ∧ so = [.g (viewG bb0 3 pre0 lc0 post0)] ∧ OL ri G lc0 r ∧ r.length = x0.length) := by
 induction n with
 | zero => intro Fs G a0 k0 x0 cc0 bb0 pre0 post0 x1 x2 x3 r hG vva0 oo0 h; exact absurd h (by unfold X19; simp)
 | succ n ih =>
  intro Fs G a0 k0 x0 cc0 bb0 pre0 post0 x1 x2 x3 r hG vva0 oo0 h
  unfold X19 at h
  unfold X3m at h
  try dsimp only at h
  refine RetS.st [(0, _), (1, _), (2, _), (3, _)] Tryz.func150 Tryz.ntmps150 hG fun w0 S0 hS0 B0 => ?_
  refine .go 8 ?_
  refine .block ?_
  refine .lp (fun y m => ∃ (Z0 : Nat), y = ⟨[], [], [], []⟩ ∧ Z0 = m ∧ X1o x1 x2 x0 Z0  = some r) [(0, _), (1, _), (2, _), (3, _), (8, _), (9, _)] [] [_] ⟨(big), rfl, rfl, h⟩ (fun y m hI hb23 => ?_)
  obtain ⟨n20, rfl, rfl, r22⟩ := hI
  refine .gn 0 ?_
  obtain ⟨m29, rfl⟩ : ∃ m, n20 = m + 1 := by cases n20 with | zero => exact absurd (show (none : Option _) = some _ from r22) (by simp) | succ m => exact ⟨m, rfl⟩
  have r28 : X2f x1 x2 x0 (X1o x1 x2 x0 m29)  = some r := r22; clear r22; unfold X2f at r28; try dsimp only at r28
  refine .block (.go 13 ?_)
  refine .cH r28 (fun c30 r31 => ?_) (fun c30 r41 => ?_)
  ·refine .go 5 ?_
   obtain ⟨u32, hu32, r33⟩ := X0 r31
   refine .callS (b1 := []) (b2 := []) (s1 := [_]) [_, _, _] [] .ro rfl rfl Tryz.call159 rfl rfl (X87 mcs vva0 oo0 hu32) rfl (fun v35 bo so h34 => ?_)
   obtain ⟨cs36, rfl, rfl, rfl, o37, hl38⟩ := h34
   refine .gn 0 ?_
   have va40 := VA.call vva0 oo0 o37 hl38
   refine .reval 0 hl38 rfl (.reval 24 hl38 rfl (.go 1 ?_))
   refine .prune [] trivial ?_
   cases r33
   refine .rS [] [] Tryz.func150 Tryz.results150 ⟨cs36, rfl, rfl, rfl, o37, hl38⟩
  ·cases r41
theorem X9y {x0 : List Int} {pre0 post0 : List Value} {x1 : Int} {x2 : Int} {x3 : Int} {r : (List Int)} (hG : G ∈ Fs) (vva0 : VA a0 bb0 x0.length k0 pre0 cc0) (oo0 : OL ri G cc0 x0) (h : X37 x0 x1 x2 x3 = some r) : RetS Tryz.prog 150 #[.slice a0 x0.length k0, .int .i64 x1, .int .i64 x2, .int .i64 x3] Fs [] [.g (viewG bb0 3 pre0 cc0 post0)] (fun v bo so => ∃ lc0 : List Value, v = .tuple #[] ∧ bo = [] ∧ so = [.g (viewG bb0 3 pre0 lc0 post0)] ∧ OL ri G lc0 r ∧ r.length = x0.length) := by
 unfold X37 at h
 exact X90 big hG vva0 oo0 h
theorem Xbk {x0 : List Int} {pre0 post0 : List Value} {r : (List Int)} (hG : G ∈ Fs) (vva0 : VA a0 bb0 x0.length k0 pre0 cc0) (oo0 : OL ri G cc0 x0) (h : X3w x0 = some r) : RetS Tryz.prog 129 #[.slice a0 x0.length k0] Fs [] [.g (viewG bb0 3 pre0 cc0 post0)] (fun v bo so => ∃ lc0 : List Value, v = .tuple #[] ∧ bo = [] ∧ so = [.g (viewG bb0 3 pre0 lc0 post0)] ∧ OL ri G lc0 r ∧ r.length = x0.length) := by
 unfold X3w at h
 try dsimp only at h
 refine RetS.st [(0, _)] Tryz.func129 Tryz.ntmps129 hG fun w0 S0 hS0 B0 => ?_
 refine .go 10 ?_
 refine .q .ro (.convw Tryz.underlying3 Tryz.underlying212 rfl) rfl ?_
 obtain ⟨u2, hu2, r3⟩ := X0 h
 refine .cV [_] Tryz.call151 (Xe7 mcs  hu2) ?_
 obtain ⟨u6, hu6, r7⟩ := X0 r3
 refine .callS (b1 := []) (b2 := []) (s1 := [_]) [_, _, _, _] [] .ro rfl rfl Tryz.call150 rfl rfl (X9y mcs vva0 oo0 hu6) rfl (fun v9 bo so h8 => ?_)
 obtain ⟨cs10, rfl, rfl, rfl, o11, hl12⟩ := h8
 refine .gn 0 ?_
 have va14 := VA.call vva0 oo0 o11 hl12
 refine .reval 0 hl12 rfl (.reval 3 hl12 rfl (.reval 5 hl12 rfl (.go 1 ?_)))
 cases r7
 refine .rS [] [] Tryz.func129 Tryz.results129 ⟨cs10, rfl, rfl, rfl, o11, hl12⟩
end Go.Proofs.YtfcicopgdahmcaaGreatDoor
end

section
set_option maxHeartbeats 4000000
set_option maxRecDepth 100000
namespace Go.Proofs.YtfcicopgdahmcaaGreatDoor
open Go.RowKit
set_option linter.unusedSimpArgs false
set_option linter.unusedVariables false
set_option synthInstance.maxSize 2000
set_option synthInstance.maxHeartbeats 400000
variable {Fs : List Hp} {G : Hp} {a0 a0_2 a3 a0_0 a1 a2 a4 : Option Addr} {k0 k0_2 k3 p0 k0_0 k1 k2 k4 : Nat} {cc0 : List Value} {bb0 : Option Nat}
theorem Xao {x0 : List Int} {pre0 post0 : List Value} {r : ((Int × Int) × (List Int))} (hG : G ∈ Fs) (vva0 : VA a0 bb0 x0.length k0 pre0 cc0) (oo0 : OL ri G cc0 x0) (h : X2v x0 = some r) : RetS Tryz.prog 130 #[.slice a0 x0.length k0] Fs [] [.g (viewG bb0 3 pre0 cc0 post0)] (fun v bo so => ∃ pq0 : Value, ∃ lc0 : List Value, v = pq0 ∧ bo = [] ∧ so = [.g (viewG bb0 3 pre0 lc0 post0)] ∧ PartV a0 1 pq0 r.1.1.toNat (r.1.2 - r.1.1).toNat ∧ OL ri G lc0 r.2 ∧ r.2.length = x0.length) := by
 unfold X2v at h
 try dsimp only at h
 refine RetS.st [(0, _)] Tryz.func130 Tryz.ntmps130 hG fun w0 S0 hS0 B0 => ?_
 refine .go 11 ?_
 refine .cH h (fun c2 r3 => ?_) (fun c2 r4 => ?_)
 ·refine .go 5 ?_
  cases r3
  refine .rS [.tmp 2] [_] Tryz.func130 Tryz.results130 ⟨_, cc0, rfl, rfl, rfl, (PartV.all vva0.1), oo0, rfl⟩
 ·refine .go 6 ?_
  refine .block ?_
  refine .lp (fun y m => ∃ (Z0 : Nat) (Z1 : _), y = ⟨[(3, .int .i64 Z1)], [], [], []⟩ ∧ Z0 = m ∧ Xp x0 Z0 Z1 = some r) [(0, _)] [] [_] ⟨big, 1, rfl, rfl, r4⟩ (fun y m hI hb10 => ?_)
  obtain ⟨n11, v12, rfl, rfl, r13⟩ := hI
  refine .gn 0 ?_
  obtain ⟨m14, rfl⟩ : ∃ m, n11 = m + 1 := by cases n11 with | zero => exact absurd (show (none : Option _) = some _ from r13) (by simp) | succ m => exact ⟨m, rfl⟩
  have r15 : X26 x0 (Xp x0 m14) v12 = some r := r13; clear r13; unfold X26 at r15; try dsimp only at r15
  refine .go 8 ?_
  refine .cH r15 (fun c16 r17 => ?_) (fun c16 r18 => ?_)
  ·refine .go 2 ?_
   refine .block (.go 1 ?_)
   refine .kG (fun y => ∃ (Z0 : _), y = ⟨[(25, .bool Z0)], G :: Fs, [], []⟩ ∧ (X38 (Xp x0 m14) v12) Z0 = some r) [(3, _), (0, _)] [] [] [_] [0] ?_ ?_
   ·rintro _ ⟨v19, rfl, r20⟩
    refine .gn 0 ?_
    unfold X38 at r20
    try dsimp only at r20
    refine .cB r20 (fun c21 r23 => ?_) (fun c21 r24 => ?_)
    ·cases r23
    ·refine .go 7 ?_
     exact (hb10 _ _ ⟨m14, (w64 (v12 + 1)), rfl, rfl, r24⟩ (Nat.lt_succ_self _)).ar
   ·intro hb25
    refine .drawL (.q 0 (.q 1 (.q 4 (.q 5 (.q 6 (.alt (.e 2 1 (.alt (.e 3 1 (.e 7 1 (.e 8 1 (.q 9 .nil)))) (.e 7 1 (.alt (.e 3 1 (.e 8 1 (.q 9 .nil))) (.e 8 1 (.e 3 1 (.q 9 .nil))))))) (.e 7 1 (.alt (.e 2 1 (.alt (.e 3 1 (.e 8 1 (.q 9 .nil))) (.e 8 1 (.e 3 1 (.q 9 .nil))))) (.e 8 1 (.e 2 1 (.e 3 1 (.q 9 .nil)))))))))))) [] (by kernel_rfl) (by kernel_rfl) (X1 [] rfl) ?_
    obtain ⟨u26, hu26, r27⟩ := X0 r17
    obtain ⟨u28, hu28, r29⟩ := X0 r27
    refine .go 5 ?_
    refine .alt ?_ ?_
    ·obtain ⟨c30, p31, h32⟩ := OL.get oo0 hu26
     obtain rfl := h32
     refine .q .d1 (.idxV 0 rfl vva0 oo0 rfl rfl hu26 sl22 ty3.sz rfl rfl) rfl (.clsL (HpLe.refl _) (X1 [] rfl) ?_)
     refine .alt ?_ ?_
     ·refine .q .d1 (.loadV 0 0 rfl vva0 oo0 rfl rfl hu26 p31 rfl (.inl ⟨rfl, rfl⟩) ty3 rfl) rfl ?_
      refine .clsL (HpLe.refl _) (X1 [] rfl) ?_
      obtain ⟨c33, p34, h35⟩ := OL.get oo0 hu28
      obtain rfl := h35
      refine .q .d1 (.idxV 0 rfl vva0 oo0 rfl rfl hu28 sl22 ty3.sz rfl rfl) rfl (.clsL (HpLe.refl _) (X1 [] rfl) (.q .d1 (.loadV 0 0 rfl vva0 oo0 rfl rfl hu28 p34 rfl (.inl ⟨rfl, rfl⟩) ty3 rfl) rfl (.clsL (HpLe.refl _) (X1 [] rfl) (.go 2 ?_))))
      exact (hb25 _ ⟨((decide (u26 = u28))), rfl, r29⟩).ar
     ·obtain ⟨c36, p37, h38⟩ := OL.get oo0 hu28
      obtain rfl := h38
      refine .q .d1 (.idxV 0 rfl vva0 oo0 rfl rfl hu28 sl22 ty3.sz rfl rfl) rfl (.clsL (HpLe.refl _) (X1 [] rfl) ?_)
      refine .alt ?_ ?_
      ·refine .q .d1 (.loadV 0 0 rfl vva0 oo0 rfl rfl hu26 p31 rfl (.inl ⟨rfl, rfl⟩) ty3 rfl) rfl ?_
       refine .clsL (HpLe.refl _) (X1 [] rfl) (.q .d1 (.loadV 0 0 rfl vva0 oo0 rfl rfl hu28 p37 rfl (.inl ⟨rfl, rfl⟩) ty3 rfl) rfl (.clsL (HpLe.refl _) (X1 [] rfl) (.go 2 ?_)))
       exact (hb25 _ ⟨((decide (u26 = u28))), rfl, r29⟩).ar
      ·refine .q .d1 (.loadV 0 0 rfl vva0 oo0 rfl rfl hu28 p37 rfl (.inl ⟨rfl, rfl⟩) ty3 rfl) rfl ?_
       refine .clsL (HpLe.refl _) (X1 [] rfl) (.q .d1 (.loadV 0 0 rfl vva0 oo0 rfl rfl hu26 p31 rfl (.inl ⟨rfl, rfl⟩) ty3 rfl) rfl (.clsL (HpLe.refl _) (X1 [] rfl) (.go 2 ?_)))
       exact (hb25 _ ⟨((decide (u26 = u28))), rfl, r29⟩).ar
    ·obtain ⟨c39, p40, h41⟩ := OL.get oo0 hu28
     obtain rfl := h41
     refine .q .d1 (.idxV 0 rfl vva0 oo0 rfl rfl hu28 sl22 ty3.sz rfl rfl) rfl (.clsL (HpLe.refl _) (X1 [] rfl) ?_)
     refine .alt ?_ ?_
     ·obtain ⟨c42, p43, h44⟩ := OL.get oo0 hu26
      obtain rfl := h44
      refine .q .d1 (.idxV 0 rfl vva0 oo0 rfl rfl hu26 sl22 ty3.sz rfl rfl) rfl (.clsL (HpLe.refl _) (X1 [] rfl) ?_)
      refine .alt ?_ ?_
      ·refine .q .d1 (.loadV 0 0 rfl vva0 oo0 rfl rfl hu26 p43 rfl (.inl ⟨rfl, rfl⟩) ty3 rfl) rfl ?_
       refine .clsL (HpLe.refl _) (X1 [] rfl) (.q .d1 (.loadV 0 0 rfl vva0 oo0 rfl rfl hu28 p40 rfl (.inl ⟨rfl, rfl⟩) ty3 rfl) rfl (.clsL (HpLe.refl _) (X1 [] rfl) (.go 2 ?_)))
       exact (hb25 _ ⟨((decide (u26 = u28))), rfl, r29⟩).ar
      ·refine .q .d1 (.loadV 0 0 rfl vva0 oo0 rfl rfl hu28 p40 rfl (.inl ⟨rfl, rfl⟩) ty3 rfl) rfl ?_
       refine .clsL (HpLe.refl _) (X1 [] rfl) (.q .d1 (.loadV 0 0 rfl vva0 oo0 rfl rfl hu26 p43 rfl (.inl ⟨rfl, rfl⟩) ty3 rfl) rfl (.clsL (HpLe.refl _) (X1 [] rfl) (.go 2 ?_)))
       exact (hb25 _ ⟨((decide (u26 = u28))), rfl, r29⟩).ar
     ·refine .q .d1 (.loadV 0 0 rfl vva0 oo0 rfl rfl hu28 p40 rfl (.inl ⟨rfl, rfl⟩) ty3 rfl) rfl ?_
      refine .clsL (HpLe.refl _) (X1 [] rfl) ?_
      obtain ⟨c45, p46, h47⟩ := OL.get oo0 hu26
      obtain rfl := h47
      refine .q .d1 (.idxV 0 rfl vva0 oo0 rfl rfl hu26 sl22 ty3.sz rfl rfl) rfl (.clsL (HpLe.refl _) (X1 [] rfl) (.q .d1 (.loadV 0 0 rfl vva0 oo0 rfl rfl hu26 p46 rfl (.inl ⟨rfl, rfl⟩) ty3 rfl) rfl (.clsL (HpLe.refl _) (X1 [] rfl) (.go 2 ?_))))
      exact (hb25 _ ⟨((decide (u26 = u28))), rfl, r29⟩).ar
  ·refine .exit rfl ?_
   refine .go 5 ?_
   cases r18
   refine .rS [.tmp 2] [_] Tryz.func130 Tryz.results130 ⟨_, cc0, rfl, rfl, rfl, (PartV.all vva0.1), oo0, rfl⟩
theorem Xbl {x0_0 : Int} {x0_1 : Int} {x0_2 : List (Bool × (List Int))} {x1 : Int} {r : ((List (List Int)) × (List Int) × Int)} (hG : G ∈ Fs) (hg0 : Rp G (.pointer (some ⟨0, 0, none⟩)) [ifc233 (some 12)]) (s0_2 : SlR (Rep.pair Rep.bool (Rep.sl ri)) G a0_2 k0_2 x0_2) (h : X3x (x0_0, x0_1, x0_2) x1 = some r) : RetW Tryz.prog 85 #[.agg #[.int .i64 x0_0, .int .i64 x0_1, .slice a0_2 x0_2.length k0_2], .int .i64 x1, .func (.func 86) #[] #[]] Fs [] [] (fun v bo so G => ∃ (oa0 : Option Addr) (ok0 : Nat) (oc0 : List Value), ∃ (oa1 : Option Addr) (ok1 : Nat) (oc1 : List Value), v = .tuple #[.slice oa0 r.1.length ok0, .slice oa1 r.2.1.length ok1, .int .i64 r.2.2] ∧ bo = [] ∧ so = [.s (.slice oa0 r.1.length ok0) 22 1 r.1.length oc0, .s (.slice oa1 r.2.1.length ok1) 3 1 r.2.1.length oc1] ∧ OL (Rep.sl ri) G oc0 r.1 ∧ OL ri G oc1 r.2.1) := by
 unfold X3x at h
 try dsimp only at h
 refine RetW.st [(0, _), (1, _), (2, _)] Tryz.func85 Tryz.ntmps85 hG fun w0 S0 hS0 B0 => ?_
 refine .go 2 ?_
 refine .box [_, _, _] .ro rfl rfl rfl (fun b1 hb1 => ?_)
 refine .go 18 ?_
 refine .kB (fun y => ∃ (Z0 : _) (Z1 : List (List Int)) (Z2 : _) (Z3 : Nat) (Z4 : _) (Z5 : List Int) (Z6 : _) (Z7 : Nat) (Z8 Z9 Z10 : _), y = ⟨[(9, .slice Z2 Z1.length Z3), (10, .slice Z6 Z5.length Z7)], Z0 :: Fs, [(b1, .cells #[.int .i64 Z9, .int .i64 Z10, .slice a0_2 x0_2.length k0_2] 162 (0, 0))], [.s (.slice Z2 Z1.length Z3) 22 1 Z1.length Z4, .s (.slice Z6 Z5.length Z7) 3 1 Z5.length Z8]⟩ ∧ HpLe G Z0 ∧ Bd w0 S0 Fs Z0 ∧ OL (Rep.sl ri) Z0 Z4 Z1 ∧ OL ri Z0 Z8 Z5 ∧ Xf Z1 Z5 Z9 Z10 = some r) [] [] [] [] [] ?_ ?_
 ·rintro _ ⟨G11, v12, a13, k14, cs15, v16, a17, k18, cs19, v20, v21, rfl, e23, B24, o25, o26, r27⟩
  refine .gn 0 ?_
  unfold Xf at r27
  try dsimp only at r27
  refine .go 3 ?_
  refine .toV 1 rfl (fun vb28 po29 va30 vb31 => ?_)
  obtain ⟨u32, hu32, r33⟩ := X0 r27
  refine .pullS 1 rfl [_, _] rfl ?_
  refine .callS (b1 := []) (b2 := [_]) (s1 := [_]) [_] [] .ro rfl rfl Tryz.call129 rfl rfl (Xbk mcs va30 o26 hu32) rfl (fun v34 bo so h35 => ?_)
  obtain ⟨cs36, rfl, rfl, rfl, o37, hl38⟩ := h35
  refine .gn 0 ?_
  refine .ofV 0 rfl vb31 hl38 o37 rfl (.reval 10 hl38 rfl (.reval 37 hl38 rfl (.go 5 ?_)))
  refine .toV 0 rfl (fun vb39 po40 va41 vb42 => ?_)
  obtain ⟨u43, hu43, r44⟩ := X0 r33
  refine .callS (b1 := []) (b2 := [_]) (s1 := [_]) [_] [] .ro rfl rfl Tryz.call130 rfl rfl (Xao mcs va41 o37 hu43) rfl (fun v45 bo so h46 => ?_)
  obtain ⟨vv47, cs48, rfl, rfl, rfl, pv49, o50, hl52⟩ := h46
  refine .gn 0 ?_
  refine .ofV 0 rfl vb42 hl52 o50 rfl (.reval 10 hl52 rfl (.reval 37 hl52 rfl (.reval 40 hl52 rfl ?_)))
  refine .openB (sB := [_]) (s2 := [_]) rfl B24 (fun G53 e54 B55 hr56 hc57 => ?_)
  have s58 := SlR.rd o50 rfl e54 (hr56 _ (List.mem_of_getElem? (i := 0) rfl))
  obtain ⟨u59, hu59, r60⟩ := X0 r44
  obtain ⟨a61, k62, h63, s65⟩ := SlR.part s58 pv49 hu59
  refine .revalV 41 h63.symm rfl ?_
  obtain ⟨u66, hu66, r67⟩ := X0 r60
  refine .cS [_] Tryz.call100 (X24 mcs s65 hu66) (fun v68 bo so h69 => ?_)
  obtain ⟨a70, k71, cs72, rfl, rfl, rfl, o73⟩ := h69
  refine .gn 3 ?_
  have o74 := OL.flat (G := G11) (Rep.flat_int _) o73
  refine hc57 _ _ _ _ _ _ (HpLe.refl _) ?_
  refine .go 1 ?_
  cases r67
  refine .drop 1 0 [] _ rfl rfl (.pullS 1 rfl [_, _, _] rfl (.pullS 2 rfl [_, _, _] rfl (.pullS 2 rfl [_, _, _] rfl (.drop 0 1 _ [_, _] rfl rfl ?_))))
  refine .rW 0 [.tmp 6, .tmp 7, .tmp 8] [_, _, _] Tryz.func85 Tryz.results85 ⟨RV.tmp rfl, RV.tmp rfl, RV.tmp rfl, trivial⟩ B24 hS0 (fun G' hg => ⟨a13, k14, cs15, a70, k71, cs72, rfl, rfl, rfl, (OL.mono hg o25), (OL.mono hg o74)⟩)
 ·intro hb75
  refine .block (.own_nil 22 1 (.own_nil 3 1 (.pullS 1 rfl [_, _] rfl ?_)))
  refine .lp (fun y m => ∃ (Z0 : Nat) (Z1 : _) (Z2 : List (List Int)) (Z3 : _) (Z4 : Nat) (Z5 : _) (Z6 : List Int) (Z7 : _) (Z8 : Nat) (Z9 Z10 : _), y = ⟨[(9, .slice Z3 Z2.length Z4), (10, .slice Z7 Z6.length Z8), (15, .int .i64 Z10)], [Z1], [], [.s (.slice Z3 Z2.length Z4) 22 1 Z2.length Z5, .s (.slice Z7 Z6.length Z8) 3 1 Z6.length Z9]⟩ ∧ Z0 = m ∧ HpLe G Z1 ∧ Bd w0 S0 Fs Z1 ∧ OL (Rep.sl ri) Z1 Z5 Z2 ∧ OL ri Z1 Z9 Z6 ∧ X23 Xf x1 x0_0 x0_1 x0_2 Z0 Z2 Z6 Z10 = some r) [(2, _), (3, _), (14, _)] [_] [] ⟨big, G, ([] : List (List Int)), none, 0, [], ([] : List Int), none, 0, [], 0, rfl, rfl, (HpLe.refl _), B0, (OL.nil (Rp' := (Rep.sl ri))), (OL.nil (Rp' := ri)), h⟩ (fun y m hI hb76 => ?_)
  obtain ⟨n77, G78, v79, a80, k81, cs82, v83, a84, k87, cs88, v89, rfl, rfl, e90, B91, o92, o93, r94⟩ := hI
  refine .gn 0 ?_
  obtain ⟨m95, rfl⟩ : ∃ m, n77 = m + 1 := by cases n77 with | zero => exact absurd (show (none : Option _) = some _ from r94) (by simp) | succ m => exact ⟨m, rfl⟩
  have r96 : X4c Xf x1 x0_0 x0_1 x0_2 (X23 Xf x1 x0_0 x0_1 x0_2 m95) v79 v83 v89 = some r := r94; clear r94; unfold X4c at r96; try dsimp only at r96
  refine .go 5 ?_
  refine .cH r96 (fun c97 r98 => ?_) (fun c97 r99 => ?_)
  ·refine .go 2 ?_
   refine .block (.go 8 ?_)
   refine .q .ro (.load_own_a 0 [_, _, _] rfl rfl ty162 rfl) rfl (.go 1 ?_)
   obtain ⟨u101, hu101, r102⟩ := X0 r98
   refine .cW [_, _] Tryz.call86 (Xan mcs (Rp.mono e90 hg0) (SlR.mono e90 s0_2) hu101) B91 (fun v103 bo so G104 e105 B106 h107 => ?_)
   obtain ⟨a108, k109, a110, k111, rfl, rfl, rfl, s112, s113⟩ := h107
   refine .gn 3 ?_
   refine .alloc .ro ty215 rfl (fun b114 hb114 => ?_)
   refine .store 0 [_, _] [_, _] .ro rfl rfl rfl ty215 rfl rfl rfl rfl (.go 8 ?_)
   refine .cH r102 (fun c115 r116 => ?_) (fun c115 r117 => ?_)
   ·cases r116
   ·refine .go 1 ?_
    refine .drawL (.q 0 (.q 1 (.q 2 (.q 5 (.q 6 (.q 7 (.e 3 1 (.e 4 1 (.e 8 1 (.q 9 (.q 10 .nil))))))))))) [_, _] (by kernel_rfl) (by kernel_rfl) (X1 [0, 1] rfl) (.go 6 ?_)
    refine .lit [_] [(0, _)] .d1 sl51 ty22 rfl rfl rfl rfl rfl rfl (fun b118 hb118 => ?_)
    have o119 : OL (Rep.sl ri) G104 [.slice a108 u101.1.1.length k109] ([u101.1.1] : List (List Int)) := ((OL.cons rfl (Rep.slI s112) (OL.nil (Rp' := (Rep.sl ri)))) :)
    refine .reval 30 (n' := ([u101.1.1] : List (List Int)).length) rfl rfl (.clsL (HpLe.refl _) (X1 [0, 1] rfl) ?_)
    obtain ⟨u120, hu120, r121⟩ := X0 r117
    refine .appO (Q := (Rep.sl ri)) 0 .d1 sl51 ty22 rfl rfl rfl rfl rfl rfl (OL.mono e105 o92) o119 rfl rfl rfl B106 hu120 rfl (fun a122 k123 cs124 o125 => ?_)
    refine .clsL (HpLe.refl _) (X1 [0, 1] rfl) ?_
    obtain ⟨u126, hu126, r127⟩ := X0 r121
    refine .appR (Q := ri) 1 .d1 sl22 ty3 rfl rfl rfl rfl rfl (OL.mono e105 o93) rfl rfl s113 rfl mcs hu126 rfl (fun a128 k131 cs132 o133 => ?_)
    refine .clsL (HpLe.refl _) (X1 [0, 1] rfl) (.go 8 ?_)
    refine .drop 1 0 [_] _ rfl rfl ?_
    exact (hb76 _ _ ⟨m95, G104, u120, a122, k123, cs124, u126, a128, k131, cs132, (w64 (v89 + 1)), rfl, rfl, (HpLe.trans e90 e105), B106, o125, o133, r127⟩ (Nat.lt_succ_self _)).ar
  ·refine .exit rfl ?_
   exact (hb75 _ ⟨G78, v79, a80, k81, cs82, v83, a84, k87, cs88, x0_0, x0_1, rfl, e90, B91, o92, o93, r99⟩).ar
theorem Xbm {x0 : List Int} {x1 : Int} {r : Int} (hG : G ∈ Fs) (s0 : SlR ri G a0 k0 x0) (h : X3y x0 x1 = some r) : RetS Tryz.prog 114 #[.slice a0 x0.length k0, .int .i64 x1] Fs [] [] (rv (.int .i64 r)) := by
 unfold X3y at h
 try dsimp only at h
 refine RetS.st [(0, _), (1, _)] Tryz.func114 Tryz.ntmps114 hG fun w0 S0 hS0 B0 => ?_
 refine .go 12 ?_
 refine .cH h (fun c1 r2 => ?_) (fun c1 r8 => ?_)
 ·refine .go 4 ?_
  obtain ⟨u3, hu3, r4⟩ := X0 r2
  obtain ⟨c5, p6, h7⟩ := SlR.get s0 hu3
  obtain rfl := h7
  refine .q .ro (.idxR s0 rfl rfl hu3 sl22 ty3.sz) rfl (.q .ro (.load_rp p6 mcs rfl ty3 rfl) rfl (.go 2 ?_))
  cases r4
  refine .rS [.tmp 4] [_] Tryz.func114 Tryz.results114 ⟨rfl, rfl, rfl⟩
 ·refine .go 5 ?_
  cases r8
  refine .rS [.tmp 4] [_] Tryz.func114 Tryz.results114 ⟨rfl, rfl, rfl⟩
theorem Xc1 {x0_0 : Int} {x1_0 : Int} {x1_1 : Int} {x2 : Int} {x3 : List (Bool × (List Int))} {r : (((List Int) × (List Int)) × Int)} (hG : G ∈ Fs) (hg0 : Rp G (.pointer (some ⟨0, 0, none⟩)) [ifc233 (some 12)]) (s3 : SlR (Rep.pair Rep.bool (Rep.sl ri)) G a3 k3 x3) (h : X76 x0_0 (x1_0, x1_1) x2 x3 = some r) : RetW Tryz.prog 50 #[.agg #[.int .i64 x0_0], .agg #[.int .i64 x1_0, .int .i64 x1_1], .int .i64 x2, .slice a3 x3.length k3] Fs [] [] (fun v bo so G => ∃ a0 : Option Addr, ∃ k0 : Nat, ∃ a1 : Option Addr, ∃ k1 : Nat, v = .tuple #[.agg #[.slice a0 r.1.1.length k0, .slice a1 r.1.2.length k1], .int .i64 r.2] ∧ bo = [] ∧ so = [] ∧ SlR ri G a0 k0 r.1.1 ∧ SlR ri G a1 k1 r.1.2) := by
 unfold X76 at h
 try dsimp only at h
 refine RetW.st [(0, _), (1, _), (2, _), (3, _)] Tryz.func50 Tryz.ntmps50 hG fun w0 S0 hS0 B0 => ?_
 refine .go 2 ?_
 refine .box [_] .ro rfl rfl rfl (fun b1 hb1 => ?_)
 refine .box [_, _] .ro rfl rfl rfl (fun b2 hb2 => ?_)
 refine .alloc .ro ty65 rfl (fun b3 hb3 => ?_)
 refine .go 5 ?_
 refine .q .ro (.load_own_a 2 [_] rfl rfl ty45 rfl) rfl (.q .ro (.load_own_a 1 [_, _] rfl rfl ty69 rfl) rfl ?_)
 obtain ⟨u4, hu4, r5⟩ := X0 h
 refine .cV [_, _] Tryz.call113 (Xcd mcs  hu4) ?_
 refine .go 7 ?_
 refine .cH r5 (fun c8 r9 => ?_) (fun c8 r10 => ?_)
 ·cases r9
 ·refine .go 4 ?_
  refine .q .ro (.load_own_a 2 [_] rfl rfl ty45 rfl) rfl (.go 7 ?_)
  obtain ⟨u11, hu11, r12⟩ := X0 r10
  refine .cV [_, _, _, _, _] Tryz.call84 (Xdz mcs s3 hu11) ?_
  refine .go 7 ?_
  refine .cH r12 (fun c15 r16 => ?_) (fun c15 r17 => ?_)
  ·cases r16
  ·refine .go 3 ?_
   refine .q .ro (.load_own_a 2 [_] rfl rfl ty45 rfl) rfl (.go 4 ?_)
   refine .q .ro (.build [_, _, _] [(0, _), (1, _), (2, _)] ty162 pl162 rfl rfl) rfl ?_
   refine .alloc .ro ty162 rfl (fun b18 hb18 => ?_)
   refine .store 0 [_, _, _] [_, _, _, _] .ro rfl rfl rfl ty162 rfl rfl rfl rfl (.go 3 ?_)
   refine .q .ro (.load_own_a 0 [_, _, _] rfl rfl ty162 rfl) rfl (.go 1 ?_)
   obtain ⟨u19, hu19, r20⟩ := X0 r17
   refine .cW [_, _, _] Tryz.call85 (Xbl mcs hg0 s3 hu19) B0 (fun v22 bo so G23 e24 B25 h21 => ?_)
   obtain ⟨a28, k29, cs30, a33, k34, cs35, rfl, rfl, rfl, o31, o36⟩ := h21
   refine .gn 14 ?_
   refine .cH r20 (fun c37 r38 => ?_) (fun c37 r39 => ?_)
   ·cases r38
   ·refine .go 4 ?_
    refine .q .ro (.build [_, _] [(1, _)] ty65 pl65 rfl rfl) rfl ?_
    refine .alloc .ro ty65 rfl (fun b40 hb40 => ?_)
    refine .store 0 [_, _] [_, _, _, _, _] .ro rfl rfl rfl ty65 rfl rfl rfl rfl (.go 8 ?_)
    refine .kB (fun y => ∃ (Z0 : List Int) (Z1 : _) (Z2 : Nat) (Z3 Z4 Z5 Z6 Z7 Z8 : _), y = ⟨[], G23 :: Fs, [(b40, .cells #[.slice Z1 Z0.length Z2, .slice a33 u19.2.1.length k34] 65 (0, 0)), (b18, .cells #[.int .i64 Z4, .int .i64 Z5, .slice a3 x3.length k3] 162 (0, 0)), (b2, .cells #[.int .i64 Z6, .int .i64 Z7] 69 (0, 0)), (b1, .cells #[.int .i64 Z8] 45 (0, 0))], [.s (.slice Z1 Z0.length Z2) 3 1 Z0.length Z3]⟩ ∧ OL ri G23 Z3 Z0 ∧ (X3z u19.2.1) Z0 Z4 Z5 Z6 Z7 Z8 = some r) [(8, _), (16, _)] [_] [2] [_, _] [0, 1] ?_ ?_
    ·rintro _ ⟨v13, a14, k26, cs27, v32, v41, v42, v43, v44, rfl, o46, r47⟩
     refine .gn 0 ?_
     unfold X3z at r47
     try dsimp only at r47
     refine .go 2 ?_
     refine .q .ro (.load_own_a 0 [_, _] rfl rfl ty65 rfl) rfl (.store 4 [_, _] [_, _, _, _, _] .ro rfl rfl rfl ty65 rfl rfl rfl rfl (.go 2 ?_))
     refine .freezeR 0 rfl rfl o46 [_, _] rfl B25 (fun G48 e49 B52 s53 => ?_)
     refine .freezeR 1 rfl rfl (OL.mono e49 o36) [_] rfl B52 (fun G54 e55 B56 s57 => ?_)
     cases r47
     refine .drop 0 1 _ [] rfl rfl ?_
     refine .rW 5 [.cell 8 65, .tmp 9] [_, _] Tryz.func50 Tryz.results50 ⟨RV.cell_a 4 [_, _] rfl rfl ty65 rfl, RV.tmp rfl, trivial⟩ B56 hS0 (fun G' hg => ⟨a14, k26, a33, k34, rfl, rfl, rfl, (SlR.mono hg (SlR.mono e55 s53)), (SlR.mono hg s57)⟩)
    ·intro hb58
     refine .block (.own_nil 3 1 ?_)
     refine .lp (fun y m => ∃ (Z0 : Nat) (Z1 : List (List Int)) (Z2 : List Int) (Z3 : _) (Z4 : Nat) (Z5 : _), y = ⟨[(60, .int .i64 (Z0 : Int))], [], [(b40, .cells #[.slice Z3 Z2.length Z4, .slice a33 u19.2.1.length k34] 65 (0, 0))], [.s (.slice Z3 Z2.length Z4) 3 1 Z2.length Z5]⟩ ∧ Z1.length = m ∧ OL ri G23 Z5 Z2 ∧ List.drop Z0 u19.1 = Z1 ∧ X3c (X3z u19.2.1) x0_0 (w64 (x1_1 + 1)) x1_0 x1_1 Z1 Z2 = some r) [(8, _), (16, _), (58, _), (59, _)] [_, _, _, _] [_, _] ⟨0, u19.1, ([] : List Int), none, 0, [], rfl, rfl, (OL.nil (Rp' := ri)), rfl, r39⟩ (fun y m hI hb59 => ?_)
     obtain ⟨i60, w61, v62, a63, k66, cs67, rfl, rfl, o68, g70, r71⟩ := hI
     refine .gn 0 ?_
     cases w61 with
     | nil =>
      rw [X3c] at r71; try dsimp only at r71
      refine .go 5 ?_
      refine .cond_dec rfl (fun c => absurd c (Xl g70)) (fun _ => ?_)
      refine .exit rfl (.pull 2 rfl [_, _, _, _, _] rfl (.pull 4 rfl [_, _, _, _, _] rfl (.pull 4 rfl [_, _, _, _, _] rfl (.pull 4 rfl [_, _, _, _, _] rfl (.pull 4 rfl [_, _, _, _, _] rfl ?_)))))
      exact (hb58 _ ⟨v62, a63, k66, cs67, x0_0, (w64 (x1_1 + 1)), x1_0, x1_1, x0_0, rfl, o68, r71⟩).ar
     | cons x72 xs73 =>
      have r74 : X7s (X3z u19.2.1) x0_0 (w64 (x1_1 + 1)) x1_0 x1_1 (X3c (X3z u19.2.1) x0_0 (w64 (x1_1 + 1)) x1_0 x1_1 xs73) x72 v62 = some r := r71; clear r71; unfold X7s at r74; try dsimp only at r74
      refine .go 5 ?_
      refine .cond_dec rfl (fun _ => ?_) (fun c => absurd (X15 g70) c)
      refine .go 2 ?_
      refine .block (.go 2 ?_)
      obtain ⟨c75, p76, h77⟩ := OL.get o31 (X3 g70)
      obtain ⟨a78, k79, rfl, s80⟩ := h77
      refine .q .ro (.idxO 1 rfl rfl rfl (X3 g70) sl51 ty22.sz) rfl (.q .ro (.loadO 1 0 rfl (X3 g70) p76 rfl (.inl ⟨rfl, rfl⟩) ty22 rfl) rfl (.go 2 ?_))
      refine .drawL (.q 0 (.q 1 (.q 2 (.e 3 1 (.e 4 1 (.e 5 1 (.q 6 (.e 7 2 .nil)))))))) [_, _, _, _, _] (by kernel_rfl) (by kernel_rfl) (X1 [0, 1, 2, 3, 4] rfl) (.go 3 ?_)
      obtain ⟨u81, hu81, r82⟩ := X0 r74
      refine .cVd [_, _] Tryz.call114 (Xbm mcs s80 hu81) ?_
      refine .clsL (HpLe.refl _) (X1 [0, 1, 2, 3, 4] rfl) ?_
      refine .lit [_] [(0, _)] .d1 sl22 ty3 rfl rfl rfl rfl rfl rfl (fun b83 hb83 => ?_)
      have o86 : OL ri G23 [.int .i64 u81] ([u81] : List Int) := ((OL.cons rfl (Rep.intI .i64 u81) (OL.nil (Rp' := ri))) :)
      refine .reval 68 (n' := ([u81] : List Int).length) rfl rfl (.clsL (HpLe.refl _) (X1 [0, 1, 2, 3, 4] rfl) ?_)
      obtain ⟨u87, hu87, r88⟩ := X0 r82
      refine .appO (Q := ri) 0 .d1 sl22 ty3 rfl rfl rfl rfl rfl rfl o68 o86 rfl rfl rfl B25 hu87 rfl (fun a89 k90 cs91 o92 => ?_)
      refine .clsL (HpLe.refl _) (X1 [0, 1, 2, 3, 4] rfl) (.go 1 ?_)
      refine .store 0 [_, _] [_, _, _, _, _] .d2 rfl rfl rfl ty22 rfl rfl rfl rfl (.go 6 ?_)
      exact (hb59 _ _ ⟨(i60 + 1), xs73, u87, a89, k90, cs91, rfl, rfl, o92, (X4 g70), r88⟩ (Nat.lt_succ_self _)).ax ⟨(congrArg (fun z => some (Value.int .i64 z)) (X5 (OL.len' o31) g70)), rfl, rfl, rfl, rfl, trivial⟩
theorem Xhl  {r : Bool} (hG : G ∈ Fs) (hg0 : Rp G (.pointer (some ⟨0, 0, none⟩)) [ifc233 (some 12)]) (h : Xc9 = some r) : RetS Tryz.prog 7 #[] Fs [] [] (rv (.bool r)) := by
 unfold Xc9 at h
 try dsimp only at h
 refine RetS.st [] Tryz.func7 Tryz.ntmps7 hG fun w0 S0 hS0 B0 => ?_
 refine .go 6 ?_
 refine .q .ro (.build [_] [(0, _)] ty45 pl45 rfl rfl) rfl ?_
 refine .alloc .ro ty45 rfl (fun b1 hb1 => ?_)
 refine .store 0 [_] [_] .ro rfl rfl rfl ty45 rfl rfl rfl rfl (.go 3 ?_)
 refine .q .ro (.build [_, _] [(0, _), (1, _)] ty69 pl69 rfl rfl) rfl ?_
 refine .alloc .ro ty69 rfl (fun b2 hb2 => ?_)
 refine .store 0 [_, _] [_, _] .ro rfl rfl rfl ty69 rfl rfl rfl rfl (.go 3 ?_)
 refine .lit [_, _] [(0, _), (1, _)] .ro sl22 ty3 rfl rfl rfl rfl rfl rfl (fun b3 hb3 => ?_)
 have o4 : OL ri G [.int .i64 1, .int .i64 2] ([1, 2] : List Int) := ((OL.cons rfl (Rep.intI .i64 1) (OL.cons rfl (Rep.intI .i64 2) (OL.nil (Rp' := ri)))) :)
 refine .reval 15 (n' := ([1, 2] : List Int).length) rfl rfl ?_
 refine .lit [_, _] [(0, _), (1, _)] .ro sl22 ty3 rfl rfl rfl rfl rfl rfl (fun b6 hb6 => ?_)
 have o7 : OL ri G [.int .i64 3, .int .i64 4] ([3, 4] : List Int) := ((OL.cons rfl (Rep.intI .i64 3) (OL.cons rfl (Rep.intI .i64 4) (OL.nil (Rp' := ri)))) :)
 refine .reval 16 (n' := ([3, 4] : List Int).length) rfl rfl ?_
 refine .freezeR 1 rfl rfl o4 [_] rfl B0 (fun G9 e10 B11 s12 => ?_)
 refine .freezeR 0 rfl rfl (OL.mono e10 o7) [] rfl B11 (fun G14 e15 B16 s17 => ?_)
 refine .lit [_, _] [(0, _), (1, _)] .ro sl51 ty22 rfl rfl rfl rfl rfl rfl (fun b19 hb19 => ?_)
 have o20 : OL (Rep.sl ri) G14 [.slice (some ⟨b3, 0, none⟩) ([1, 2] : List Int).length 2, .slice (some ⟨b6, 0, none⟩) ([3, 4] : List Int).length 2] ([([1, 2] : List Int), ([3, 4] : List Int)] : List (List Int)) := ((OL.cons rfl (Rep.slI (SlR.mono e15 s12)) (OL.cons rfl (Rep.slI s17) (OL.nil (Rp' := (Rep.sl ri))))) :)
 refine .reval 17 (n' := ([([1, 2] : List Int), ([3, 4] : List Int)] : List (List Int)).length) rfl rfl (.go 4 ?_)
 refine .q .ro (.load_own_a 1 [_] rfl rfl ty45 rfl) rfl (.q .ro (.load_own_a 0 [_, _] rfl rfl ty69 rfl) rfl ?_)
 refine .lit [_, _] [(0, _), (1, _)] .ro sl22 ty3 rfl rfl rfl rfl rfl rfl (fun b22 hb22 => ?_)
 have o23 : OL ri G14 [.int .i64 4, .int .i64 2] ([4, 2] : List Int) := ((OL.cons rfl (Rep.intI .i64 4) (OL.cons rfl (Rep.intI .i64 2) (OL.nil (Rp' := ri)))) :)
 refine .reval 21 (n' := ([4, 2] : List Int).length) rfl rfl (.q .ro (.build [_, _] [(0, _)] ty56 pl56 rfl rfl) rfl ?_)
 refine .freezeR 0 rfl rfl o23 [_] rfl B16 (fun G25 e26 B27 s28 => ?_)
 obtain ⟨u30, hu30, r31⟩ := X0 h
 refine .cW [_, _, _, _, _] Tryz.call49 (X86 mcs s28 hu30) B27 (fun v33 bo so G34 e35 B36 h32 => ?_)
 obtain ⟨a38, k39, a41, k42, rfl, rfl, rfl, s40, s43⟩ := h32
 refine .gn 4 ?_
 refine .alloc .ro ty56 rfl (fun b44 hb44 => ?_)
 refine .go 1 ?_
 refine .store 0 [_, _] [_, _, _] .ro rfl rfl rfl ty56 rfl rfl rfl rfl (.go 8 ?_)
 refine .kR (fun y => y = ⟨[(33, .bool (decide ((u30.2.2 ≠ 0) ∨ ((u30.1.length : Int) ≠ 3))))], G34 :: Fs, [], []⟩) [(1, _), (2, _), (3, _), (4, _)] [_, _, _] [0, 1, 2] [_] [0] 4 ?_ ?_
 ·rintro _ rfl
  refine .gn 1 ?_
  refine .cH r31 (fun c49 r50 => ?_) (fun c49 r51 => ?_)
  ·refine .go 4 ?_
   cases r50
   refine .drop 3 0 [] _ rfl rfl (.drop 0 1 _ [] rfl rfl ?_)
   refine .rS [.tmp 0] [_] Tryz.func7 Tryz.results7 ⟨rfl, rfl, rfl⟩
  ·refine .go 2 ?_
   refine .freezeR 0 rfl rfl (OL.mono (HpLe.trans e26 e35) o20) [] rfl B36 (fun G57 e58 B59 s60 => ?_)
   refine .drawL (.q 0 (.q 1 (.q 2 (.q 3 (.q 4 (.e 5 1 (.q 6 (.q 7 (.q 8 (.q 9 (.q 10 .nil))))))))))) [_, _, _] (by kernel_rfl) (by kernel_rfl) (X1 [0, 1, 2] rfl) (.dq (.load_own_a 2 [_] rfl rfl ty45 rfl) rfl (.go 2 ?_))
   obtain ⟨u62, hu62, r63⟩ := X0 r51
   obtain ⟨c64, p65, h66⟩ := SlR.get (SlR.mono e58 s40) hu62
   obtain ⟨a67, k68, rfl, s69⟩ := h66
   refine .dq (.idxR (SlR.mono e58 s40) rfl rfl hu62 sl51 ty22.sz) rfl (.dq (.load_rp p65 mcs rfl ty22 rfl) rfl ?_)
   obtain ⟨u70, hu70, r71⟩ := X0 r63
   refine .cSd [_, _, _, _] Tryz.call23 (X9x mcs s60 s69 hu70) (fun v73 bo so h72 => ?_)
   obtain ⟨a75, k76, cs77, rfl, rfl, rfl, o78⟩ := h72
   refine .gn 0 ?_
   refine .clsL (HpLe.refl _) (X1 [0, 1, 2] rfl) (.go 7 ?_)
   refine .drawL (.q 0 (.q 1 (.q 2 (.q 3 (.q 4 (.e 5 1 (.q 6 (.q 7 (.q 8 (.q 9 (.q 10 .nil))))))))))) [_, _, _] (by kernel_rfl) (by kernel_rfl) (X1 [0, 1, 2] rfl) (.dq (.load_own_a 2 [_] rfl rfl ty45 rfl) rfl (.go 2 ?_))
   obtain ⟨u79, hu79, r80⟩ := X0 r71
   obtain ⟨c81, p82, h83⟩ := SlR.get (SlR.mono e58 s40) hu79
   obtain ⟨a84, k85, rfl, s86⟩ := h83
   refine .dq (.idxR (SlR.mono e58 s40) rfl rfl hu79 sl51 ty22.sz) rfl (.dq (.load_rp p82 mcs rfl ty22 rfl) rfl ?_)
   obtain ⟨u87, hu87, r88⟩ := X0 r80
   refine .cSd [_, _, _, _] Tryz.call23 (X9x mcs s60 s86 hu87) (fun v90 bo so h89 => ?_)
   obtain ⟨a92, k93, cs94, rfl, rfl, rfl, o95⟩ := h89
   refine .gn 0 ?_
   refine .clsL (HpLe.refl _) (X1 [0, 1, 2] rfl) (.go 8 ?_)
   refine .q .ro (.load_own_a 2 [_] rfl rfl ty45 rfl) rfl (.q .ro (.load_own_a 1 [_, _] rfl rfl ty69 rfl) rfl (.go 1 ?_))
   refine .q .ro (.build [_, _] [(0, _), (1, _)] ty63 pl63 rfl rfl) rfl (.q .ro (.build [_, _] [] ty63 pl63 rfl rfl) rfl (.go 1 ?_))
   refine .q .ro (.build [_, _] [(0, _), (1, _)] ty63 pl63 rfl rfl) rfl ?_
   refine .freezeR 1 rfl rfl o78 [_] rfl B59 (fun G96 e97 B98 s99 => ?_)
   refine .freezeR 0 rfl rfl (OL.mono e97 o95) [] rfl B98 (fun G13 e18 B21 s24 => ?_)
   refine .lit [_, _, _, _, _, _] [(0, _), (1, _), (2, _)] .ro sl60 ty63 rfl rfl rfl rfl rfl rfl (fun b29 hb29 => ?_)
   have o37 : OL (Rep.pair Rep.bool (Rep.sl ri)) G13 [.bool true, .slice a75 u70.1.length k76, .bool false, .slice none 0 0, .bool true, .slice a92 u87.1.length k93] ([(true, u70.1), (false, ([] : List Int)), (true, u87.1)] : List (Bool × (List Int))) := ((OL.cons rfl (Rep.pairI (Rep.boolI true) (Rep.slI (SlR.mono e18 s99))) (OL.cons rfl (Rep.pairI (Rep.boolI false) (Rep.slI (SlR.nil (Rp' := ri)))) (OL.cons rfl (Rep.pairI (Rep.boolI true) (Rep.slI s24)) (OL.nil (Rp' := (Rep.pair Rep.bool (Rep.sl ri))))))) :)
   refine .reval 60 (n' := ([(true, u70.1), (false, ([] : List Int)), (true, u87.1)] : List (Bool × (List Int))).length) rfl rfl ?_
   refine .freezeR 0 rfl rfl o37 [] rfl B21 (fun G47 e48 B52 s53 => ?_)
   obtain ⟨u54, hu54, r55⟩ := X0 r88
   refine .cW [_, _, _, _] Tryz.call50 (Xc1 mcs (Rp.mono (HpLe.trans (HpLe.trans (HpLe.trans (HpLe.trans (HpLe.trans (HpLe.trans (HpLe.trans e10 e15) e26) e35) e58) e97) e18) e48) hg0) s53 hu54) B52 (fun v61 bo so G74 e91 B100 h101 => ?_)
   obtain ⟨a102, k103, a104, k105, rfl, rfl, rfl, s106, s107⟩ := h101
   refine .gn 3 ?_
   refine .alloc .ro ty65 rfl (fun b108 hb108 => ?_)
   refine .store 0 [_, _] [_, _, _, _] .ro rfl rfl rfl ty65 rfl rfl rfl rfl (.go 7 ?_)
   refine .kR (fun y => y = ⟨[(69, .bool (decide ((u70.2 = 0) ∧ (u87.2 = 0))))], G74 :: Fs, [], []⟩) [(11, _), (12, _)] [_, _, _, _] [0, 1, 2, 3] [] [] 3 ?_ ?_
   ·rintro _ rfl
    refine .gn 1 ?_
    refine .kR (fun y => y = ⟨[(73, .bool (decide (((u70.2 = 0) ∧ (u87.2 = 0)) ∧ (u54.2 = 0))))], G74 :: Fs, [], []⟩) [(11, _)] [_, _, _, _] [0, 1, 2, 3] [] [] 3 ?_ ?_
    ·rintro _ rfl
     refine .gn 1 ?_
     obtain ⟨u109, h110, r111⟩ := X0 r55
     refine .cutR 5 (β := Hp) (fun y => [(79, .bool u109)]) [] (fun y => y :: Fs) (fun y => []) [_, _, _, _] (fun y => []) [] (fun y => HpLe G74 y ∧ Bd w0 S0 Fs y) trivial [0, 1, 2, 3] rfl [] rfl ?_ ?_
     ·rintro G112 ⟨e113, B114⟩
      refine .gn 2 ?_
      cases r111
      refine .drop 4 0 [] _ rfl rfl ?_
      refine .rS [.tmp 0] [_] Tryz.func7 Tryz.results7 ⟨rfl, rfl, rfl⟩
     ·intro hb115
      refine .split 74 rfl (fun c116 => ?_) (fun c116 => ?_)
      ·have r117 := ifT h110 c116
       refine .go 5 ?_
       refine .lit [_, _] [(0, _), (1, _)] .ro sl22 ty3 rfl rfl rfl rfl rfl rfl (fun b118 hb118 => ?_)
       have o119 : OL ri G74 [.int .i64 3, .int .i64 4] ([3, 4] : List Int) := ((OL.cons rfl (Rep.intI .i64 3) (OL.cons rfl (Rep.intI .i64 4) (OL.nil (Rp' := ri)))) :)
       refine .reval 77 (n' := ([3, 4] : List Int).length) rfl rfl (.go 1 ?_)
       refine .freezeR 0 rfl rfl o119 [] rfl B100 (fun G120 e121 B122 s123 => ?_)
       obtain ⟨u124, hu124, r125⟩ := X0 r117
       refine .cV [_, _] Tryz.call31 (Xd3 mcs (SlR.mono e121 s106) s123 hu124) ?_
       refine .go 1 ?_
       exact .arr (hb115 G120 ⟨e121, B122⟩) ⟨sval r125, trivial⟩
      ·have r126 := ifF h110 c116
       refine .go 5 ?_
       exact .arr (hb115 G74 ⟨(HpLe.refl _), B100⟩) ⟨sval r126, trivial⟩
    ·intro hb127
     refine .split 70 rfl (fun c128 => ?_) (fun c128 => ?_)
     ·refine .go 5 ?_
      exact (hb127 _ rfl).ax ⟨X93 c128, rfl, trivial⟩
     ·refine .go 3 ?_
      exact (hb127 _ rfl).ax ⟨X94 c128, rfl, trivial⟩
   ·intro hb129
    refine .split 66 rfl (fun c130 => ?_) (fun c130 => ?_)
    ·refine .go 5 ?_
     exact (hb129 _ rfl).ax ⟨X93 c130, rfl, rfl, trivial⟩
    ·refine .go 3 ?_
     exact (hb129 _ rfl).ax ⟨X94 c130, rfl, rfl, trivial⟩
 ·intro hb46
  refine .split 29 rfl (fun c45 => ?_) (fun c45 => ?_)
  ·refine .go 4 ?_
   exact (hb46 _ rfl).ax ⟨X4y c45, rfl, rfl, rfl, rfl, trivial⟩
  ·refine .go 7 ?_
   exact (hb46 _ rfl).ax ⟨X4z c45, rfl, rfl, rfl, rfl, trivial⟩
theorem Xj9 {x0 : List Int} {r : Bool} (hG : G ∈ Fs) (s0 : SlR ri G a0 k0 x0) (h : Xdg x0 = some r) : RetS Tryz.prog 8 #[.slice a0 x0.length k0] Fs [] [] (rv (.bool r)) := by
 unfold Xdg at h
 try dsimp only at h
 refine RetS.st [(0, _)] Tryz.func8 Tryz.ntmps8 hG fun w0 S0 hS0 B0 => ?_
 refine .go 11 ?_
 cases h
 refine .rS [.tmp 2] [_] Tryz.func8 Tryz.results8 ⟨rfl, rfl, rfl⟩
theorem Xja {x0 : List Int} {r : ((List Int) × Int)} (hG : G ∈ Fs) (s0 : SlR ri G a0 k0 x0) (h : Xdh x0 = some r) : RetS Tryz.prog 9 #[.slice a0 x0.length k0] Fs [] [] (fun v bo so => ∃ a0 : Option Addr, ∃ k0 : Nat, ∃ b0 : Nat, v = .pointer (some ⟨b0, 0, none⟩) ∧ bo = [(b0, .cells #[.slice a0 r.1.length k0, .int .i64 r.2] 121 (0, 0))] ∧ so = [] ∧ SlR ri G a0 k0 r.1) := by
 unfold Xdh at h
 try dsimp only at h
 refine RetS.st [(0, _)] Tryz.func9 Tryz.ntmps9 hG fun w0 S0 hS0 B0 => ?_
 refine .go 7 ?_
 refine .q .ro (.build [_, _] [(0, _)] ty121 pl121 rfl rfl) rfl ?_
 refine .box [_, _] .ro rfl rfl rfl (fun b1 hb1 => ?_)
 refine .go 2 ?_
 cases h
 refine .rS [.tmp 2] [_] Tryz.func9 Tryz.results9 ⟨a0, k0, _, rfl, rfl, rfl, s0⟩
theorem Xjb {x0 : Int} {x1 : Int} {r : Int} (hG : G ∈ Fs)  (h : Xaw x0 x1 = some r) : RetS Tryz.prog 62 #[.int .i64 x0, .int .i64 x1] Fs [] [] (rv (.int .i64 r)) := by
 unfold Xaw at h
 try dsimp only at h
 refine RetS.st [(0, _), (1, _)] Tryz.func62 Tryz.ntmps62 hG fun w0 S0 hS0 B0 => ?_
 refine .go 8 ?_
 obtain ⟨u1, hu1, r2⟩ := X0 h
 refine .q .ro (.remt rfl rfl (X6z hu1)) rfl (.go 3 ?_)
 obtain ⟨u3, hu3, r4⟩ := X0 r2
 refine .q .ro (.remt rfl rfl (X6z hu3)) rfl (.go 2 ?_)
 cases r4
 refine .rS [.tmp 4] [_] Tryz.func62 Tryz.results62 ⟨rfl, rfl, rfl⟩
theorem X10 {x0_0 : List Int} {x0_1 : Int} {x1 : Int} {r : (Int × ((List Int) × Int))} (hG : G ∈ Fs) (s0_0 : SlR ri G a0_0 k0_0 x0_0) (h : Xd (x0_0, x0_1) x1 = some r) : RetS Tryz.prog 18 #[.pointer (some ⟨p0, 0, none⟩), .int .i64 x1] Fs [(p0, .cells #[.slice a0_0 x0_0.length k0_0, .int .i64 x0_1] 121 (0, 0))] [] (fun v bo so => ∃ a0 : Option Addr, ∃ k0 : Nat, v = .int .i64 r.1 ∧ bo = [(p0, .cells #[.slice a0 r.2.1.length k0, .int .i64 r.2.2] 121 (0, 0))] ∧ so = [] ∧ SlR ri G a0 k0 r.2.1) := by
 unfold Xd at h
 try dsimp only at h
 refine RetS.st [(0, _), (1, _)] Tryz.func18 Tryz.ntmps18 hG fun w0 S0 hS0 B0 => ?_
 refine .go 6 ?_
 refine .drawL (.q 0 (.q 1 (.q 2 (.q 3 (.q 4 (.q 5 (.q 6 (.q 7 (.q 8 (.q 9 (.q 10 (.q 11 (.q 12 (.q 13 .nil)))))))))))))) [_] (by kernel_rfl) (by kernel_rfl) (X1 [0] rfl) (.go 3 ?_)
 refine .kD (fun y => y = ⟨[(19, .bool (decide ((x1 < 1) ∨ ((x0_0.length : Int) ≤ x0_1))))], G :: Fs, [], []⟩) [(0, _), (1, _)] [_] [0] [] [] 11 ?_ ?_
 ·rintro _ rfl
  refine .gn 1 ?_
  refine .cH h (fun c5 r6 => ?_) (fun c5 r7 => ?_)
  ·refine .go 4 ?_
   cases r6
   refine .rS [.tmp 4] [_] Tryz.func18 Tryz.results18 ⟨a0_0, k0_0, rfl, rfl, rfl, s0_0⟩
  ·refine .go 2 ?_
   refine .drawL (.q 0 (.q 1 (.q 2 (.q 3 (.q 4 (.q 5 (.q 6 (.q 7 (.q 8 (.q 9 (.q 10 .nil))))))))))) [_] (by kernel_rfl) (by kernel_rfl) (X1 [0] rfl) (.go 8 ?_)
   obtain ⟨u8, hu8, r9⟩ := X0 r7
   obtain ⟨c10, p11, h12⟩ := SlR.get s0_0 hu8
   obtain rfl := h12
   refine .dq (.idxR s0_0 rfl rfl hu8 sl22 ty3.sz) rfl (.dq (.load_rp p11 mcs rfl ty3 rfl) rfl (.go 11 ?_))
   refine .store 0 [_, _] [_] .ro rfl rfl rfl ty3 rfl rfl rfl rfl (.go 5 ?_)
   obtain ⟨u13, hu13, r14⟩ := X0 r9
   refine .cV [_, _] Tryz.call62 (Xjb mcs  hu13) ?_
   refine .go 2 ?_
   cases r14
   refine .rS [.tmp 4] [_] Tryz.func18 Tryz.results18 ⟨a0_0, k0_0, rfl, rfl, rfl, s0_0⟩
 ·intro hb2
  refine .split 8 rfl (fun c1 => ?_) (fun c1 => ?_)
  ·refine .dgq_off rfl rfl rfl ?_
   refine .dgq_off rfl rfl rfl (.dgq_off rfl rfl rfl (.dgq_off rfl rfl rfl (.dgq_off rfl rfl rfl (.dgq_off rfl rfl rfl (.dgq_off rfl rfl rfl (.dgq_off rfl rfl rfl (.dgq_off rfl rfl rfl (.dgq_off rfl rfl rfl (.go 1 ?_)))))))))
   exact (hb2 _ rfl).ax ⟨X4y c1, rfl, rfl, trivial⟩
  ·refine .dgq_on rfl ?_
   refine .go 1 ?_
   refine .dgq_on rfl (.go 1 ?_)
   refine .dgq_on rfl (.go 1 ?_)
   refine .dgq_on rfl (.go 1 ?_)
   refine .dgq_on rfl (.go 1 ?_)
   refine .dgq_on rfl (.go 1 ?_)
   refine .dgq_on rfl (.go 1 ?_)
   refine .dgq_on rfl (.go 1 ?_)
   refine .dgq_on rfl (.go 1 ?_)
   refine .dgq_on rfl (.go 2 ?_)
   exact (hb2 _ rfl).ax ⟨X4z c1, rfl, rfl, trivial⟩
theorem Xeu {x0 : Int} {x1 : List Int} {r : (((List Int) × Int) × Int)} (hG : G ∈ Fs) (s1 : SlR ri G a1 k1 x1) (h : Xa6 x0 x1 = some r) : RetW Tryz.prog 70 #[.int .i64 x0, .slice a1 x1.length k1] Fs [] [] (fun v bo so G => ∃ a0 : Option Addr, ∃ k0 : Nat, v = .tuple #[.agg #[.slice a0 r.1.1.length k0, .int .i64 r.1.2], .int .i64 r.2] ∧ bo = [] ∧ so = [] ∧ SlR ri G a0 k0 r.1.1) := by
 unfold Xa6 at h
 try dsimp only at h
 refine RetW.st [(0, _), (1, _)] Tryz.func70 Tryz.ntmps70 hG fun w0 S0 hS0 B0 => ?_
 refine .go 2 ?_
 refine .alloc .ro ty56 rfl (fun b1 hb1 => ?_)
 refine .go 8 ?_
 refine .kR (fun y => y = ⟨[(16, .bool (decide ((x0 < 1) ∨ (2147483647 ≤ x0))))], G :: Fs, [], []⟩) [(0, _), (1, _), (4, _)] [_] [0] [] [] 3 ?_ ?_
 ·rintro _ rfl
  refine .gn 1 ?_
  refine .cH h (fun c6 r7 => ?_) (fun c6 r8 => ?_)
  ·cases r7
  ·refine .go 8 ?_
   refine .cH r8 (fun c9 r10 => ?_) (fun c9 r11 => ?_)
   ·cases r10
   ·refine .go 8 ?_
    refine .kB (fun y => ∃ (Z0 : _), y = ⟨[], G :: Fs, [(b1, .cells #[.slice none 0 0, .int .i64 Z0] 56 (0, 0))], []⟩ ∧ (X42 x0 x1) Z0 = some r) [(0, _), (1, _), (4, _)] [] [] [] [] ?_ ?_
    ·rintro _ ⟨v52, rfl, r54⟩
     refine .gn 0 ?_
     unfold X42 at r54
     try dsimp only at r54
     refine .go 2 ?_
     refine .alloc .ro ty56 rfl (fun b57 hb57 => ?_)
     refine .go 8 ?_
     refine .kB (fun y => ∃ (Z0 : List Int) (Z1 : _) (Z2 : Nat) (Z3 Z4 Z5 : _), y = ⟨[], G :: Fs, [(b57, .cells #[.slice Z1 Z0.length Z2, .int .i64 Z4] 56 (0, 0)), (b1, .cells #[.slice none 0 0, .int .i64 Z5] 56 (0, 0))], [.s (.slice Z1 Z0.length Z2) 3 1 Z0.length Z3]⟩ ∧ OL ri G Z3 Z0 ∧ X40 Z0 Z4 Z5 = some r) [(4, _), (8, _)] [] [] [] [] ?_ ?_
     ·rintro _ ⟨v12, a13, k14, cs15, v16, v17, rfl, o18, r19⟩
      refine .gn 0 ?_
      unfold X40 at r19
      try dsimp only at r19
      refine .go 2 ?_
      refine .q .ro (.load_own_a 0 [_, _] rfl rfl ty56 rfl) rfl (.store 1 [_, _] [_, _] .ro rfl rfl rfl ty56 rfl rfl rfl rfl (.go 2 ?_))
      refine .freezeR 0 rfl rfl o18 [] rfl B0 (fun G20 e21 B23 s24 => ?_)
      cases r19
      refine .rW 2 [.cell 4 56, .tmp 5] [_, _] Tryz.func70 Tryz.results70 ⟨RV.cell_a 1 [_, _] rfl rfl ty56 rfl, RV.tmp rfl, trivial⟩ B23 hS0 (fun G' hg => ⟨a13, k14, rfl, rfl, rfl, (SlR.mono hg s24)⟩)
     ·intro hb25
      refine .block (.own_nil 3 1 ?_)
      refine .lp (fun y m => ∃ (Z0 : Nat) (Z1 : List Int) (Z2 : _) (Z3 : List Int) (Z4 : _) (Z5 : Nat) (Z6 : _), y = ⟨[(0, .int .i64 Z2), (38, .int .i64 (Z0 : Int))], [], [(b57, .cells #[.slice Z4 Z3.length Z5, .int .i64 0] 56 (0, 0))], [.s (.slice Z4 Z3.length Z5) 3 1 Z3.length Z6]⟩ ∧ Z1.length = m ∧ OL ri G Z6 Z3 ∧ List.drop Z0 x1 = Z1 ∧ X41 X40 v52 Z1 Z2 Z3 = some r) [(4, _), (8, _), (36, _), (37, _)] [_] [] ⟨0, x1, x0, ([] : List Int), none, 0, [], rfl, rfl, (OL.nil (Rp' := ri)), rfl, r54⟩ (fun y m hI hb26 => ?_)
      obtain ⟨i27, w28, v29, v30, a31, k32, cs33, rfl, rfl, o34, g35, r36⟩ := hI
      refine .gn 0 ?_
      cases w28 with
      | nil =>
       rw [X41] at r36; try dsimp only at r36
       refine .go 5 ?_
       refine .cond_dec rfl (fun c => absurd c (Xl g35)) (fun _ => ?_)
       refine .exit rfl ?_
       exact (hb25 _ ⟨v30, a31, k32, cs33, 0, v52, rfl, o34, r36⟩).ar
      | cons x37 xs38 =>
       have r39 : X7t X40 v52 (X41 X40 v52 xs38) x37 v29 v30 = some r := r36; clear r36; unfold X7t at r39; try dsimp only at r39
       refine .go 5 ?_
       refine .cond_dec rfl (fun _ => ?_) (fun c => absurd (X15 g35) c)
       refine .go 2 ?_
       refine .block (.go 2 ?_)
       obtain ⟨c40, p41, h42⟩ := SlR.get s1 (X3 g35)
       obtain rfl := h42
       refine .q .ro (.idxR s1 rfl rfl (X3 g35) sl22 ty3.sz) rfl (.q .ro (.load_rp p41 mcs rfl ty3 rfl) rfl (.go 6 ?_))
       refine .q .ro (.remt rfl rfl (by decide)) rfl (.go 2 ?_)
       refine .drawL (.q 0 (.q 1 (.q 2 (.q 3 (.q 4 (.e 5 1 (.e 6 1 (.q 7 (.e 8 2 .nil))))))))) [_, _] (by kernel_rfl) (by kernel_rfl) (X1 [0, 1] rfl) (.go 4 ?_)
       obtain ⟨u43, hu43, r44⟩ := X0 r39
       refine .dq (.remt rfl rfl (X6z hu43)) rfl ?_
       refine .lit [_] [(0, _)] .d1 sl22 ty3 rfl rfl rfl rfl rfl rfl (fun b45 hb45 => ?_)
       have o46 : OL ri G [.int .i64 (Int.tmod (Int.tmod (w64 (v29 * 48271)) 2147483647) x37)] ([(Int.tmod (Int.tmod (w64 (v29 * 48271)) 2147483647) x37)] : List Int) := ((OL.cons rfl (Rep.intI .i64 (Int.tmod (Int.tmod (w64 (v29 * 48271)) 2147483647) x37)) (OL.nil (Rp' := ri))) :)
       refine .reval 50 (n' := ([(Int.tmod (Int.tmod (w64 (v29 * 48271)) 2147483647) x37)] : List Int).length) rfl rfl (.clsL (HpLe.refl _) (X1 [0, 1] rfl) ?_)
       obtain ⟨u47, hu47, r48⟩ := X0 r44
       refine .appO (Q := ri) 0 .d1 sl22 ty3 rfl rfl rfl rfl rfl rfl o34 o46 rfl rfl rfl B0 hu47 rfl (fun a49 k50 cs51 o53 => ?_)
       refine .clsL (HpLe.refl _) (X1 [0, 1] rfl) (.go 1 ?_)
       refine .store 0 [_, _] [_, _] .d2 rfl rfl rfl ty22 rfl rfl rfl rfl (.go 6 ?_)
       exact (hb26 _ _ ⟨(i27 + 1), xs38, (Int.tmod (w64 (v29 * 48271)) 2147483647), u47, a49, k50, cs51, rfl, rfl, o53, (X4 g35), r48⟩ (Nat.lt_succ_self _)).ax ⟨rfl, (congrArg (fun z => some (Value.int .i64 z)) (X5 (SlR.len s1) g35)), rfl, rfl, rfl, rfl, trivial⟩
    ·intro hb55
     refine .block ?_
     refine .lp (fun y m => ∃ (Z0 : Nat) (Z1 : List Int), y = ⟨[(24, .int .i64 (Z0 : Int))], [], [], []⟩ ∧ Z1.length = m ∧ List.drop Z0 x1 = Z1 ∧ X43 (X42 x0 x1) Z1  = some r) [(0, _), (1, _), (4, _), (22, _), (23, _)] [_] [] ⟨0, x1, rfl, rfl, rfl, r11⟩ (fun y m hI hb58 => ?_)
     obtain ⟨i59, w60, rfl, rfl, g61, r62⟩ := hI
     refine .gn 0 ?_
     cases w60 with
     | nil =>
      rw [X43] at r62; try dsimp only at r62
      refine .go 5 ?_
      refine .cond_dec rfl (fun c => absurd c (Xl g61)) (fun _ => ?_)
      refine .exit rfl ?_
      exact (hb55 _ ⟨(0), rfl, r62⟩).ar
     | cons x63 xs65 =>
      have r66 : X7u (X42 x0 x1) (X43 (X42 x0 x1) xs65) x63  = some r := r62; clear r62; unfold X7u at r66; try dsimp only at r66
      refine .go 5 ?_
      refine .cond_dec rfl (fun _ => ?_) (fun c => absurd (X15 g61) c)
      refine .go 2 ?_
      refine .block (.go 2 ?_)
      obtain ⟨c67, p68, h69⟩ := SlR.get s1 (X3 g61)
      obtain rfl := h69
      refine .q .ro (.idxR s1 rfl rfl (X3 g61) sl22 ty3.sz) rfl (.q .ro (.load_rp p68 mcs rfl ty3 rfl) rfl (.go 7 ?_))
      refine .kR (fun y => y = ⟨[(33, .bool (decide ((x63 < 1) ∨ (2147483647 < x63))))], G :: Fs, [], []⟩) [(24, _), (0, _), (1, _), (4, _), (22, _), (23, _)] [_] [0] [] [] 3 ?_ ?_
      ·rintro _ rfl
       refine .gn 1 ?_
       refine .cH r66 (fun c71 r72 => ?_) (fun c71 r73 => ?_)
       ·cases r72
       ·refine .go 6 ?_
        exact (hb58 _ _ ⟨(i59 + 1), xs65, rfl, rfl, (X4 g61), r73⟩ (Nat.lt_succ_self _)).ax ⟨(congrArg (fun z => some (Value.int .i64 z)) (X5 (SlR.len s1) g61)), rfl, rfl, rfl, rfl, rfl, trivial⟩
      ·intro hb74
       refine .split 30 rfl (fun c75 => ?_) (fun c75 => ?_)
       ·refine .go 3 ?_
        exact (hb74 _ rfl).ax ⟨X4y c75, rfl, rfl, rfl, rfl, rfl, rfl, trivial⟩
       ·refine .go 5 ?_
        exact (hb74 _ rfl).ax ⟨X4z c75, rfl, rfl, rfl, rfl, rfl, rfl, trivial⟩
 ·intro hb3
  refine .split 13 rfl (fun c2 => ?_) (fun c2 => ?_)
  ·refine .go 3 ?_
   exact (hb3 _ rfl).ax ⟨X4y c2, rfl, rfl, rfl, trivial⟩
  ·refine .go 5 ?_
   exact (hb3 _ rfl).ax ⟨X4z c2, rfl, rfl, rfl, trivial⟩
theorem Xe8 {x0_0 : List Int} {x0_1 : Int} {x1 : List Int} {r : (((List Int) × Int) × ((List Int) × Int))} (hG : G ∈ Fs) (s0_0 : SlR ri G a0_0 k0_0 x0_0) (s1 : SlR ri G a1 k1 x1) (h : Xbd (x0_0, x0_1) x1 = some r) : RetW Tryz.prog 22 #[.pointer (some ⟨p0, 0, none⟩), .slice a1 x1.length k1] Fs [(p0, .cells #[.slice a0_0 x0_0.length k0_0, .int .i64 x0_1] 121 (0, 0))] [] (fun v bo so G => ∃ a0 : Option Addr, ∃ k0 : Nat, ∃ a1 : Option Addr, ∃ k1 : Nat, v = .agg #[.slice a0 r.1.1.length k0, .int .i64 r.1.2] ∧ bo = [(p0, .cells #[.slice a1 r.2.1.length k1, .int .i64 r.2.2] 121 (0, 0))] ∧ so = [] ∧ SlR ri G a0 k0 r.1.1 ∧ SlR ri G a1 k1 r.2.1) := by
 unfold Xbd at h
 try dsimp only at h
 refine RetW.st [(0, _), (1, _)] Tryz.func22 Tryz.ntmps22 hG fun w0 S0 hS0 B0 => ?_
 refine .go 2 ?_
 refine .alloc .ro ty56 rfl (fun b1 hb1 => ?_)
 refine .go 4 ?_
 obtain ⟨u2, hu2, r3⟩ := X0 h
 refine .pull 1 rfl [_, _] rfl ?_
 refine .callS (b1 := [_]) (b2 := [_]) (s1 := []) [_, _] [] .ro rfl rfl Tryz.call18 rfl rfl (X10 mcs s0_0 hu2) rfl (fun v5 bo so h4 => ?_)
 obtain ⟨a6, k7, rfl, rfl, rfl, s8⟩ := h4
 refine .gn 2 ?_
 obtain ⟨u9, hu9, r10⟩ := X0 r3
 refine .cW [_, _] Tryz.call70 (Xeu mcs s1 hu9) B0 (fun v12 bo so G13 e14 B15 h11 => ?_)
 obtain ⟨a17, k18, rfl, rfl, rfl, s19⟩ := h11
 refine .gn 3 ?_
 refine .alloc .ro ty56 rfl (fun b20 hb20 => ?_)
 refine .store 0 [_, _] [_, _, _] .ro rfl rfl rfl ty56 rfl rfl rfl rfl (.go 4 ?_)
 refine .q .ro (.load_own_a 0 [_, _] rfl rfl ty56 rfl) rfl (.store 2 [_, _] [_, _, _] .ro rfl rfl rfl ty56 rfl rfl rfl rfl (.go 1 ?_))
 cases r10
 refine .pull 1 rfl [_, _, _] rfl (.pull 2 rfl [_, _, _] rfl (.pull 2 rfl [_, _, _] rfl ?_))
 refine .rW 2 [.cell 4 56] [_] Tryz.func22 Tryz.results22 ⟨RV.cell_a 1 [_, _] rfl rfl ty56 rfl, trivial⟩ B15 hS0 (fun G' hg => ⟨a17, k18, a6, k7, rfl, rfl, rfl, (SlR.mono hg s19), (SlR.mono hg (SlR.mono e14 s8))⟩)
theorem Xev {x0_0 : Int} {x1_0 : Int} {x1_1 : Int} {x2 : Int} {r : ((List Int) × Int)} (hG : G ∈ Fs)  (h : X8u x0_0 (x1_0, x1_1) x2 = some r) : RetS Tryz.prog 74 #[.agg #[.int .i64 x0_0], .agg #[.int .i64 x1_0, .int .i64 x1_1], .int .i64 x2] Fs [] [] (fun v bo so => ∃ (oa0 : Option Addr) (ok0 : Nat) (oc0 : List Value), v = .tuple #[.slice oa0 r.1.length ok0, .int .i64 r.2] ∧ bo = [] ∧ so = [.s (.slice oa0 r.1.length ok0) 3 1 r.1.length oc0] ∧ OL ri G oc0 r.1) := by
 unfold X8u at h
 try dsimp only at h
 refine RetS.st [(0, _), (1, _), (2, _)] Tryz.func74 Tryz.ntmps74 hG fun w0 S0 hS0 B0 => ?_
 refine .go 2 ?_
 refine .box [_] .ro rfl rfl rfl (fun b1 hb1 => ?_)
 refine .box [_, _] .ro rfl rfl rfl (fun b2 hb2 => ?_)
 refine .go 6 ?_
 refine .q .ro (.load_own_a 1 [_] rfl rfl ty45 rfl) rfl (.q .ro (.load_own_a 0 [_, _] rfl rfl ty69 rfl) rfl (.go 1 ?_))
 obtain ⟨u3, hu3, r4⟩ := X0 h
 refine .cV [_, _, _] Tryz.call111 (Xce mcs  hu3) ?_
 refine .go 7 ?_
 refine .cH r4 (fun c7 r8 => ?_) (fun c7 r9 => ?_)
 ·cases r8
 ·refine .go 14 ?_
  refine .block (.own_nil 3 1 ?_)
  refine .lp (fun y m => ∃ (Z0 : Nat) (Z1 : List Int) (Z2 : _) (Z3 : Nat) (Z4 Z5 : _), y = ⟨[(9, .slice Z2 Z1.length Z3), (21, .int .i64 Z5)], [], [], [.s (.slice Z2 Z1.length Z3) 3 1 Z1.length Z4]⟩ ∧ Z0 = m ∧ OL ri G Z4 Z1 ∧ X59 (w64 (x2 * x1_1)) x0_0 Z0 Z1 Z5 = some r) [(3, _), (20, _)] [_, _] [] ⟨big, ([] : List Int), none, 0, [], 0, rfl, rfl, (OL.nil (Rp' := ri)), r9⟩ (fun y m hI hb62 => ?_)
  obtain ⟨n52, v54, a55, k56, cs57, v60, rfl, rfl, o58, r61⟩ := hI
  refine .gn 0 ?_
  obtain ⟨m68, rfl⟩ : ∃ m, n52 = m + 1 := by cases n52 with | zero => exact absurd (show (none : Option _) = some _ from r61) (by simp) | succ m => exact ⟨m, rfl⟩
  have r67 : X7v (w64 (x2 * x1_1)) x0_0 (X59 (w64 (x2 * x1_1)) x0_0 m68) v54 v60 = some r := r61; clear r61; unfold X7v at r67; try dsimp only at r67
  refine .go 5 ?_
  refine .cH r67 (fun c69 r70 => ?_) (fun c69 r81 => ?_)
  ·refine .go 2 ?_
   refine .block (.go 4 ?_)
   refine .lit [_] [(0, _)] .ro sl22 ty3 rfl rfl rfl rfl rfl rfl (fun b71 hb71 => ?_)
   have o72 : OL ri G [.int .i64 x0_0] ([x0_0] : List Int) := ((OL.cons rfl (Rep.intI .i64 x0_0) (OL.nil (Rp' := ri))) :)
   refine .reval 26 (n' := ([x0_0] : List Int).length) rfl rfl ?_
   obtain ⟨u78, hu78, r79⟩ := X0 r70
   refine .appO (Q := ri) 0 .ro sl22 ty3 rfl rfl rfl rfl rfl rfl o58 o72 rfl rfl rfl B0 hu78 rfl (fun a74 k75 cs76 o77 => ?_)
   refine .go 7 ?_
   exact (hb62 _ _ ⟨m68, u78, a74, k75, cs76, (w64 (v60 + 1)), rfl, rfl, o77, r79⟩ (Nat.lt_succ_self _)).ar
  ·refine .exit rfl ?_
   refine .go 6 ?_
   cases r81
   refine .drop 2 0 [] _ rfl rfl ?_
   refine .rS [.tmp 6, .tmp 7] [_, _] Tryz.func74 Tryz.results74 ⟨a55, k56, cs57, rfl, rfl, rfl, o58⟩
theorem Xgu {x0_0 : List Int} {x0_1 : Int} {x1 : Int} {r : ((List Int) × ((List Int) × Int))} (hG : G ∈ Fs) (s0_0 : SlR ri G a0_0 k0_0 x0_0) (h : Xaj (x0_0, x0_1) x1 = some r) : RetW Tryz.prog 127 #[.pointer (some ⟨p0, 0, none⟩), .int .i64 x1] Fs [(p0, .cells #[.slice a0_0 x0_0.length k0_0, .int .i64 x0_1] 121 (0, 0))] [] (fun v bo so G => ∃ a0 : Option Addr, ∃ k0 : Nat, ∃ (oa0 : Option Addr) (ok0 : Nat) (oc0 : List Value), v = .slice oa0 r.1.length ok0 ∧ bo = [(p0, .cells #[.slice a0 r.2.1.length k0, .int .i64 r.2.2] 121 (0, 0))] ∧ so = [.s (.slice oa0 r.1.length ok0) 3 1 r.1.length oc0] ∧ SlR ri G a0 k0 r.2.1 ∧ OL ri G oc0 r.1) := by
 unfold Xaj at h
 try dsimp only at h
 refine RetW.st [(0, _), (1, _)] Tryz.func127 Tryz.ntmps127 hG fun w0 S0 hS0 B0 => ?_
 refine .go 15 ?_
 refine .kB (fun y => ∃ (Z0 : List Int) (Z1 : _) (Z2 : Nat) (Z3 Z4 : _), y = ⟨[(5, .slice Z1 Z0.length Z2)], G :: Fs, [(p0, .cells #[.slice a0_0 x0_0.length k0_0, .int .i64 Z4] 121 (0, 0))], [.s (.slice Z1 Z0.length Z2) 3 1 Z0.length Z3]⟩ ∧ OL ri G Z3 Z0 ∧ (X4u x0_0) Z0 Z4 = some r) [(0, _), (6, _)] [] [] [] [] ?_ ?_
 ·rintro _ ⟨v67, a68, k69, cs70, v73, rfl, o71, r75⟩
  refine .gn 0 ?_
  unfold X4u at r75
  try dsimp only at r75
  refine .go 1 ?_
  refine .block ?_
  refine .freezeR 0 rfl rfl o71 [] rfl B0 (fun G13 e14 B15 s16 => ?_)
  refine .own_nil 3 1 ?_
  refine .lp (fun y m => ∃ (Z0 : Nat) (Z1 : _) (Z2 : List Int) (Z3 : _) (Z4 : Nat) (Z5 : List Int) (Z6 : _) (Z7 : Nat) (Z8 : _) (Z9 : List Int) (Z10 : _) (Z11 : Nat) (Z12 : _), y = ⟨[(5, .slice Z3 Z2.length Z4), (6, .slice Z6 Z5.length Z7)], [Z1], [(p0, .cells #[.slice Z10 Z9.length Z11, .int .i64 Z12] 121 (0, 0))], [.s (.slice Z6 Z5.length Z7) 3 1 Z5.length Z8]⟩ ∧ Z0 = m ∧ HpLe G13 Z1 ∧ Bd w0 S0 Fs Z1 ∧ SlR ri Z1 Z3 Z4 Z2 ∧ OL ri Z1 Z8 Z5 ∧ SlR ri Z1 Z10 Z11 Z9 ∧ X5m Z0 Z2 Z5 Z9 Z12 = some r) [(0, _)] [] [] ⟨big, G13, v67, a68, k69, ([] : List Int), none, 0, [], x0_0, a0_0, k0_0, v73, rfl, rfl, (HpLe.refl _), B15, s16, (OL.nil (Rp' := ri)), (SlR.mono e14 s0_0), r75⟩ (fun y m hI hb17 => ?_)
  obtain ⟨n19, G20, v21, a23, k24, v25, a26, k27, cs28, v29, a30, k31, v32, rfl, rfl, e33, B34, s35, o36, s37, r38⟩ := hI
  refine .gn 0 ?_
  obtain ⟨m39, rfl⟩ : ∃ m, n19 = m + 1 := by cases n19 with | zero => exact absurd (show (none : Option _) = some _ from r38) (by simp) | succ m => exact ⟨m, rfl⟩
  have r40 : X7w (X5m m39) v21 v25 v29 v32 = some r := r38; clear r38; unfold X7w at r40; try dsimp only at r40
  refine .go 7 ?_
  refine .cH r40 (fun c41 r42 => ?_) (fun c41 r43 => ?_)
  ·refine .go 1 ?_
   refine .block (.go 5 ?_)
   obtain ⟨u44, hu44, r45⟩ := X0 r42
   refine .callS (b1 := [_]) (b2 := []) (s1 := []) [_, _] [] .ro rfl rfl Tryz.call18 rfl rfl (X10 mcs s37 hu44) rfl (fun v46 bo so h47 => ?_)
   obtain ⟨a48, k49, rfl, rfl, rfl, s50⟩ := h47
   refine .gn 7 ?_
   obtain ⟨u51, hu51, r52⟩ := X0 r45
   obtain ⟨c53, p54, h55⟩ := SlR.get s35 hu51
   obtain rfl := h55
   refine .q .ro (.idxR s35 rfl rfl hu51 sl22 ty3.sz) rfl (.q .ro (.load_rp p54 mcs rfl ty3 rfl) rfl ?_)
   refine .lit [_] [(0, _)] .ro sl22 ty3 rfl rfl rfl rfl rfl rfl (fun b56 hb56 => ?_)
   have o57 : OL ri G20 [.int .i64 u51] ([u51] : List Int) := ((OL.cons rfl (Rep.intI .i64 u51) (OL.nil (Rp' := ri))) :)
   refine .reval 30 (n' := ([u51] : List Int).length) rfl rfl ?_
   obtain ⟨u58, hu58, r59⟩ := X0 r52
   refine .appO (Q := ri) 0 .ro sl22 ty3 rfl rfl rfl rfl rfl rfl o36 o57 rfl rfl rfl B34 hu58 rfl (fun a60 k61 cs62 o63 => ?_)
   refine .go 2 ?_
   refine .drawL (.q 0 (.q 1 (.q 2 (.q 3 (.q 4 (.q 5 (.q 6 (.q 7 (.e 8 1 (.q 9 .nil)))))))))) [_] (by kernel_rfl) (by kernel_rfl) (X1 [0] rfl) (.go 3 ?_)
   obtain ⟨u65, hu65, r66⟩ := X0 r59
   obtain ⟨a72, k74, h76, s77⟩ := SlR.sub3 s35 hu65
   refine .dq (.sliceR3n s35 rfl hu65 sl22 ty3.sz rfl rfl h76) rfl (.go 3 ?_)
   obtain ⟨u78, hu78, r79⟩ := X0 r66
   obtain ⟨a80, k81, h82, s83⟩ := SlR.sub s35 hu78
   refine .dq (.sliceR s35 rfl hu78 sl22 ty3.sz (fun h => .yes' rfl h) (fun _ => .no) h82) rfl ?_
   obtain ⟨u84, hu84, r85⟩ := X0 r79
   refine .appF (Q := ri) .d1 sl22 ty3 rfl rfl rfl rfl rfl s77 (Xk5 h76) rfl s83 rfl hu84 rfl B34 (fun a86 k87 G88 e89 B90 s91 => ?_)
   refine .clsL e89 (X1 [0] rfl) (.go 3 ?_)
   exact (hb17 _ _ ⟨m39, G88, u84, a86, k87, u58, a60, k61, cs62, u44.2.1, a48, k49, u44.2.2, rfl, rfl, (HpLe.trans e33 e89), B90, s91, (OL.mono e89 o63), (SlR.mono e89 s50), r85⟩ (Nat.lt_succ_self _)).ar
  ·refine .exit rfl ?_
   refine .go 5 ?_
   cases r43
   refine .rW 0 [.tmp 4] [_] Tryz.func127 Tryz.results127 ⟨RV.tmp rfl, trivial⟩ B34 hS0 (fun G' hg => ⟨a30, k31, a26, k27, cs28, rfl, rfl, rfl, (SlR.mono hg s37), (OL.mono hg o36)⟩)
 ·intro hb92
  refine .block (.own_nil 3 1 ?_)
  refine .lp (fun y m => ∃ (Z0 : Nat) (Z1 : List Int) (Z2 : _) (Z3 : Nat) (Z4 Z5 : _), y = ⟨[(5, .slice Z2 Z1.length Z3), (10, .int .i64 Z5)], [], [], [.s (.slice Z2 Z1.length Z3) 3 1 Z1.length Z4]⟩ ∧ Z0 = m ∧ OL ri G Z4 Z1 ∧ X5n (X4u x0_0) x1 x0_1 Z0 Z1 Z5 = some r) [(0, _), (6, _), (9, _)] [_] [] ⟨big, ([] : List Int), none, 0, [], 0, rfl, rfl, (OL.nil (Rp' := ri)), h⟩ (fun y m hI hb93 => ?_)
  obtain ⟨n94, v95, a96, k97, cs98, v99, rfl, rfl, o100, r101⟩ := hI
  refine .gn 0 ?_
  obtain ⟨m102, rfl⟩ : ∃ m, n94 = m + 1 := by cases n94 with | zero => exact absurd (show (none : Option _) = some _ from r101) (by simp) | succ m => exact ⟨m, rfl⟩
  have r103 : X7x (X4u x0_0) x1 x0_1 (X5n (X4u x0_0) x1 x0_1 m102) v95 v99 = some r := r101; clear r101; unfold X7x at r103; try dsimp only at r103
  refine .go 5 ?_
  refine .cH r103 (fun c104 r105 => ?_) (fun c104 r106 => ?_)
  ·refine .go 2 ?_
   refine .block (.go 8 ?_)
   refine .lit [_] [(0, _)] .ro sl22 ty3 rfl rfl rfl rfl rfl rfl (fun b107 hb107 => ?_)
   have o108 : OL ri G [.int .i64 v99] ([v99] : List Int) := ((OL.cons rfl (Rep.intI .i64 v99) (OL.nil (Rp' := ri))) :)
   refine .reval 15 (n' := ([v99] : List Int).length) rfl rfl ?_
   obtain ⟨u109, hu109, r110⟩ := X0 r105
   refine .appO (Q := ri) 0 .ro sl22 ty3 rfl rfl rfl rfl rfl rfl o100 o108 rfl rfl rfl B0 hu109 rfl (fun a111 k112 cs113 o114 => ?_)
   refine .go 7 ?_
   exact (hb93 _ _ ⟨m102, u109, a111, k112, cs113, (w64 (v99 + 1)), rfl, rfl, o114, r110⟩ (Nat.lt_succ_self _)).ar
  ·refine .exit rfl ?_
   exact (hb92 _ ⟨v95, a96, k97, cs98, x0_1, rfl, o100, r106⟩).ar
theorem Xew {x0_0 : List Int} {x0_1 : Int} {x1_0 : Int} {x2 : List (List Int)} {x3 : Int} {x4 : Int} {r : ((List (Bool × (List Int))) × (List Int) × ((List Int) × Int))} (hG : G ∈ Fs) (s0_0 : SlR ri G a0_0 k0_0 x0_0) (s2 : SlR (Rep.sl ri) G a2 k2 x2) (h : X8v (x0_0, x0_1) x1_0 x2 x3 x4 = some r) : RetW Tryz.prog 75 #[.pointer (some ⟨p0, 0, none⟩), .agg #[.int .i64 x1_0], .slice a2 x2.length k2, .int .i64 x3, .int .i64 x4] Fs [(p0, .cells #[.slice a0_0 x0_0.length k0_0, .int .i64 x0_1] 121 (0, 0))] [] (fun v bo so G => ∃ a0 : Option Addr, ∃ k0 : Nat, ∃ a1 : Option Addr, ∃ k1 : Nat, ∃ a2 : Option Addr, ∃ k2 : Nat, v = .tuple #[.slice a0 r.1.length k0, .slice a1 r.2.1.length k1] ∧ bo = [(p0, .cells #[.slice a2 r.2.2.1.length k2, .int .i64 r.2.2.2] 121 (0, 0))] ∧ so = [] ∧ SlR (Rep.pair Rep.bool (Rep.sl ri)) G a0 k0 r.1 ∧ SlR ri G a1 k1 r.2.1 ∧ SlR ri G a2 k2 r.2.2.1) := by
 unfold X8v at h
 try dsimp only at h
 refine RetW.st [(0, _), (1, _), (2, _), (3, _), (4, _)] Tryz.func75 Tryz.ntmps75 hG fun w0 S0 hS0 B0 => ?_
 refine .go 2 ?_
 refine .box [_] .ro rfl rfl rfl (fun b1 hb1 => ?_)
 refine .go 14 ?_
 refine .kB (fun y => ∃ (Z0 : List (Bool × (List Int))) (Z1 : _) (Z2 : Nat) (Z3 Z4 Z5 Z6 : _), y = ⟨[(12, .slice Z1 Z0.length Z2)], G :: Fs, [(b1, .cells #[.int .i64 Z5] 45 (0, 0)), (p0, .cells #[.slice a0_0 x0_0.length k0_0, .int .i64 Z6] 121 (0, 0))], [.s (.slice Z1 Z0.length Z2) 63 2 Z0.length Z4, .g (packG 3 1 Z3)]⟩ ∧ NS shp63 ri shE63 G Z3 Z4 Z0 ∧ (X45 x2 x3 x4 x0_0) Z0 Z5 Z6 = some r) [(0, _), (2, _), (3, _), (4, _), (6, _)] [] [] [] [] ?_ ?_
 ·rintro _ ⟨v13, a14, k15, es16, cs17, v19, v20, rfl, o21, r23⟩
  refine .gn 0 ?_
  unfold X45 at r23
  try dsimp only at r23
  refine .go 4 ?_
  obtain ⟨u24, hu24, r25⟩ := X0 r23
  refine .makeR (G := G) (Q := Rep.bool) .ro sl174 ty4 rfl rfl rfl ((Rep.boolI false) :) rfl rfl hu24 rfl rfl (fun b26 cs27 hb26 o28 => ?_)
  refine .go 8 ?_
  obtain ⟨u29, hu29, r30⟩ := X0 r25
  refine .pull 1 rfl [_, _] rfl ?_
  refine .callW (b1 := [_]) (b2 := [_]) (s1 := []) [_, _] [] .ro rfl rfl Tryz.call127 rfl rfl (Xgu mcs s0_0 hu29) rfl B0 (fun v31 bo so G32 e33 B34 h35 => ?_)
  obtain ⟨a36, k37, a38, k39, cs40, rfl, rfl, rfl, s41, o42⟩ := h35
  refine .gn 3 ?_
  refine .kB (fun y => ∃ (Z0 : List (Bool × (List Int))) (Z1 Z2 : _) (Z3 : List Bool) (Z4 : _) (Z5 : Nat) (Z6 : _) (Z7 : List Int) (Z8 : _) (Z9 : Nat) (Z10 Z11 : _), y = ⟨[(12, .slice a14 Z0.length k15), (15, .slice Z4 Z3.length Z5)], G32 :: Fs, [(p0, .cells #[.slice Z8 Z7.length Z9, .int .i64 Z10] 121 (0, 0)), (b1, .cells #[.int .i64 Z11] 45 (0, 0))], [.s (.slice a14 Z0.length k15) 63 2 Z0.length Z2, .g (packG 3 1 Z1), .s (.slice Z4 Z3.length Z5) 4 1 Z3.length Z6]⟩ ∧ NS shp63 ri shE63 G32 Z1 Z2 Z0 ∧ Z0.length = v13.length ∧ OL Rep.bool G32 Z6 Z3 ∧ SlR ri G32 Z8 Z9 Z7 ∧ X3e Z0 Z3 Z7 Z10 Z11 = some r) [] [] [] [_] [0] ?_ ?_
  ·rintro _ ⟨v43, es44, cs46, v47, a48, k49, cs50, v52, a53, k54, v55, v56, rfl, o57, hl58, o59, s61, r62⟩
   refine .gn 0 ?_
   unfold X3e at r62
   try dsimp only at r62
   refine .go 11 ?_
   refine .block (.own_nil 3 1 ?_)
   refine .lp (fun y m => ∃ (Z0 : Nat) (Z1 : List Bool) (Z2 : List Int) (Z3 : _) (Z4 : Nat) (Z5 : _), y = ⟨[(19, .slice Z3 Z2.length Z4), (111, .int .i64 (Z0 : Int))], [], [], [.s (.slice Z3 Z2.length Z4) 3 1 Z2.length Z5]⟩ ∧ Z1.length = m ∧ OL ri G32 Z5 Z2 ∧ List.drop Z0 v47 = Z1 ∧ X3d v52 v55 v43 Z1 Z0 Z2 = some r) [(12, _), (109, _), (110, _)] [_, _] [_, _, _, _] ⟨0, v47, ([] : List Int), none, 0, [], rfl, rfl, (OL.nil (Rp' := ri)), rfl, r62⟩ (fun y m hI hb65 => ?_)
   obtain ⟨i66, w67, v68, a69, k70, cs71, rfl, rfl, o72, g73, r74⟩ := hI
   refine .gn 0 ?_
   cases w67 with
   | nil =>
    rw [X3d] at r74; try dsimp only at r74
    refine .go 5 ?_
    refine .cond_dec rfl (fun c => absurd c (Xl g73)) (fun _ => ?_)
    refine .exit rfl (.go 7 ?_)
    refine .pullS 2 rfl [_, _, _, _, _] rfl (.pullS 2 rfl [_, _, _, _, _] rfl ?_)
    refine .freezeNs (Rep.pair Rep.bool (Rep.sl ri)) shP63 rfl o57 rfl rfl rfl B34 (fun G76 e77 B78 s79 => ?_)
    refine .freezeR 0 rfl rfl (OL.mono e77 o72) [_, _] rfl B78 (fun G80 e81 B82 s83 => ?_)
    cases r74
    refine .pull 1 rfl [_, _] rfl (.drop 1 0 [_] _ rfl rfl (.drop 0 2 _ [] rfl rfl ?_))
    refine .rW 0 [.tmp 10, .tmp 11] [_, _] Tryz.func75 Tryz.results75 ⟨RV.tmp rfl, RV.tmp rfl, trivial⟩ B82 hS0 (fun G' hg => ⟨a14, k15, a69, k70, a53, k54, rfl, rfl, rfl, (SlR.mono hg (SlR.mono e81 s79)), (SlR.mono hg s83), (SlR.mono hg (SlR.mono (HpLe.trans e77 e81) s61))⟩)
   | cons x84 xs85 =>
    have r86 : X7y v52 v55 v43 (X3d v52 v55 v43 xs85 (i66 + 1)) x84 i66 v68 = some r := r74; clear r74; unfold X7y at r86; try dsimp only at r86
    refine .go 5 ?_
    refine .cond_dec rfl (fun _ => ?_) (fun c => absurd (X15 g73) c)
    refine .go 2 ?_
    refine .block (.go 3 ?_)
    obtain ⟨c87, p88, h89⟩ := OL.get o59 (X3 g73)
    obtain rfl := h89
    refine .q .ro (.idxO 3 rfl rfl rfl (X3 g73) sl174 ty4.sz) rfl (.q .ro (.loadO 3 0 rfl (X3 g73) p88 rfl (.inl ⟨rfl, rfl⟩) ty4 rfl) rfl (.go 7 ?_))
    refine .cB r86 (fun c90 r91 => ?_) (fun c90 r92 => ?_)
    ·refine .go 4 ?_
     refine .lit [_] [(0, _)] .ro sl22 ty3 rfl rfl rfl rfl rfl rfl (fun b93 hb93 => ?_)
     have o94 : OL ri G32 [.int .i64 (w64 ((i66 : Int) + 1))] ([(w64 ((i66 : Int) + 1))] : List Int) := ((OL.cons rfl (Rep.intI .i64 (w64 ((i66 : Int) + 1))) (OL.nil (Rp' := ri))) :)
     refine .reval 120 (n' := ([(w64 ((i66 : Int) + 1))] : List Int).length) rfl rfl ?_
     obtain ⟨u95, hu95, r96⟩ := X0 r91
     refine .appO (Q := ri) 0 .ro sl22 ty3 rfl rfl rfl rfl rfl rfl o72 o94 rfl rfl rfl B34 hu95 rfl (fun a97 k98 cs99 o100 => ?_)
     refine .go 7 ?_
     exact (hb65 _ _ ⟨(i66 + 1), xs85, u95, a97, k98, cs99, rfl, rfl, o100, (X4 g73), r96⟩ (Nat.lt_succ_self _)).ax ⟨rfl, (congrArg (fun z => some (Value.int .i64 z)) (X5 (OL.len' o59) g73)), rfl, rfl, rfl, trivial⟩
    ·refine .go 6 ?_
     exact (hb65 _ _ ⟨(i66 + 1), xs85, v68, a69, k70, cs71, rfl, rfl, o72, (X4 g73), r92⟩ (Nat.lt_succ_self _)).ax ⟨rfl, (congrArg (fun z => some (Value.int .i64 z)) (X5 (OL.len' o59) g73)), rfl, rfl, rfl, trivial⟩
  ·intro hb101
   refine .block (.pullS 1 rfl [_, _, _, _] rfl (.pullS 3 rfl [_, _, _, _] rfl (.pullS 3 rfl [_, _, _, _] rfl ?_)))
   refine .lp (fun y m => ∃ (Z0 : Nat) (Z1 : List Int) (Z2 : List (Bool × (List Int))) (Z3 Z4 : _) (Z5 : List Bool) (Z6 : _) (Z7 : Nat) (Z8 : _) (Z9 : List Int) (Z10 : _) (Z11 : Nat) (Z12 : _), y = ⟨[(12, .slice a14 Z2.length k15), (15, .slice Z6 Z5.length Z7), (43, .int .i64 (Z0 : Int))], [], [(p0, .cells #[.slice Z10 Z9.length Z11, .int .i64 Z12] 121 (0, 0))], [.s (.slice a14 Z2.length k15) 63 2 Z2.length Z4, .g (packG 3 1 Z3), .s (.slice Z6 Z5.length Z7) 4 1 Z5.length Z8]⟩ ∧ Z1.length = m ∧ NS shp63 ri shE63 G32 Z3 Z4 Z2 ∧ Z2.length = v13.length ∧ OL Rep.bool G32 Z8 Z5 ∧ SlR ri G32 Z10 Z11 Z9 ∧ List.drop Z0 u29.1 = Z1 ∧ X44 X3e x2 x3 x4 v19 Z1 Z0 Z2 Z5 Z9 Z12 = some r) [(0, _), (2, _), (3, _), (4, _), (6, _), (41, _), (42, _)] [_] [_] ⟨0, u29.1, v13, es16, cs17, u24, (some ⟨b26, 0, none⟩), u24.length, cs27, u29.2.1, a36, k37, u29.2.2, rfl, rfl, (NS.mono e33 o21), rfl, (OL.mono e33 o28), s41, rfl, r30⟩ (fun y m hI hb102 => ?_)
   obtain ⟨i103, w104, v105, es106, cs107, v108, a109, k110, cs111, v112, a113, k114, v115, rfl, rfl, o116, hl117, o118, s119, g120, r121⟩ := hI
   refine .gn 0 ?_
   cases w104 with
   | nil =>
    rw [X44] at r121; try dsimp only at r121
    refine .go 5 ?_
    refine .cond_dec rfl (fun c => absurd c (Xl g120)) (fun _ => ?_)
    refine .exit rfl ?_
    exact (hb101 _ ⟨v105, es106, cs107, v108, a109, k110, cs111, v112, a113, k114, v115, v19, rfl, o116, hl117, o118, s119, r121⟩).ar
   | cons x122 xs123 =>
    have r124 : X7z X3e x2 x3 x4 v19 (X44 X3e x2 x3 x4 v19 xs123 (i103 + 1)) x122 i103 v105 v108 v112 v115 = some r := r121; clear r121; unfold X7z at r124; try dsimp only at r124
    refine .go 5 ?_
    refine .cond_dec rfl (fun _ => ?_) (fun c => absurd (X15 g120) c)
    refine .go 2 ?_
    refine .block (.go 3 ?_)
    obtain ⟨c125, p126, h127⟩ := OL.get o42 (X3 g120)
    obtain rfl := h127
    refine .q .ro (.idxO 3 rfl rfl rfl (X3 g120) sl22 ty3.sz) rfl (.q .ro (.loadO 3 0 rfl (X3 g120) p126 rfl (.inl ⟨rfl, rfl⟩) ty3 rfl) rfl (.go 9 ?_))
    obtain ⟨u128, h129, r130⟩ := X0 r124
    refine .kR (fun y => y = ⟨[(58, .bool u128)], G32 :: Fs, [], []⟩) [(12, _), (15, _), (43, _), (0, _), (2, _), (3, _), (4, _), (6, _), (41, _), (42, _), (16, _), (17, _)] [_, _] [0, 1] [_, _, _, _] [0, 1, 2, 3] 7 ?_ ?_
    ·rintro _ rfl
     refine .gn 1 ?_
     refine .cB r130 (fun c131 r132 => ?_) (fun c131 r133 => ?_)
     ·refine .go 5 ?_
      obtain ⟨u134, hu134, r135⟩ := X0 r132
      obtain ⟨c136, p137, h138⟩ := SlR.get (SlR.mono e33 s2) hu134
      obtain ⟨a139, k140, rfl, s141⟩ := h138
      refine .q .ro (.idxR (SlR.mono e33 s2) rfl rfl hu134 sl51 ty22.sz) rfl (.q .ro (.load_rp p137 mcs rfl ty22 rfl) rfl (.go 1 ?_))
      obtain ⟨u142, hu142, r143⟩ := X0 r135
      refine .callS (b1 := [_]) (b2 := [_]) (s1 := []) [_, _] [] .ro rfl rfl Tryz.call18 rfl rfl (X10 mcs s119 hu142) rfl (fun v144 bo so h145 => ?_)
      obtain ⟨a146, k147, rfl, rfl, rfl, s148⟩ := h145
      refine .gn 3 ?_
      refine .drawO (.q 0 (.q 1 (.q 2 (.q 3 (.q 4 (.q 5 (.q 6 (.q 7 (.q 8 (.q 9 (.q 10 (.q 11 (.q 12 (.q 13 (.q 14 (.q 15 (.q 16 (.q 17 (.q 18 (.q 21 (.q 22 (.e 19 1 (.q 20 (.q 23 (.q 24 (.e 25 2 .nil)))))))))))))))))))))))))) [_] [_, _] (by kernel_rfl) (by kernel_rfl) (X1 [1] rfl) (X1 [0, 1] rfl) (.dqO (.move rfl) rfl (.dqO (.move rfl) rfl ?_))
      obtain ⟨u149, hu149, r150⟩ := X0 r143
      obtain ⟨e151, c152, he153, hn154, ho155, p156, h157⟩ := NS.get o116 hu149
      obtain ⟨_, _, rfl, rfl, rfl⟩ := h157
      refine .dqO (.idxO 0 rfl rfl rfl hu149 sl60 ty63.sz) rfl (.dqO (.fieldO 0 0 rfl hu149 rfl (.inl ⟨rfl, rfl⟩) Xk8 ty22.sz) rfl (.dqO (.loadO 0 1 rfl hu149 p156 rfl (.inr rfl) ty22 rfl) rfl (.dqO (.move rfl) rfl (.dqO (.move rfl) rfl (.dqO (.move rfl) rfl ?_)))))
      obtain ⟨u158, hu158, r159⟩ := X0 r150
      obtain ⟨e160, c161, he162, hn163, ho164, p165, h166⟩ := NS.get o116 hu158
      obtain ⟨_, _, rfl, rfl, rfl⟩ := h166
      refine .dqO (.idxO 0 rfl rfl rfl hu158 sl60 ty63.sz) rfl (.dqO (.fieldO 0 0 rfl hu158 rfl (.inl ⟨rfl, rfl⟩) Xk8 ty22.sz) rfl (.dqO (.loadO 0 1 rfl hu158 p165 rfl (.inr rfl) ty22 rfl) rfl (.dqO (.move rfl) rfl ?_)))
      obtain ⟨u167, hu167, r168⟩ := X0 r159
      obtain ⟨c169, p170, h171⟩ := OL.get ho164 hu167
      obtain rfl := h171
      refine .dqO (.inN 1 rfl he162 hn163 (.idxO (l := u158.2) 0 rfl rfl rfl hu167 sl22 ty3.sz)) rfl (.dqO (.inN 1 rfl he162 hn163 (.loadO (l := u158.2) 0 0 rfl hu167 p170 rfl (.inl ⟨rfl, rfl⟩) ty3 rfl)) rfl (.dqO (.addw rfl rfl) rfl (.dqO (.move rfl) rfl (.dqO (.fieldAddr 0 rfl Xk7 ty3.sz rfl) rfl (.dqO (.load_own 0 rfl rfl ty3 rfl) rfl (.dqO (.subw rfl rfl) rfl (.dqO (.fieldAddr 0 rfl Xk7 ty3.sz rfl) rfl (.dqO (.load_own 0 rfl rfl ty3 rfl) rfl ?_))))))))
      obtain ⟨u172, hu172, r173⟩ := X0 r168
      refine .callS (b1 := [_]) (b2 := [_]) (s1 := []) [_, _] [] .d1 rfl rfl Tryz.call18 rfl rfl (X10 mcs s148 hu172) rfl (fun v175 bo so h176 => ?_)
      obtain ⟨a177, k178, rfl, rfl, rfl, s179⟩ := h176
      refine .gn 0 ?_
      refine .clsO (HpLe.refl _) (X1 [1] rfl) (X1 [0, 1] rfl) (.dqO (.addw rfl rfl) rfl ?_)
      obtain ⟨u180, hu180, r181⟩ := X0 r173
      refine .dqO (.remt rfl rfl (X6z hu180)) rfl ?_
      obtain ⟨u182, hu182, r183⟩ := X0 r181
      obtain ⟨c184, p185, h186⟩ := OL.get ho155 hu182
      obtain rfl := h186
      refine .dqO (.inN 1 rfl he153 hn154 (.idxO (l := u149.2) 0 rfl rfl rfl hu182 sl22 ty3.sz)) rfl (.takeN 1 rfl he153 hn154 ?_)
      obtain ⟨u187, hu187, r188⟩ := X0 r183
      refine .storeR 0 0 (Q := ri) .d2 rfl rfl ho155 hu187 rfl (.inl ⟨rfl, rfl⟩) rfl ty3 p185 ((Rep.intI .i64 (Int.tmod (w64 ((w64 (u167 + 1)) + u172.1)) v19)) :) rfl rfl (fun cs189 hlcs189 o190 => ?_)
      obtain ⟨u191, hu191, r192⟩ := X0 r188
      refine .backNs (S := shp63) 0 1 rfl rfl rfl o116 he153 hu149 (Eq.trans hlcs189 hn154.symm) o190 hu191 (fun es193 hles193 o194 hmes193 => ?_)
      refine .reval 12 hles193 rfl (.reval 66 hles193 rfl (.reval 72 hles193 rfl (.go 4 ?_)))
      obtain ⟨u195, hu195, r196⟩ := X0 r192
      obtain ⟨c197, p198, h199⟩ := OL.get o118 hu195
      obtain rfl := h199
      refine .q .ro (.idxO 2 rfl rfl rfl hu195 sl174 ty4.sz) rfl ?_
      obtain ⟨u200, hu200, r201⟩ := X0 r196
      refine .storeR 2 0 (Q := Rep.bool) .ro rfl rfl o118 hu200 rfl (.inl ⟨rfl, rfl⟩) rfl ty4 p198 ((Rep.boolI true) :) rfl rfl (fun cs202 hlcs202 o203 => ?_)
      refine .reval 15 hlcs202 rfl (.reval 91 hlcs202 rfl (.go 6 ?_))
      exact (hb102 _ _ ⟨(i103 + 1), xs123, u191, es193, cs107, u200, a109, k110, cs202, u172.2.1, a177, k178, u172.2.2, rfl, rfl, o194, (hles193.trans hl117), o203, s179, (X4 g120), r201⟩ (Nat.lt_succ_self _)).ax ⟨rfl, rfl, (congrArg (fun z => some (Value.int .i64 z)) (X5 (OL.len' o42) g120)), rfl, rfl, rfl, rfl, rfl, rfl, rfl, trivial⟩
     ·refine .go 6 ?_
      refine .kR (fun y => y = ⟨[(103, .bool (decide ((x3 ≤ (i103 : Int)) ∧ ((i103 : Int) < (w64 (x3 + x4))))))], G32 :: Fs, [], []⟩) [(12, _), (15, _), (43, _), (0, _), (2, _), (3, _), (4, _), (6, _), (41, _), (42, _), (17, _)] [_, _] [0, 1] [_, _, _, _] [0, 1, 2, 3] 6 ?_ ?_
      ·rintro _ rfl
       refine .gn 1 ?_
       refine .cH r133 (fun c204 r205 => ?_) (fun c204 r206 => ?_)
       ·refine .go 3 ?_
        refine .q .ro (.build [_, _] [] ty63 pl63 rfl rfl) rfl ?_
        obtain ⟨u207, hu207, r208⟩ := X0 r205
        obtain ⟨e209, c210, he211, hn212, ho213, p214, h215⟩ := NS.get o116 hu207
        obtain ⟨_, _, rfl, rfl, rfl⟩ := h215
        refine .q .ro (.idxO 0 rfl rfl rfl hu207 sl60 ty63.sz) rfl (.own_nil 3 1 (.takeN 2 rfl he211 hn212 (.drop 0 1 _ [_, _, _, _, _] rfl rfl ?_)))
        obtain ⟨u216, hu216, r217⟩ := X0 r208
        refine .storeNs (S := shp63) (s' := (false, ([] : List Int))) 0 1 .ro rfl rfl rfl rfl o116 he211 rfl (OL.nil (Rp' := ri)) hu216 rfl (.inl ⟨rfl, rfl⟩) rfl ty63 p214 ((Rep.pairI (Rep.boolI false) (show Rep.hdr.r G32 [.slice none ([] : List Int).length 0] (none, ([] : List Int).length, 0) from rfl)) :) rfl rfl rfl (fun es218 cs219 hlcs219 o220 => ?_)
        refine .reval 12 hlcs219 rfl (.reval 104 hlcs219 rfl (.go 6 ?_))
        exact (hb102 _ _ ⟨(i103 + 1), xs123, u216, es218, cs219, v108, a109, k110, cs111, v112, a113, k114, v115, rfl, rfl, o220, (hlcs219.trans hl117), o118, s119, (X4 g120), r217⟩ (Nat.lt_succ_self _)).ax ⟨rfl, rfl, (congrArg (fun z => some (Value.int .i64 z)) (X5 (OL.len' o42) g120)), rfl, rfl, rfl, rfl, rfl, rfl, rfl, trivial⟩
       ·refine .go 6 ?_
        exact (hb102 _ _ ⟨(i103 + 1), xs123, v105, es106, cs107, v108, a109, k110, cs111, v112, a113, k114, v115, rfl, rfl, o116, hl117, o118, s119, (X4 g120), r206⟩ (Nat.lt_succ_self _)).ax ⟨rfl, rfl, (congrArg (fun z => some (Value.int .i64 z)) (X5 (OL.len' o42) g120)), rfl, rfl, rfl, rfl, rfl, rfl, rfl, trivial⟩
      ·intro hb221
       refine .split 97 rfl (fun c222 => ?_) (fun c222 => ?_)
       ·refine .go 11 ?_
        exact (hb221 _ rfl).ax ⟨X93 c222, rfl, rfl, rfl, rfl, rfl, rfl, rfl, rfl, rfl, rfl, rfl, trivial⟩
       ·refine .go 6 ?_
        exact (hb221 _ rfl).ax ⟨X94 c222, rfl, rfl, rfl, rfl, rfl, rfl, rfl, rfl, rfl, rfl, rfl, trivial⟩
    ·intro hb223
     refine .split 51 rfl (fun c224 => ?_) (fun c224 => ?_)
     ·have r225 := ifT h129 c224
      refine .go 5 ?_
      obtain ⟨u226, hu226, r227⟩ := X0 r225
      obtain ⟨c228, p229, h230⟩ := SlR.get (SlR.mono e33 s2) hu226
      obtain ⟨a231, k232, rfl, s233⟩ := h230
      refine .q .ro (.idxR (SlR.mono e33 s2) rfl rfl hu226 sl51 ty22.sz) rfl (.go 1 ?_)
      refine .q .ro (.load_rp p229 mcs rfl ty22 rfl) rfl (.go 5 ?_)
      exact (hb223 _ rfl).ax ⟨sval r227, rfl, rfl, rfl, rfl, rfl, rfl, rfl, rfl, rfl, rfl, rfl, rfl, trivial⟩
     ·have r234 := ifF h129 c224
      refine .go 7 ?_
      exact (hb223 _ rfl).ax ⟨sval r234, rfl, rfl, rfl, rfl, rfl, rfl, rfl, rfl, rfl, rfl, rfl, rfl, trivial⟩
 ·intro hb235
  refine .block (.packE 3 1 (.own_nil 63 2 (.pullS 1 rfl [_, _] rfl (.pullS 1 rfl [_, _] rfl ?_))))
  refine .lp (fun y m => ∃ (Z0 : Nat) (Z1 : List (List Int)) (Z2 : List (Bool × (List Int))) (Z3 : _) (Z4 : Nat) (Z5 Z6 : _), y = ⟨[(12, .slice Z3 Z2.length Z4), (24, .int .i64 (Z0 : Int))], [], [], [.s (.slice Z3 Z2.length Z4) 63 2 Z2.length Z6, .g (packG 3 1 Z5)]⟩ ∧ Z1.length = m ∧ NS shp63 ri shE63 G Z5 Z6 Z2 ∧ List.drop Z0 x2 = Z1 ∧ X3f (X45 x2 x3 x4 x0_0) x1_0 x0_1 Z1 Z2 = some r) [(0, _), (2, _), (3, _), (4, _), (6, _), (22, _), (23, _)] [_, _] [] ⟨0, x2, ([] : List (Bool × (List Int))), none, 0, [], [], rfl, rfl, (NS.nil (S := shp63) (Q := ri) (E := shE63)), rfl, h⟩ (fun y m hI hb236 => ?_)
  obtain ⟨i237, w238, v239, a240, k241, es242, cs243, rfl, rfl, o244, g245, r246⟩ := hI
  refine .gn 0 ?_
  cases w238 with
  | nil =>
   rw [X3f] at r246; try dsimp only at r246
   refine .go 5 ?_
   refine .cond_dec rfl (fun c => absurd c (Xl g245)) (fun _ => ?_)
   refine .exit rfl ?_
   exact (hb235 _ ⟨v239, a240, k241, es242, cs243, x1_0, x0_1, rfl, o244, r246⟩).ar
  | cons x247 xs248 =>
   have r249 : X80 (X45 x2 x3 x4 x0_0) x1_0 x0_1 (X3f (X45 x2 x3 x4 x0_0) x1_0 x0_1 xs248) x247 v239 = some r := r246; clear r246; unfold X80 at r249; try dsimp only at r249
   refine .go 5 ?_
   refine .cond_dec rfl (fun _ => ?_) (fun c => absurd (X15 g245) c)
   refine .go 2 ?_
   refine .block (.go 2 ?_)
   obtain ⟨c250, p251, h252⟩ := SlR.get s2 (X3 g245)
   obtain ⟨a253, k254, rfl, s255⟩ := h252
   refine .q .ro (.idxR s2 rfl rfl (X3 g245) sl51 ty22.sz) rfl (.q .ro (.load_rp p251 mcs rfl ty22 rfl) rfl (.go 5 ?_))
   refine .own_nil 3 1 ?_
   obtain ⟨u256, hu256, r257⟩ := X0 r249
   refine .appR (Q := ri) 0 .ro sl22 ty3 rfl rfl rfl rfl rfl (OL.nil (Rp' := ri)) rfl rfl s255 rfl mcs hu256 rfl (fun a258 k259 cs260 o261 => ?_)
   refine .q .ro (.build [_, _] [(0, _), (1, _)] ty63 pl63 rfl rfl) rfl ?_
   refine .lit [_, _] [(0, _)] .ro sl60 ty63 rfl rfl rfl rfl rfl rfl (fun b262 hb262 => ?_)
   have o263 : NS shp63 ri shE63 G [⟨a258, u256.length, k259, cs260⟩] [.bool true, .slice a258 u256.length k259] ([(true, u256)] : List (Bool × (List Int))) := (NS.one (S := shp63) (E := shE63) (s := (true, u256)) (l := u256) (Rep.pairI (Rep.boolI true) (show Rep.hdr.r G [.slice a258 u256.length k259] (a258, u256.length, k259) from rfl)) rfl o261 :)
   refine .pullS 1 rfl [_, _, _, _] rfl (.pack1 rfl (.reval 32 (n' := ([(true, u256)] : List (Bool × (List Int))).length) rfl rfl ?_))
   obtain ⟨u264, hu264, r265⟩ := X0 r257
   refine .pullS 1 rfl [_, _, _, _] rfl ?_
   refine .appNs (S := shp63) 0 1 .ro sl60 ty63 rfl rfl rfl rfl rfl rfl rfl rfl o244 o263 rfl rfl hu264 rfl B0 (fun a266 k267 cs268 o269 => ?_)
   refine .go 7 ?_
   exact (hb236 _ _ ⟨(i237 + 1), xs248, u264, a266, k267, (es242 ++ [⟨a258, u256.length, k259, cs260⟩]), cs268, rfl, rfl, o269, (X4 g245), r265⟩ (Nat.lt_succ_self _)).ax ⟨rfl, (congrArg (fun z => some (Value.int .i64 z)) (X5 (SlR.len s2) g245)), rfl, rfl, rfl, rfl, rfl, rfl, rfl, trivial⟩
theorem Xjc {x0_0 : List Int} {x0_1 : Int} {x1_0 : Int} {x2_0 : Int} {x2_1 : Int} {x3 : Int} {x4 : List (List Int)} {x5 : Int} {x6 : Int} {x7 : Int} {r : (((List Int) × (List Int)) × (List Int) × Bool × ((List Int) × Int))} (hG : G ∈ Fs) (hg0 : Rp G (.pointer (some ⟨0, 0, none⟩)) [ifc233 (some 12)]) (s0_0 : SlR ri G a0_0 k0_0 x0_0) (s4 : SlR (Rep.sl ri) G a4 k4 x4) (h : Xca (x0_0, x0_1) x1_0 (x2_0, x2_1) x3 x4 x5 x6 x7 = some r) : RetW Tryz.prog 25 #[.pointer (some ⟨p0, 0, none⟩), .agg #[.int .i64 x1_0], .agg #[.int .i64 x2_0, .int .i64 x2_1], .int .i64 x3, .slice a4 x4.length k4, .int .i64 x5, .int .i64 x6, .int .i64 x7] Fs [(p0, .cells #[.slice a0_0 x0_0.length k0_0, .int .i64 x0_1] 121 (0, 0))] [] (fun v bo so G => ∃ a0 : Option Addr, ∃ k0 : Nat, ∃ a1 : Option Addr, ∃ k1 : Nat, ∃ a2 : Option Addr, ∃ k2 : Nat, ∃ a3 : Option Addr, ∃ k3 : Nat, v = .tuple #[.agg #[.slice a0 r.1.1.length k0, .slice a1 r.1.2.length k1], .slice a2 r.2.1.length k2, .bool r.2.2.1] ∧ bo = [(p0, .cells #[.slice a3 r.2.2.2.1.length k3, .int .i64 r.2.2.2.2] 121 (0, 0))] ∧ so = [] ∧ SlR ri G a0 k0 r.1.1 ∧ SlR ri G a1 k1 r.1.2 ∧ SlR ri G a2 k2 r.2.1 ∧ SlR ri G a3 k3 r.2.2.2.1) := by
 unfold Xca at h
 try dsimp only at h
 refine RetW.st [(0, _), (1, _), (2, _), (3, _), (4, _), (5, _), (6, _), (7, _)] Tryz.func25 Tryz.ntmps25 hG fun w0 S0 hS0 B0 => ?_
 refine .go 2 ?_
 refine .box [_] .ro rfl rfl rfl (fun b1 hb1 => ?_)
 refine .box [_, _] .ro rfl rfl rfl (fun b2 hb2 => ?_)
 refine .alloc .ro ty65 rfl (fun b3 hb3 => ?_)
 refine .go 5 ?_
 refine .q .ro (.load_own_a 2 [_] rfl rfl ty45 rfl) rfl (.q .ro (.load_own_a 1 [_, _] rfl rfl ty69 rfl) rfl (.go 2 ?_))
 obtain ⟨u4, hu4, r5⟩ := X0 h
 refine .cS [_, _, _] Tryz.call74 (Xev mcs  hu4) (fun v7 bo so h6 => ?_)
 obtain ⟨a9, k10, cs11, rfl, rfl, rfl, o12⟩ := h6
 refine .gn 7 ?_
 refine .kG (fun y => ∃ (Z0 : _) (Z1 : List (List Int)) (Z2 : _) (Z3 : Nat) (Z4 : _) (Z5 : List Int) (Z6 : _) (Z7 : Nat) (Z8 : _), y = ⟨[(21, .slice Z2 Z1.length Z3), (23, .int .i64 Z4)], Z0 :: Fs, [(p0, .cells #[.slice Z6 Z5.length Z7, .int .i64 Z8] 121 (0, 0))], []⟩ ∧ HpLe G Z0 ∧ Bd w0 S0 Fs Z0 ∧ SlR (Rep.sl ri) Z0 Z2 Z3 Z1 ∧ SlR ri Z0 Z6 Z7 Z5 ∧ (Xay x3 x4 x6 x7 u4.2 x2_0 x2_1 x1_0) Z1 Z4 Z5 Z8 = some r) [(0, _), (3, _), (4, _), (6, _), (7, _), (9, _), (10, _), (16, _), (20, _)] [_, _, _] [0, 1, 2] [] [] ?_ ?_
 ·rintro _ ⟨G13, v14, a15, k16, v17, v18, a19, k20, v21, rfl, e24, B26, s27, s28, r29⟩
  refine .gn 0 ?_
  unfold Xay at r29
  try dsimp only at r29
  refine .go 6 ?_
  refine .kR (fun y => y = ⟨[(59, .bool (decide ((u4.2 ≠ 0) ∨ (v17 ≠ 0))))], G13 :: Fs, [], []⟩) [(21, _), (0, _), (3, _), (4, _), (6, _), (7, _), (9, _), (10, _), (16, _)] [_, _, _, _] [0, 1, 2, 3] [] [] 3 ?_ ?_
  ·rintro _ rfl
   refine .gn 1 ?_
   refine .cH r29 (fun c30 r31 => ?_) (fun c30 r32 => ?_)
   ·refine .go 2 ?_
    refine .q .ro (.build [_, _] [] ty65 pl65 rfl rfl) rfl (.store 1 [_, _] [_, _, _, _] .ro rfl rfl rfl ty65 rfl rfl rfl rfl (.go 3 ?_))
    cases r31
    refine .pull 3 rfl [_, _, _, _] rfl (.pull 3 rfl [_, _, _, _] rfl (.pull 3 rfl [_, _, _, _] rfl ?_))
    refine .rW 3 [.cell 16 65, .tmp 17, .tmp 18] [_, _, _] Tryz.func25 Tryz.results25 ⟨RV.cell_a 0 [_, _] rfl rfl ty65 rfl, RV.tmp rfl, RV.tmp rfl, trivial⟩ B26 hS0 (fun G' hg => ⟨none, 0, none, 0, none, 0, a19, k20, rfl, rfl, rfl, (SlR.mono hg (SlR.nil (Rp' := ri))), (SlR.mono hg (SlR.nil (Rp' := ri))), (SlR.mono hg (SlR.nil (Rp' := ri))), (SlR.mono hg s28)⟩)
   ·refine .go 12 ?_
    refine .kB (fun y => ∃ (Z0 : _) (Z1 : List (List Int)) (Z2 : _) (Z3 : Nat) (Z4 : _), y = ⟨[(24, .slice Z2 Z1.length Z3)], Z0 :: Fs, [], [.s (.slice Z2 Z1.length Z3) 22 1 Z1.length Z4]⟩ ∧ HpLe G13 Z0 ∧ Bd w0 S0 Fs Z0 ∧ OL (Rep.sl ri) Z0 Z4 Z1 ∧ (X70 x3 x6 x7 v18 v21 x2_0 x2_1 x1_0) Z1 = some r) [(0, _), (3, _), (6, _), (7, _), (9, _), (10, _), (16, _)] [_, _, _, _] [0, 1, 2, 3] [] [] ?_ ?_
    ·rintro _ ⟨G33, v34, a35, k36, cs37, rfl, e38, B39, o40, r41⟩
     refine .gn 0 ?_
     unfold X70 at r41
     try dsimp only at r41
     refine .go 3 ?_
     refine .q .ro (.load_own_a 3 [_] rfl rfl ty45 rfl) rfl (.go 3 ?_)
     refine .freezeR 0 rfl rfl o40 [] rfl B39 (fun G42 e43 B44 s46 => ?_)
     obtain ⟨u47, hu47, r48⟩ := X0 r41
     refine .callW (b1 := [_]) (b2 := [_, _, _]) (s1 := []) [_, _, _, _, _] [] .ro rfl rfl Tryz.call75 rfl rfl (Xew mcs (SlR.mono (HpLe.trans e38 e43) s28) s46 hu47) rfl B44 (fun v52 bo so G53 e54 B55 h57 => ?_)
     obtain ⟨a58, k59, a60, k61, a62, k63, rfl, rfl, rfl, s66, s67, s68⟩ := h57
     refine .gn 8 ?_
     refine .q .ro (.load_own_a 3 [_] rfl rfl ty45 rfl) rfl (.q .ro (.load_own_a 2 [_, _] rfl rfl ty69 rfl) rfl (.go 2 ?_))
     obtain ⟨u70, hu70, r71⟩ := X0 r48
     refine .cW [_, _, _, _] Tryz.call50 (Xc1 mcs (Rp.mono (HpLe.trans (HpLe.trans (HpLe.trans e24 e38) e43) e54) hg0) s66 hu70) B55 (fun v72 bo so G73 e76 B77 h78 => ?_)
     obtain ⟨a79, k80, a81, k82, rfl, rfl, rfl, s83, s84⟩ := h78
     refine .gn 3 ?_
     refine .alloc .ro ty65 rfl (fun b85 hb85 => ?_)
     refine .store 0 [_, _] [_, _, _, _, _] .ro rfl rfl rfl ty65 rfl rfl rfl rfl (.go 4 ?_)
     refine .q .ro (.load_own_a 0 [_, _] rfl rfl ty65 rfl) rfl (.go 3 ?_)
     refine .store 2 [_, _] [_, _, _, _, _] .ro rfl rfl rfl ty65 rfl rfl rfl rfl (.go 3 ?_)
     cases r71
     refine .pull 1 rfl [_, _, _, _, _] rfl (.pull 4 rfl [_, _, _, _, _] rfl (.pull 4 rfl [_, _, _, _, _] rfl (.pull 4 rfl [_, _, _, _, _] rfl (.pull 4 rfl [_, _, _, _, _] rfl ?_))))
     refine .rW 4 [.cell 16 65, .tmp 17, .tmp 18] [_, _, _] Tryz.func25 Tryz.results25 ⟨RV.cell_a 1 [_, _] rfl rfl ty65 rfl, RV.tmp rfl, RV.tmp rfl, trivial⟩ B77 hS0 (fun G' hg => ⟨a79, k80, a81, k82, a60, k61, a62, k63, rfl, rfl, rfl, (SlR.mono hg s83), (SlR.mono hg s84), (SlR.mono hg (SlR.mono e76 s67)), (SlR.mono hg (SlR.mono e76 s68))⟩)
    ·intro hb86
     refine .block (.own_nil 22 1 ?_)
     refine .lp (fun y m => ∃ (Z0 : Nat) (Z1 : List (List Int)) (Z2 : _) (Z3 : List (List Int)) (Z4 : _) (Z5 : Nat) (Z6 : _), y = ⟨[(24, .slice Z4 Z3.length Z5), (63, .int .i64 (Z0 : Int))], [Z2], [], [.s (.slice Z4 Z3.length Z5) 22 1 Z3.length Z6]⟩ ∧ Z1.length = m ∧ HpLe G13 Z2 ∧ Bd w0 S0 Fs Z2 ∧ OL (Rep.sl ri) Z2 Z6 Z3 ∧ List.drop Z0 v14 = Z1 ∧ X69 (X70 x3 x6 x7 v18 v21 x2_0 x2_1 x1_0) x3 x4 v18 v21 x1_0 Z1 Z3 = some r) [(0, _), (3, _), (4, _), (6, _), (7, _), (9, _), (10, _), (16, _), (61, _), (62, _)] [_, _, _, _] [] ⟨0, v14, G13, ([] : List (List Int)), none, 0, [], rfl, rfl, (HpLe.refl _), B26, (OL.nil (Rp' := (Rep.sl ri))), rfl, r32⟩ (fun y m hI hb87 => ?_)
     obtain ⟨i88, w89, G90, v91, a92, k93, cs94, rfl, rfl, e95, B96, o97, g98, r99⟩ := hI
     refine .gn 0 ?_
     cases w89 with
     | nil =>
      rw [X69] at r99; try dsimp only at r99
      refine .go 5 ?_
      refine .cond_dec rfl (fun c => absurd c (Xl g98)) (fun _ => ?_)
      refine .exit rfl ?_
      exact (hb86 _ ⟨G90, v91, a92, k93, cs94, rfl, e95, B96, o97, r99⟩).ar
     | cons x100 xs101 =>
      have r102 : Xax (X70 x3 x6 x7 v18 v21 x2_0 x2_1 x1_0) x3 x4 v18 v21 x1_0 (X69 (X70 x3 x6 x7 v18 v21 x2_0 x2_1 x1_0) x3 x4 v18 v21 x1_0 xs101) x100 v91 = some r := r99; clear r99; unfold Xax at r102; try dsimp only at r102
      refine .go 5 ?_
      refine .cond_dec rfl (fun _ => ?_) (fun c => absurd (X15 g98) c)
      refine .go 2 ?_
      refine .block (.go 2 ?_)
      obtain ⟨c103, p104, h105⟩ := SlR.get (SlR.mono e95 s27) (X3 g98)
      obtain ⟨a106, k107, rfl, s108⟩ := h105
      refine .q .ro (.idxR (SlR.mono e95 s27) rfl rfl (X3 g98) sl51 ty22.sz) rfl (.q .ro (.load_rp p104 mcs rfl ty22 rfl) rfl (.go 4 ?_))
      refine .q .ro (.load_own_a 3 [_] rfl rfl ty45 rfl) rfl (.go 3 ?_)
      obtain ⟨u109, hu109, r110⟩ := X0 r102
      refine .cS [_, _, _, _] Tryz.call23 (X9x mcs (SlR.mono (HpLe.trans e24 e95) s4) s108 hu109) (fun v111 bo so h112 => ?_)
      obtain ⟨a113, k114, cs115, rfl, rfl, rfl, o116⟩ := h112
      refine .gn 12 ?_
      refine .cH r110 (fun c117 r118 => ?_) (fun c117 r119 => ?_)
      ·refine .go 2 ?_
       refine .q .ro (.build [_, _] [] ty65 pl65 rfl rfl) rfl (.store 1 [_, _] [_, _, _, _] .ro rfl rfl rfl ty65 rfl rfl rfl rfl (.go 3 ?_))
       cases r118
       refine .drop 0 2 _ [] rfl rfl (.pull 3 rfl [_, _, _, _] rfl (.pull 3 rfl [_, _, _, _] rfl (.pull 3 rfl [_, _, _, _] rfl ?_)))
       refine .rW 3 [.cell 16 65, .tmp 17, .tmp 18] [_, _, _] Tryz.func25 Tryz.results25 ⟨RV.cell_a 0 [_, _] rfl rfl ty65 rfl, RV.tmp rfl, RV.tmp rfl, trivial⟩ B96 hS0 (fun G' hg => ⟨none, 0, none, 0, none, 0, a19, k20, rfl, rfl, rfl, (SlR.mono hg (SlR.nil (Rp' := ri))), (SlR.mono hg (SlR.nil (Rp' := ri))), (SlR.mono hg (SlR.nil (Rp' := ri))), (SlR.mono hg (SlR.mono e95 s28))⟩)
      ·refine .go 4 ?_
       refine .freezeR 0 rfl rfl o116 [_] rfl B96 (fun G120 e121 B122 s123 => ?_)
       refine .lit [_] [(0, _)] .ro sl51 ty22 rfl rfl rfl rfl rfl rfl (fun b124 hb124 => ?_)
       have o125 : OL (Rep.sl ri) G120 [.slice a113 u109.1.length k114] ([u109.1] : List (List Int)) := ((OL.cons rfl (Rep.slI s123) (OL.nil (Rp' := (Rep.sl ri)))) :)
       refine .reval 80 (n' := ([u109.1] : List (List Int)).length) rfl rfl ?_
       obtain ⟨u126, hu126, r127⟩ := X0 r119
       refine .appO (Q := (Rep.sl ri)) 0 .ro sl51 ty22 rfl rfl rfl rfl rfl rfl (OL.mono e121 o97) o125 rfl rfl rfl B122 hu126 rfl (fun a128 k129 cs130 o131 => ?_)
       refine .go 7 ?_
       exact (hb87 _ _ ⟨(i88 + 1), xs101, G120, u126, a128, k129, cs130, rfl, rfl, (HpLe.trans e95 e121), B122, o131, (X4 g98), r127⟩ (Nat.lt_succ_self _)).ax ⟨rfl, (congrArg (fun z => some (Value.int .i64 z)) (X5 (SlR.len s27) g98)), rfl, rfl, rfl, rfl, rfl, rfl, rfl, rfl, rfl, rfl, trivial⟩
  ·intro hb132
   refine .split 56 rfl (fun c133 => ?_) (fun c133 => ?_)
   ·refine .go 3 ?_
    exact (hb132 _ rfl).ax ⟨X4y c133, rfl, rfl, rfl, rfl, rfl, rfl, rfl, rfl, rfl, trivial⟩
   ·refine .go 5 ?_
    exact (hb132 _ rfl).ax ⟨X4z c133, rfl, rfl, rfl, rfl, rfl, rfl, rfl, rfl, rfl, trivial⟩
 ·intro hb134
  refine .freezeR 0 rfl rfl o12 [] rfl B0 (fun G135 e136 B137 s138 => ?_)
  refine .drawL (.q 0 (.q 1 (.q 2 (.q 3 (.q 4 (.q 5 (.q 6 (.alt (.e 7 1 (.alt (.e 8 1 (.q 9 (.q 10 (.q 11 (.q 12 (.e 13 1 (.q 14 (.e 15 1 (.q 16 .nil))))))))) (.e 13 1 (.e 8 1 (.q 9 (.q 10 (.q 11 (.q 12 (.q 14 (.e 15 1 (.q 16 .nil))))))))))) (.e 13 1 (.e 7 1 (.e 8 1 (.q 9 (.q 10 (.q 11 (.q 12 (.q 14 (.e 15 1 (.q 16 .nil)))))))))))))))))) [_, _, _] (by kernel_rfl) (by kernel_rfl) (X1 [0, 1, 2] rfl) ?_
  obtain ⟨u139, hu139, r140⟩ := X0 r5
  obtain ⟨u141, hu141, r142⟩ := X0 r140
  refine .dq (.load_own_a 2 [_] rfl rfl ty45 rfl) rfl (.dq (.load_own_a 1 [_, _] rfl rfl ty69 rfl) rfl (.go 5 ?_))
  refine .alt ?_ ?_
  ·refine .pull 3 rfl [_, _, _, _] rfl ?_
   refine .callW (b1 := [_]) (b2 := [_, _, _]) (s1 := []) [_, _] [] .d1 rfl rfl Tryz.call22 rfl rfl (Xe8 mcs (SlR.mono e136 s0_0) s138 hu139) rfl B137 (fun v143 bo so G144 e145 B146 h147 => ?_)
   obtain ⟨a148, k149, a150, k151, rfl, rfl, rfl, s152, s153⟩ := h147
   refine .gn 0 ?_
   refine .clsL e145 (X1 [1, 2, 3] rfl) ?_
   refine .alt ?_ ?_
   ·refine .callW (b1 := []) (b2 := [_, _, _, _]) (s1 := []) [_, _, _, _, _] [] .d1 rfl rfl Tryz.call49 rfl rfl (X86 mcs s152 hu141) rfl B146 (fun v154 bo so G155 e156 B157 h158 => ?_)
    obtain ⟨a159, k160, a161, k162, rfl, rfl, rfl, s163, s164⟩ := h158
    refine .gn 0 ?_
    refine .clsL (HpLe.trans e145 e156) (X1 [1, 2, 3] rfl) (.go 4 ?_)
    refine .alloc .d1 ty56 rfl (fun b165 hb165 => ?_)
    refine .clsL (HpLe.trans e145 e156) (X1 [2, 3, 4] rfl) (.go 1 ?_)
    refine .store 0 [_, _] [_, _, _, _, _] .d1 rfl rfl rfl ty56 rfl rfl rfl rfl (.clsL (HpLe.trans e145 e156) (X1 [2, 3, 4] rfl) (.go 2 ?_))
    refine .drop 1 0 [_, _, _, _] _ rfl rfl ?_
    exact (hb134 _ ⟨G155, u141.1, a159, k160, u141.2.2, u139.2.1, a150, k151, u139.2.2, rfl, (HpLe.trans (HpLe.trans e136 e145) e156), B157, s163, (SlR.mono e156 s153), r142⟩).ar
   ·refine .alloc .d1 ty56 rfl (fun b166 hb166 => ?_)
    refine .clsL e145 (X1 [2, 3, 4] rfl) ?_
    refine .callW (b1 := []) (b2 := [_, _, _, _, _]) (s1 := []) [_, _, _, _, _] [] .d1 rfl rfl Tryz.call49 rfl rfl (X86 mcs s152 hu141) rfl B146 (fun v167 bo so G168 e169 B170 h171 => ?_)
    obtain ⟨a172, k173, a174, k175, rfl, rfl, rfl, s176, s177⟩ := h171
    refine .gn 0 ?_
    refine .clsL (HpLe.trans e145 e169) (X1 [2, 3, 4] rfl) (.go 5 ?_)
    refine .store 0 [_, _] [_, _, _, _, _] .d1 rfl rfl rfl ty56 rfl rfl rfl rfl (.clsL (HpLe.trans e145 e169) (X1 [2, 3, 4] rfl) (.go 2 ?_))
    refine .drop 1 0 [_, _, _, _] _ rfl rfl ?_
    exact (hb134 _ ⟨G168, u141.1, a172, k173, u141.2.2, u139.2.1, a150, k151, u139.2.2, rfl, (HpLe.trans (HpLe.trans e136 e145) e169), B170, s176, (SlR.mono e169 s153), r142⟩).ar
  ·refine .alloc .d1 ty56 rfl (fun b178 hb178 => ?_)
   refine .clsL (HpLe.refl _) (X1 [1, 2, 3] rfl) (.pull 4 rfl [_, _, _, _, _] rfl ?_)
   refine .callW (b1 := [_]) (b2 := [_, _, _, _]) (s1 := []) [_, _] [] .d1 rfl rfl Tryz.call22 rfl rfl (Xe8 mcs (SlR.mono e136 s0_0) s138 hu139) rfl B137 (fun v179 bo so G180 e181 B182 h183 => ?_)
   obtain ⟨a184, k185, a186, k187, rfl, rfl, rfl, s188, s189⟩ := h183
   refine .gn 0 ?_
   refine .clsL e181 (X1 [2, 3, 4] rfl) ?_
   refine .callW (b1 := []) (b2 := [_, _, _, _, _]) (s1 := []) [_, _, _, _, _] [] .d1 rfl rfl Tryz.call49 rfl rfl (X86 mcs s188 hu141) rfl B182 (fun v190 bo so G191 e192 B193 h194 => ?_)
   obtain ⟨a195, k196, a197, k198, rfl, rfl, rfl, s199, s200⟩ := h194
   refine .gn 0 ?_
   refine .clsL (HpLe.trans e181 e192) (X1 [2, 3, 4] rfl) (.go 5 ?_)
   refine .store 1 [_, _] [_, _, _, _, _] .d1 rfl rfl rfl ty56 rfl rfl rfl rfl (.clsL (HpLe.trans e181 e192) (X1 [2, 3, 4] rfl) (.go 2 ?_))
   refine .pull 4 rfl [_, _, _, _, _] rfl (.pull 4 rfl [_, _, _, _, _] rfl (.pull 4 rfl [_, _, _, _, _] rfl (.pull 3 rfl [_, _, _, _, _] rfl (.pull 4 rfl [_, _, _, _, _] rfl (.drop 1 0 [_, _, _, _] _ rfl rfl ?_)))))
   exact (hb134 _ ⟨G191, u141.1, a195, k196, u141.2.2, u139.2.1, a186, k187, u139.2.2, rfl, (HpLe.trans (HpLe.trans e136 e181) e192), B193, s199, (SlR.mono e192 s189), r142⟩).ar
theorem Xjd {x0_0 : List Int} {x0_1 : Int} {x1 : Int} {r : (Int × ((List Int) × Int))} (hG : G ∈ Fs) (s0_0 : SlR ri G a0_0 k0_0 x0_0) (h : Xcb (x0_0, x0_1) x1 = some r) : RetW Tryz.prog 61 #[.pointer (some ⟨p0, 0, none⟩), .int .i64 x1] Fs [(p0, .cells #[.slice a0_0 x0_0.length k0_0, .int .i64 x0_1] 121 (0, 0))] [] (fun v bo so G => ∃ a0 : Option Addr, ∃ k0 : Nat, v = .agg #[.int .i64 r.1] ∧ bo = [(p0, .cells #[.slice a0 r.2.1.length k0, .int .i64 r.2.2] 121 (0, 0))] ∧ so = [] ∧ SlR ri G a0 k0 r.2.1) := by
 unfold Xcb at h
 try dsimp only at h
 refine RetW.st [(0, _), (1, _)] Tryz.func61 Tryz.ntmps61 hG fun w0 S0 hS0 B0 => ?_
 refine .go 2 ?_
 refine .alloc .ro ty45 rfl (fun b1 hb1 => ?_)
 refine .go 3 ?_
 refine .lit [_, _, _, _, _, _, _, _, _] [(0, _), (1, _), (2, _), (3, _), (4, _), (5, _), (6, _), (7, _), (8, _)] .ro sl22 ty3 rfl rfl rfl rfl rfl rfl (fun b2 hb2 => ?_)
 have o3 : OL ri G [.int .i64 2, .int .i64 3, .int .i64 5, .int .i64 7, .int .i64 11, .int .i64 13, .int .i64 17, .int .i64 257, .int .i64 65521] ([2, 3, 5, 7, 11, 13, 17, 257, 65521] : List Int) := ((OL.cons rfl (Rep.intI .i64 2) (OL.cons rfl (Rep.intI .i64 3) (OL.cons rfl (Rep.intI .i64 5) (OL.cons rfl (Rep.intI .i64 7) (OL.cons rfl (Rep.intI .i64 11) (OL.cons rfl (Rep.intI .i64 13) (OL.cons rfl (Rep.intI .i64 17) (OL.cons rfl (Rep.intI .i64 257) (OL.cons rfl (Rep.intI .i64 65521) (OL.nil (Rp' := ri))))))))))) :)
 refine .reval 6 (n' := ([2, 3, 5, 7, 11, 13, 17, 257, 65521] : List Int).length) rfl rfl (.go 3 ?_)
 refine .kB (fun y => ∃ (Z0 : _) (Z1 : List Int) (Z2 : _) (Z3 : Nat) (Z4 Z5 : _), y = ⟨[(5, .slice Z2 Z1.length Z3)], Z0 :: Fs, [(b1, .cells #[.int .i64 Z4] 45 (0, 0)), (p0, .cells #[.slice a0_0 x0_0.length k0_0, .int .i64 Z5] 121 (0, 0))], []⟩ ∧ HpLe G Z0 ∧ Bd w0 S0 Fs Z0 ∧ SlR ri Z0 Z2 Z3 Z1 ∧ (X6a x0_0) Z1 Z4 Z5 = some r) [(0, _), (4, _)] [] [] [] [] ?_ ?_
 ·rintro _ ⟨G82, v86, a87, k88, v90, v91, rfl, e83, B84, s89, r93⟩
  refine .gn 0 ?_
  unfold X6a at r93
  try dsimp only at r93
  refine .go 6 ?_
  obtain ⟨u95, hu95, r96⟩ := X0 r93
  refine .pull 1 rfl [_, _] rfl ?_
  refine .callS (b1 := [_]) (b2 := [_]) (s1 := []) [_, _] [] .ro rfl rfl Tryz.call18 rfl rfl (X10 mcs (SlR.mono e83 s0_0) hu95) rfl (fun v98 bo so h97 => ?_)
  obtain ⟨a99, k10, rfl, rfl, rfl, s11⟩ := h97
  refine .gn 0 ?_
  obtain ⟨u12, hu12, r13⟩ := X0 r96
  obtain ⟨c14, p15, h16⟩ := SlR.get s89 hu12
  obtain rfl := h16
  refine .q .ro (.idxR s89 rfl rfl hu12 sl22 ty3.sz) rfl (.q .ro (.load_rp p15 mcs rfl ty3 rfl) rfl (.q .ro (.build [_] [(0, _)] ty45 pl45 rfl rfl) rfl (.store 1 [_] [_, _] .ro rfl rfl rfl ty45 rfl rfl rfl rfl (.go 1 ?_))))
  cases r13
  refine .pull 1 rfl [_, _] rfl ?_
  refine .rW 1 [.cell 4 45] [_] Tryz.func61 Tryz.results61 ⟨RV.cell_a 0 [_] rfl rfl ty45 rfl, trivial⟩ B84 hS0 (fun G' hg => ⟨a99, k10, rfl, rfl, rfl, (SlR.mono hg s11)⟩)
 ·intro hb17
  refine .block ?_
  refine .freezeR 0 rfl rfl o3 [] rfl B0 (fun G19 e20 B21 s23 => ?_)
  refine .lp (fun y m => ∃ (Z0 : Nat) (Z1 : List Int) (Z2 : _) (Z3 : Nat), y = ⟨[(5, .slice Z2 Z1.length Z3)], [], [], []⟩ ∧ Z0 = m ∧ SlR ri G19 Z2 Z3 Z1 ∧ X8d (X6a x0_0) x1 x0_1 Z0 Z1 = some r) [(0, _), (1, _), (4, _)] [_, _] [] ⟨big, ([2, 3, 5, 7, 11, 13, 17, 257, 65521] : List Int), (some ⟨b2, 0, none⟩), 9, rfl, rfl, s23, h⟩ (fun y m hI hb24 => ?_)
  obtain ⟨n25, v26, a27, k28, rfl, rfl, s29, r30⟩ := hI
  refine .gn 0 ?_
  obtain ⟨m31, rfl⟩ : ∃ m, n25 = m + 1 := by cases n25 with | zero => exact absurd (show (none : Option _) = some _ from r30) (by simp) | succ m => exact ⟨m, rfl⟩
  have r32 : Xaz (X6a x0_0) x1 x0_1 (X8d (X6a x0_0) x1 x0_1 m31) v26 = some r := r30; clear r30; unfold Xaz at r32; try dsimp only at r32
  refine .go 4 ?_
  obtain ⟨u33, hu33, r34⟩ := X0 r32
  obtain ⟨c35, p36, h37⟩ := SlR.get s29 hu33
  obtain rfl := h37
  refine .q .ro (.idxR s29 rfl rfl hu33 sl22 ty3.sz) rfl (.q .ro (.load_rp p36 mcs rfl ty3 rfl) rfl (.go 3 ?_))
  refine .cH r34 (fun c38 r39 => ?_) (fun c38 r40 => ?_)
  ·refine .go 1 ?_
   refine .block (.go 2 ?_)
   obtain ⟨u41, hu41, r42⟩ := X0 r39
   obtain ⟨a43, k44, h46, s47⟩ := SlR.sub s29 hu41
   refine .q .ro (.sliceR s29 rfl hu41 sl22 ty3.sz (fun h => .yes' rfl h) (fun _ => .no) h46) rfl (.go 3 ?_)
   exact (hb24 _ _ ⟨m31, u41, a43, k44, rfl, rfl, s47, r42⟩ (Nat.lt_succ_self _)).ar
  ·refine .exit rfl ?_
   exact (hb17 _ ⟨G19, v26, a27, k28, 0, x0_1, rfl, e20, B21, s29, r40⟩).ar
theorem Xhm {x0_0 : List Int} {x0_1 : Int} {r : (Int × (Int × Int) × ((List Int) × Int))} (hG : G ∈ Fs) (s0_0 : SlR ri G a0_0 k0_0 x0_0) (h : Xbe (x0_0, x0_1) = some r) : RetW Tryz.prog 37 #[.pointer (some ⟨p0, 0, none⟩)] Fs [(p0, .cells #[.slice a0_0 x0_0.length k0_0, .int .i64 x0_1] 121 (0, 0))] [] (fun v bo so G => ∃ a0 : Option Addr, ∃ k0 : Nat, v = .tuple #[.agg #[.int .i64 r.1], .agg #[.int .i64 r.2.1.1, .int .i64 r.2.1.2]] ∧ bo = [(p0, .cells #[.slice a0 r.2.2.1.length k0, .int .i64 r.2.2.2] 121 (0, 0))] ∧ so = [] ∧ SlR ri G a0 k0 r.2.2.1) := by
 unfold Xbe at h
 try dsimp only at h
 refine RetW.st [(0, _)] Tryz.func37 Tryz.ntmps37 hG fun w0 S0 hS0 B0 => ?_
 refine .go 2 ?_
 refine .alloc .ro ty45 rfl (fun b1 hb1 => ?_)
 refine .alloc .ro ty69 rfl (fun b2 hb2 => ?_)
 refine .go 4 ?_
 obtain ⟨u3, hu3, r4⟩ := X0 h
 refine .pull 2 rfl [_, _, _] rfl ?_
 refine .callS (b1 := [_]) (b2 := [_, _]) (s1 := []) [_, _] [] .ro rfl rfl Tryz.call18 rfl rfl (X10 mcs s0_0 hu3) rfl (fun v6 bo so h5 => ?_)
 obtain ⟨a7, k8, rfl, rfl, rfl, s9⟩ := h5
 refine .gn 1 ?_
 refine .q .ro (.build [_, _] [(0, _)] ty69 pl69 rfl rfl) rfl ?_
 refine .alloc .ro ty69 rfl (fun b10 hb10 => ?_)
 refine .store 0 [_, _] [_, _, _, _] .ro rfl rfl rfl ty69 rfl rfl rfl rfl (.go 7 ?_)
 obtain ⟨u11, hu11, r12⟩ := X0 r4
 refine .pull 1 rfl [_, _, _, _] rfl ?_
 refine .callS (b1 := [_]) (b2 := [_, _, _]) (s1 := []) [_, _] [] .ro rfl rfl Tryz.call18 rfl rfl (X10 mcs s9 hu11) rfl (fun v14 bo so h13 => ?_)
 obtain ⟨a15, k16, rfl, rfl, rfl, s17⟩ := h13
 refine .gn 2 ?_
 refine .store 1 [_, _] [_, _, _, _] .ro rfl rfl rfl ty3 rfl rfl rfl rfl (.go 2 ?_)
 refine .drawL (.q 0 (.q 1 (.q 2 (.q 4 (.e 3 1 (.e 5 1 (.e 6 2 .nil))))))) [_, _] (by kernel_rfl) (by kernel_rfl) (X1 [1, 2] rfl) (.go 3 ?_)
 refine .dq (.load_own_a 0 [_, _] rfl rfl ty69 rfl) rfl ?_
 obtain ⟨u18, hu18, r19⟩ := X0 r12
 refine .callW (b1 := [_]) (b2 := [_, _, _]) (s1 := []) [_, _] [] .d1 rfl rfl Tryz.call61 rfl rfl (Xjd mcs s17 hu18) rfl B0 (fun v21 bo so G22 e23 B24 h20 => ?_)
 obtain ⟨a26, k27, rfl, rfl, rfl, s28⟩ := h20
 refine .gn 0 ?_
 refine .clsL e23 (X1 [1, 2] rfl) (.store 3 [_] [_, _, _, _] .d1 rfl rfl rfl ty45 rfl rfl rfl rfl (.clsL e23 (X1 [1, 2] rfl) (.store 2 [_, _] [_, _, _, _] .d2 rfl rfl rfl ty69 rfl rfl rfl rfl (.go 1 ?_))))
 cases r19
 refine .pull 3 rfl [_, _, _, _] rfl (.pull 3 rfl [_, _, _, _] rfl (.pull 3 rfl [_, _, _, _] rfl ?_))
 refine .rW 3 [.cell 2 45, .cell 3 69] [_, _] Tryz.func37 Tryz.results37 ⟨RV.cell_a 2 [_] rfl rfl ty45 rfl, RV.cell_a 1 [_, _] rfl rfl ty69 rfl, trivial⟩ B24 hS0 (fun G' hg => ⟨a26, k27, rfl, rfl, rfl, (SlR.mono hg s28)⟩)
theorem Xhn {x0_0 : List Int} {x0_1 : Int} {x1 : Int} {r : (ByteArray × ((List Int) × Int))} (hG : G ∈ Fs) (s0_0 : SlR ri G a0_0 k0_0 x0_0) (h : Xbf (x0_0, x0_1) x1 = some r) : RetW Tryz.prog 95 #[.pointer (some ⟨p0, 0, none⟩), .int .i64 x1] Fs [(p0, .cells #[.slice a0_0 x0_0.length k0_0, .int .i64 x0_1] 121 (0, 0))] [] (fun v bo so G => ∃ a0 : Option Addr, ∃ k0 : Nat, v = .string r.1 ∧ bo = [(p0, .cells #[.slice a0 r.2.1.length k0, .int .i64 r.2.2] 121 (0, 0))] ∧ so = [] ∧ SlR ri G a0 k0 r.2.1) := by
 unfold Xbf at h
 try dsimp only at h
 refine RetW.st [(0, _), (1, _)] Tryz.func95 Tryz.ntmps95 hG fun w0 S0 hS0 B0 => ?_
 refine .go 14 ?_
 obtain ⟨u1, hu1, r2⟩ := X0 h
 refine .callS (b1 := [_]) (b2 := []) (s1 := []) [_, _] [] .ro rfl rfl Tryz.call18 rfl rfl (X10 mcs s0_0 hu1) rfl (fun v4 bo so h3 => ?_)
 obtain ⟨a5, k6, rfl, rfl, rfl, s7⟩ := h3
 refine .gn 2 ?_
 refine .kB (fun y => ∃ (Z0 : List Int) (Z1 : _) (Z2 : Nat) (Z3 : _) (Z4 : List Int) (Z5 : _) (Z6 : Nat) (Z7 : _), y = ⟨[(5, .slice Z1 Z0.length Z2)], G :: Fs, [(p0, .cells #[.slice Z5 Z4.length Z6, .int .i64 Z7] 121 (0, 0))], [.s (.slice Z1 Z0.length Z2) 5 1 Z0.length Z3]⟩ ∧ OL (Rep.int .u8) G Z3 Z0 ∧ SlR ri G Z5 Z6 Z4 ∧ X4v Z0 Z4 Z7 = some r) [] [] [] [] [] ?_ ?_
 ·rintro _ ⟨v97, a98, k99, cs10, v11, a12, k13, v14, rfl, o15, s16, r17⟩
  refine .gn 0 ?_
  unfold X4v at r17
  try dsimp only at r17
  refine .go 3 ?_
  refine .freezeR 0 rfl rfl o15 [] rfl B0 (fun G19 e20 B21 s22 => ?_)
  refine .q .ro (.b2s s22 mcs rfl Tryz.underlying123 Tryz.underlying5 Tryz.underlying9) rfl (.go 2 ?_)
  cases r17
  refine .rW 0 [.tmp 4] [_] Tryz.func95 Tryz.results95 ⟨RV.tmp rfl, trivial⟩ B21 hS0 (fun G' hg => ⟨a12, k13, rfl, rfl, rfl, (SlR.mono hg (SlR.mono e20 s16))⟩)
 ·intro hb23
  refine .block (.own_nil 5 1 ?_)
  refine .lp (fun y m => ∃ (Z0 : Nat) (Z1 : List Int) (Z2 : _) (Z3 : Nat) (Z4 Z5 : _) (Z6 : List Int) (Z7 : _) (Z8 : Nat) (Z9 : _), y = ⟨[(5, .slice Z2 Z1.length Z3), (6, .int .i64 Z5)], [], [(p0, .cells #[.slice Z7 Z6.length Z8, .int .i64 Z9] 121 (0, 0))], [.s (.slice Z2 Z1.length Z3) 5 1 Z1.length Z4]⟩ ∧ Z0 = m ∧ OL (Rep.int .u8) G Z4 Z1 ∧ SlR ri G Z7 Z8 Z6 ∧ X77 X4v Z0 Z1 Z5 Z6 Z9 = some r) [(0, _)] [] [] ⟨big, ([] : List Int), none, 0, [], u1.1, u1.2.1, a5, k6, u1.2.2, rfl, rfl, (OL.nil (Rp' := (Rep.int .u8))), s7, r2⟩ (fun y m hI hb24 => ?_)
  obtain ⟨n25, v26, a27, k28, cs29, v30, v31, a32, k33, v34, rfl, rfl, o35, s36, r37⟩ := hI
  refine .gn 0 ?_
  obtain ⟨m38, rfl⟩ : ∃ m, n25 = m + 1 := by cases n25 with | zero => exact absurd (show (none : Option _) = some _ from r37) (by simp) | succ m => exact ⟨m, rfl⟩
  have r39 : X8w X4v (X77 X4v m38) v26 v30 v31 v34 = some r := r37; clear r37; unfold X8w at r39; try dsimp only at r39
  refine .go 6 ?_
  refine .cH r39 (fun c40 r41 => ?_) (fun c40 r42 => ?_)
  ·refine .go 2 ?_
   refine .block (.go 3 ?_)
   obtain ⟨u43, hu43, r44⟩ := X0 r41
   refine .callS (b1 := [_]) (b2 := []) (s1 := []) [_, _] [] .ro rfl rfl Tryz.call18 rfl rfl (X10 mcs s36 hu43) rfl (fun v45 bo so h46 => ?_)
   obtain ⟨a47, k48, rfl, rfl, rfl, s49⟩ := h46
   refine .gn 0 ?_
   refine .q .ro (.convw Tryz.underlying3 Tryz.underlying5 rfl) rfl ?_
   refine .lit [_] [(0, _)] .ro sl123 ty5 rfl rfl rfl rfl rfl rfl (fun b50 hb50 => ?_)
   have o51 : OL (Rep.int .u8) G [.int .u8 (wu8 u43.1)] ([(wu8 u43.1)] : List Int) := ((OL.cons rfl (Rep.intI .u8 (wu8 u43.1)) (OL.nil (Rp' := (Rep.int .u8)))) :)
   refine .reval 19 (n' := ([(wu8 u43.1)] : List Int).length) rfl rfl ?_
   obtain ⟨u52, hu52, r53⟩ := X0 r44
   refine .appO (Q := (Rep.int .u8)) 0 .ro sl123 ty5 rfl rfl rfl rfl rfl rfl o35 o51 rfl rfl rfl B0 hu52 rfl (fun a54 k55 cs56 o57 => ?_)
   refine .go 8 ?_
   exact (hb24 _ _ ⟨m38, u52, a54, k55, cs56, (w64 (v30 - 1)), u43.2.1, a47, k48, u43.2.2, rfl, rfl, o57, s49, r53⟩ (Nat.lt_succ_self _)).ar
  ·refine .exit rfl ?_
   exact (hb23 _ ⟨v26, a27, k28, cs29, v31, a32, k33, v34, rfl, o35, s36, r42⟩).ar
theorem Xex {x0_0 : List Int} {x0_1 : Int} {r : ((List ByteArray) × ((List Int) × Int))} (hG : G ∈ Fs) (s0_0 : SlR ri G a0_0 k0_0 x0_0) (h : X8x (x0_0, x0_1) = some r) : RetW Tryz.prog 38 #[.pointer (some ⟨p0, 0, none⟩)] Fs [(p0, .cells #[.slice a0_0 x0_0.length k0_0, .int .i64 x0_1] 121 (0, 0))] [] (fun v bo so G => ∃ a0 : Option Addr, ∃ k0 : Nat, ∃ (oa0 : Option Addr) (ok0 : Nat) (oc0 : List Value), v = .slice oa0 r.1.length ok0 ∧ bo = [(p0, .cells #[.slice a0 r.2.1.length k0, .int .i64 r.2.2] 121 (0, 0))] ∧ so = [.s (.slice oa0 r.1.length ok0) 9 1 r.1.length oc0] ∧ SlR ri G a0 k0 r.2.1 ∧ OL Rep.str G oc0 r.1) := by
 unfold X8x at h
 try dsimp only at h
 refine RetW.st [(0, _)] Tryz.func38 Tryz.ntmps38 hG fun w0 S0 hS0 B0 => ?_
 refine .go 12 ?_
 obtain ⟨u1, hu1, r2⟩ := X0 h
 refine .callS (b1 := [_]) (b2 := []) (s1 := []) [_, _] [] .ro rfl rfl Tryz.call18 rfl rfl (X10 mcs s0_0 hu1) rfl (fun v4 bo so h3 => ?_)
 obtain ⟨a5, k6, rfl, rfl, rfl, s7⟩ := h3
 refine .gn 2 ?_
 refine .block (.own_nil 9 1 ?_)
 refine .lp (fun y m => ∃ (Z0 : Nat) (Z1 : _) (Z2 : List ByteArray) (Z3 : _) (Z4 : Nat) (Z5 Z6 : _) (Z7 : List Int) (Z8 : _) (Z9 : Nat) (Z10 : _), y = ⟨[(3, .slice Z3 Z2.length Z4), (4, .int .i64 Z6)], [Z1], [(p0, .cells #[.slice Z8 Z7.length Z9, .int .i64 Z10] 121 (0, 0))], [.s (.slice Z3 Z2.length Z4) 9 1 Z2.length Z5]⟩ ∧ Z0 = m ∧ HpLe G Z1 ∧ Bd w0 S0 Fs Z1 ∧ OL Rep.str Z1 Z5 Z2 ∧ SlR ri Z1 Z8 Z9 Z7 ∧ X5a Z0 Z2 Z6 Z7 Z10 = some r) [(0, _)] [] [] ⟨big, G, ([] : List ByteArray), none, 0, [], u1.1, u1.2.1, a5, k6, u1.2.2, rfl, rfl, (HpLe.refl _), B0, (OL.nil (Rp' := Rep.str)), s7, r2⟩ (fun y m hI hb87 => ?_)
 obtain ⟨n68, G70, v74, a75, k76, cs77, v80, v81, a82, k83, v85, rfl, rfl, e71, B72, o78, s84, r86⟩ := hI
 refine .gn 0 ?_
 obtain ⟨m89, rfl⟩ : ∃ m, n68 = m + 1 := by cases n68 with | zero => exact absurd (show (none : Option _) = some _ from r86) (by simp) | succ m => exact ⟨m, rfl⟩
 have r88 : X6b (X5a m89) v74 v80 v81 v85 = some r := r86; clear r86; unfold X6b at r88; try dsimp only at r88
 refine .go 6 ?_
 refine .cH r88 (fun c90 r91 => ?_) (fun c90 r11 => ?_)
 ·refine .go 2 ?_
  refine .block (.go 3 ?_)
  obtain ⟨u92, hu92, r93⟩ := X0 r91
  refine .callW (b1 := [_]) (b2 := []) (s1 := []) [_, _] [] .ro rfl rfl Tryz.call95 rfl rfl (Xhn mcs s84 hu92) rfl B72 (fun v95 bo so G96 e97 B98 h94 => ?_)
  obtain ⟨a12, k13, rfl, rfl, rfl, s14⟩ := h94
  refine .gn 0 ?_
  refine .lit [_] [(0, _)] .ro sl27 ty9 rfl rfl rfl rfl rfl rfl (fun b15 hb15 => ?_)
  have o16 : OL Rep.str G96 [.string u92.1] ([u92.1] : List ByteArray) := ((OL.cons rfl (Rep.strI u92.1) (OL.nil (Rp' := Rep.str))) :)
  refine .reval 14 (n' := ([u92.1] : List ByteArray).length) rfl rfl ?_
  obtain ⟨u17, hu17, r19⟩ := X0 r93
  refine .appO (Q := Rep.str) 0 .ro sl27 ty9 rfl rfl rfl rfl rfl rfl (OL.mono e97 o78) o16 rfl rfl rfl B98 hu17 rfl (fun a20 k21 cs22 o23 => ?_)
  refine .go 8 ?_
  exact (hb87 _ _ ⟨m89, G96, u17, a20, k21, cs22, (w64 (v80 - 1)), u92.2.1, a12, k13, u92.2.2, rfl, rfl, (HpLe.trans e71 e97), B98, o23, s14, r19⟩ (Nat.lt_succ_self _)).ar
 ·refine .exit rfl ?_
  refine .go 5 ?_
  cases r11
  refine .rW 0 [.tmp 2] [_] Tryz.func38 Tryz.results38 ⟨RV.tmp rfl, trivial⟩ B72 hS0 (fun G' hg => ⟨a82, k83, a75, k76, cs77, rfl, rfl, rfl, (SlR.mono hg s84), (OL.mono hg o78)⟩)
end Go.Proofs.YtfcicopgdahmcaaGreatDoor
end
