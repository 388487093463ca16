/- What the proof needs, gathered by wip/gen/shake.py. -/
import Derived.Calls
import Derived.Deep.Quiet
import Derived.Below
import Derived.Laws.AppendOwn
import Derived.WalkKit
import Derived.Laws.OwnMore
import Derived.Deep.Slices
import Derived.ChangeOld
import Derived.ArgAppend
import Derived.RangeFuncIn
import Derived.RangeFuncRecord
import Derived.RangeFuncLeaves
import Derived.Laws.MakeOwn
import Derived.IntWalk
import Derived.Laws.IdiomStrings
import Derived.Laws.Cover3
import Derived.Laws.CopyOwn
import Derived.MapKept
import Derived.RangeFuncNested
import Derived.Test.YtfcicopgdahmcaaGreatDoorRows
import Derived.LaidEql
import Derived.Stop.Asserts
import Derived.RowKitTokens
import Derived.Test.YtfcicopgdahmcaaGreatDoorCards
import Derived.LaidLaws
import Derived.Look8
import Derived.MakeChecks
import Derived.Test.YtfcicopgdahmcaaGreatDoorTie
import Derived.LaidMore
import Derived.Lay
import Derived.SevenTiedAt
import Derived.Stop.Joined
import Derived.ProofKit
import Derived.OpenShut
import Derived.ShutString
import Derived.Test.YtfcicopgdahmcaaGreatDoorTopRangesQ4

section
set_option maxHeartbeats 4000000
set_option maxRecDepth 100000
namespace Go.Proofs.YtfcicopgdahmcaaGreatDoor
open Go.RowKit
set_option linter.unusedSimpArgs false
set_option linter.unusedVariables false
set_option synthInstance.maxSize 2000
set_option synthInstance.maxHeartbeats 400000
theorem unique_Key_c {Fs : List Hp} {G : Hp} {x0_0 : Int} {a1 : Option Addr} {k1 : Nat} {x1 : List (Int × Bool)} {x2 : Int} {x3 : Int} {r : ((Int × Int × Int × (List Int) × (List Int)) × Int)} (hG : G ∈ Fs) (s1 : SlR (Rep.pair (Rep.int .i64) Rep.bool) G a1 k1 x1) (h : unique_Key x0_0 x1 x2 x3 = some r) : RetW Tryz.prog 174 #[.agg #[.int .i64 x0_0], .slice a1 x1.length k1, .int .i64 x2, .int .i64 x3] Fs [] [] (fun v bo so G => ∃ a0 : Option Addr, ∃ k0 : Nat, ∃ a1 : Option Addr, ∃ k1 : Nat, v = .tuple #[.agg #[.int .i64 r.1.1, .int .i64 r.1.2.1, .int .i64 r.1.2.2.1, .slice a0 r.1.2.2.2.1.length k0, .slice a1 r.1.2.2.2.2.length k1], .int .i64 r.2] ∧ bo = [] ∧ so = [] ∧ SlR (Rep.int .i64) G a0 k0 r.1.2.2.2.1 ∧ SlR (Rep.int .i64) G a1 k1 r.1.2.2.2.2) := by
 unfold unique_Key at h
 try dsimp only at h
 refine RetW.of (vs := [_, _, _, _]) Tryz.func174 rfl Tryz.ntmps174 [(0, _), (1, _), (2, _), (3, _)] ⟨rfl, rfl, rfl, rfl, trivial⟩ rfl hG fun w0 S0 hS0 B0 => ?_
 refine .seq ?_;refine .region rfl ?_
 refine .box [_] .ro rfl rfl rfl (fun b1 hb1 => ?_)
 refine .alloc .ro ty256 rfl (fun b2 hb2 => ?_)
 refine .av rfl rfl ?_;refine .re ?_;refine .seq ?_;refine .seq ?_;refine .region rfl ?_;refine .q .ro (.load_own_a 1 [_] rfl rfl ty45 rfl) rfl ?_;refine .mv rfl rfl ?_;refine .mv rfl rfl ?_
 obtain ⟨u3, hu3, r4⟩ := bind_some h; clear h
 refine .callS (b1 := []) (b2 := [_, _]) (s1 := []) [_, _, _] [] .ro rfl rfl Tryz.call170 rfl rfl (code_Fill_c (G := G) List.mem_cons_self s1 hu3) rfl (fun v6 bo so h5 => ?_)
 obtain ⟨a8, k9, cs10, rfl, rfl, rfl, o11⟩ := h5
 refine .same (bl' := [_, _]) (sl' := [_]) rfl rfl rfl ?_;refine .mv rfl rfl ?_;refine .q .ro (.extract rfl rfl) rfl ?_;refine .q .ro (.extract rfl rfl) rfl ?_;refine .av rfl rfl ?_;refine .av rfl rfl ?_;refine .re ?_;refine .seq ?_;refine .region rfl ?_
 refine .mv rfl rfl ?_;refine .q .ro (.neq rfl rfl) rfl ?_;refine .mv rfl rfl ?_;refine .cutR 3 (β := Unit) (fun y => [(32, .bool (decide ((u3.2 ≠ 0) ∧ (u3.2 ≠ 11))))]) [(1, _), (2, _), (3, _), (4, _), (8, _), (11, _)] (fun y => G :: Fs) (fun y => []) [_, _] (fun y => []) [_] (fun y => True) ⟨rfl, rfl, rfl, rfl, rfl, rfl, trivial⟩ [0, 1] rfl [0] rfl ?_ ?_
 ·rintro _ _
  refine .prune [(32, .bool (decide ((u3.2 ≠ 0) ∧ (u3.2 ≠ 11)))), (1, _), (2, _), (3, _), (4, _), (8, _), (11, _)] ⟨rfl, rfl, rfl, rfl, rfl, rfl, rfl, trivial⟩ ?_;refine .same (bl' := [_, _]) (sl' := [_]) (Fs' := G :: Fs) rfl rfl rfl ?_;refine .re ?_
  refine .cond_dec rfl (fun c16 => ?_) (fun c16 => ?_)
  ·have r17 := ifT r4 c16; clear r4
   refine .seq ?_;refine .region rfl ?_;refine .q .ro (.build [_, _, _, _, _] [] ty256 pl256 rfl rfl) rfl ?_;refine .mv rfl rfl ?_;refine .store 0 [_, _, _, _, _] [_, _] .ro rfl rfl rfl ty256 rfl rfl rfl rfl ?_;refine .av rfl rfl ?_;refine .re ?_
   cases r17
   refine .drop 0 1 _ [] rfl rfl ?_
   refine .retWD 2 (c := ⟨174, none⟩) (.inr ⟨_, rfl⟩) [.cell 8 256, .tmp 9] [_, _] rfl Tryz.func174 Tryz.results174 ⟨RV.cell_a 0 [_, _, _, _, _] rfl rfl ty256 rfl, RV.tmp rfl, trivial⟩ mcm List.mem_cons_self B0 (by subst hS0; simp [blks]) (fun G' hg => ⟨none, 0, none, 0, rfl, rfl, rfl, (SlR.mono hg (SlR.nil (Rp' := (Rep.int .i64)))), (SlR.mono hg (SlR.nil (Rp' := (Rep.int .i64))))⟩)
  ·have r18 := ifF r4 c16; clear r4
   refine .skip ?_;refine .seq ?_;refine .seq ?_;refine .region rfl ?_;refine .mv rfl rfl ?_;refine .q .ro (.lss rfl rfl) rfl ?_;refine .mv rfl rfl ?_;refine .cutR 3 (β := Unit) (fun y => [(40, .bool (decide ((x3 < 0) ∨ (32 < x3))))]) [(1, _), (2, _), (3, _), (4, _), (8, _)] (fun y => G :: Fs) (fun y => []) [_, _] (fun y => []) [_] (fun y => True) ⟨rfl, rfl, rfl, rfl, rfl, trivial⟩ [0, 1] rfl [0] rfl ?_ ?_
   ·rintro _ _
    refine .prune [(40, .bool (decide ((x3 < 0) ∨ (32 < x3)))), (1, _), (2, _), (3, _), (4, _), (8, _)] ⟨rfl, rfl, rfl, rfl, rfl, rfl, trivial⟩ ?_;refine .same (bl' := [_, _]) (sl' := [_]) (Fs' := G :: Fs) rfl rfl rfl ?_;refine .mv rfl rfl ?_;refine .cutR 6 (β := Unit) (fun y => [(47, .bool (decide (((x3 < 0) ∨ (32 < x3)) ∨ (32 < (w64 (x2 + (w64 (2 * x3))))))))]) [(1, _), (2, _), (3, _), (4, _), (8, _)] (fun y => G :: Fs) (fun y => []) [_, _] (fun y => []) [_] (fun y => True) ⟨rfl, rfl, rfl, rfl, rfl, trivial⟩ [0, 1] rfl [0] rfl ?_ ?_
    ·rintro _ _
     refine .prune [(47, .bool (decide (((x3 < 0) ∨ (32 < x3)) ∨ (32 < (w64 (x2 + (w64 (2 * x3)))))))), (1, _), (2, _), (3, _), (4, _), (8, _)] ⟨rfl, rfl, rfl, rfl, rfl, rfl, trivial⟩ ?_;refine .same (bl' := [_, _]) (sl' := [_]) (Fs' := G :: Fs) rfl rfl rfl ?_;refine .re ?_
     refine .cond_dec rfl (fun c27 => ?_) (fun c27 => ?_)
     ·have r28 := ifT r18 c27; clear r18
      refine .seq ?_;refine .region rfl ?_;refine .q .ro (.build [_, _, _, _, _] [] ty256 pl256 rfl rfl) rfl ?_;refine .store 0 [_, _, _, _, _] [_, _] .ro rfl rfl rfl ty256 rfl rfl rfl rfl ?_;refine .av rfl rfl ?_;refine .re ?_
      cases r28
      refine .drop 0 1 _ [] rfl rfl ?_
      refine .retWD 2 (c := ⟨174, none⟩) (.inr ⟨_, rfl⟩) [.cell 8 256, .tmp 9] [_, _] rfl Tryz.func174 Tryz.results174 ⟨RV.cell_a 0 [_, _, _, _, _] rfl rfl ty256 rfl, RV.tmp rfl, trivial⟩ mcm List.mem_cons_self B0 (by subst hS0; simp [blks]) (fun G' hg => ⟨none, 0, none, 0, rfl, rfl, rfl, (SlR.mono hg (SlR.nil (Rp' := (Rep.int .i64)))), (SlR.mono hg (SlR.nil (Rp' := (Rep.int .i64))))⟩)
     ·have r29 := ifF r18 c27; clear r18
      refine .skip ?_;refine .seq ?_;refine .region rfl ?_;refine .q .ro (.fieldAddr 0 rfl fl45_0 ty3.sz rfl) rfl ?_;refine .q .ro (.load_own 1 rfl rfl ty3 rfl) rfl ?_;refine .av rfl rfl ?_;refine .re ?_;refine .seq ?_;refine .region rfl ?_
      refine .q .ro (.load_own_a 1 [_] rfl rfl ty45 rfl) rfl ?_;refine .mv rfl rfl ?_;refine .mv rfl rfl ?_;refine .q .ro (.mulw rfl rfl) rfl ?_;refine .q .ro (.addw rfl rfl) rfl ?_;refine .q .ro (.build [_, _, _, _, _] [(0, _), (2, _)] ty256 pl256 rfl rfl) rfl ?_
      refine .alloc .ro ty256 rfl (fun b30 hb30 => ?_)
      refine .store 0 [_, _, _, _, _] [_, _, _] .ro rfl rfl rfl ty256 rfl rfl rfl rfl ?_;refine .re ?_;refine .seq ?_;refine .seq ?_;refine .region rfl ?_;refine .mv rfl rfl ?_;refine .q .ro (.len_sl rfl rfl sl218) rfl ?_;refine .mv rfl rfl ?_;refine .re ?_
      refine .cutB (β := Hp × Int × Int × Int × List Int × Option Addr × Nat × List Value × List Int × Option Addr × Nat × List Value × Int × Int × Int × Int) (fun y => []) [(8, _), (13, _)] (fun y => y.1 :: Fs) (fun y => [(b30, .cells #[.int .i64 y.2.1, .int .i64 y.2.2.1, .int .i64 y.2.2.2.1, .slice y.2.2.2.2.2.1 y.2.2.2.2.1.length y.2.2.2.2.2.2.1, .slice y.2.2.2.2.2.2.2.2.2.1 y.2.2.2.2.2.2.2.2.1.length y.2.2.2.2.2.2.2.2.2.2.1] 256 (0, 0)), (b2, .cells #[.int .i64 y.2.2.2.2.2.2.2.2.2.2.2.2.1, .int .i64 y.2.2.2.2.2.2.2.2.2.2.2.2.2.1, .int .i64 y.2.2.2.2.2.2.2.2.2.2.2.2.2.2.1, .slice none 0 0, .slice none 0 0] 256 (0, 0)), (b1, .cells #[.int .i64 y.2.2.2.2.2.2.2.2.2.2.2.2.2.2.2] 45 (0, 0))]) [] (fun y => [.s (.slice y.2.2.2.2.2.1 y.2.2.2.2.1.length y.2.2.2.2.2.2.1) 3 1 y.2.2.2.2.1.length y.2.2.2.2.2.2.2.1, .s (.slice y.2.2.2.2.2.2.2.2.2.1 y.2.2.2.2.2.2.2.2.1.length y.2.2.2.2.2.2.2.2.2.2.1) 3 1 y.2.2.2.2.2.2.2.2.1.length y.2.2.2.2.2.2.2.2.2.2.2.1]) [_] (fun y => HpLe G y.1 ∧ Bd w0 S0 Fs y.1 ∧ OL (Rep.int .i64) y.1 y.2.2.2.2.2.2.2.1 y.2.2.2.2.1 ∧ OL (Rep.int .i64) y.1 y.2.2.2.2.2.2.2.2.2.2.2.1 y.2.2.2.2.2.2.2.2.1 ∧ unique_Key_J1 y.2.1 y.2.2.1 y.2.2.2.1 y.2.2.2.2.1 y.2.2.2.2.2.2.2.2.1 y.2.2.2.2.2.2.2.2.2.2.2.2.1 y.2.2.2.2.2.2.2.2.2.2.2.2.2.1 y.2.2.2.2.2.2.2.2.2.2.2.2.2.2.1 y.2.2.2.2.2.2.2.2.2.2.2.2.2.2.2 = some r) ⟨rfl, rfl, trivial⟩ [] rfl [0] rfl ?_ ?_
      ·intro y hI
       obtain ⟨G14, v15, v21, v25, v26, a31, k32, cs33, v34, a35, k36, cs37, v38, v39, v40, v41⟩ := y
       obtain ⟨e42, B43, o44, o46, r47⟩ := hI
       try dsimp only at e42 B43 o44 o46 r47
       refine .prune [(8, _), (13, _)] ⟨rfl, rfl, trivial⟩ ?_;refine .same (bl' := [(b30, .cells #[.int .i64 v15, .int .i64 v21, .int .i64 v25, .slice a31 v26.length k32, .slice a35 v34.length k36] 256 (0, 0)), (b2, .cells #[.int .i64 v38, .int .i64 v39, .int .i64 v40, .slice none 0 0, .slice none 0 0] 256 (0, 0)), (b1, .cells #[.int .i64 v41] 45 (0, 0))]) (sl' := [.s (.slice a31 v26.length k32) 3 1 v26.length cs33, .s (.slice a35 v34.length k36) 3 1 v34.length cs37, _]) (Fs' := G14 :: Fs) rfl rfl rfl ?_
       unfold unique_Key_J1 at r47
       try dsimp only at r47
       refine .seq ?_;refine .region rfl ?_;refine .q .ro (.load_own_a 0 [_, _, _, _, _] rfl rfl ty256 rfl) rfl ?_;refine .store 1 [_, _, _, _, _] [_, _, _] .ro rfl rfl rfl ty256 rfl rfl rfl rfl ?_;refine .av rfl rfl ?_;refine .re ?_
       refine .freezeR 0 rfl rfl o44 [_, _] rfl B43 (fun G48 e49 B50 s51 => ?_)
       refine .freezeR 0 rfl rfl (OL.mono e49 o46) [_] rfl B50 (fun G52 e53 B54 s55 => ?_)
       cases r47
       refine .drop 0 1 _ [] rfl rfl ?_
       refine .retWD 3 (c := ⟨174, none⟩) (.inr ⟨_, rfl⟩) [.cell 8 256, .tmp 9] [_, _] rfl Tryz.func174 Tryz.results174 ⟨RV.cell_a 1 [_, _, _, _, _] rfl rfl ty256 rfl, RV.tmp rfl, trivial⟩ mcm List.mem_cons_self B54 (by subst hS0; simp [blks]) (fun G' hg => ⟨a31, k32, a35, k36, rfl, rfl, rfl, (SlR.mono hg (SlR.mono e53 s51)), (SlR.mono hg s55)⟩)
      ·intro hb56
       refine .block ?_;refine .own_nil 3 1 ?_;refine .own_nil 3 1 ?_;refine .pull 2 rfl [_, _, _] rfl ?_;refine .pull 2 rfl [_, _, _] rfl ?_;refine .pull 2 rfl [_, _, _] rfl ?_;refine .pullS 1 rfl [_, _, _] rfl ?_
       refine .loop2 (α := Nat × (List (Int × Bool)) × Hp × Int × Int × Int × List Int × Option Addr × Nat × List Value × List Int × Option Addr × Nat × List Value × Int × Int × Int × Int) (fun y => [(59, .int .i64 (y.1 : Int))]) [(2, _), (3, _), (8, _), (12, _), (13, _), (57, _), (58, _)] (fun y => [y.2.2.1]) (fun y => [(b30, .cells #[.int .i64 y.2.2.2.1, .int .i64 y.2.2.2.2.1, .int .i64 y.2.2.2.2.2.1, .slice y.2.2.2.2.2.2.2.1 y.2.2.2.2.2.2.1.length y.2.2.2.2.2.2.2.2.1, .slice y.2.2.2.2.2.2.2.2.2.2.2.1 y.2.2.2.2.2.2.2.2.2.2.1.length y.2.2.2.2.2.2.2.2.2.2.2.2.1] 256 (0, 0)), (b2, .cells #[.int .i64 y.2.2.2.2.2.2.2.2.2.2.2.2.2.2.1, .int .i64 y.2.2.2.2.2.2.2.2.2.2.2.2.2.2.2.1, .int .i64 y.2.2.2.2.2.2.2.2.2.2.2.2.2.2.2.2.1, .slice none 0 0, .slice none 0 0] 256 (0, 0)), (b1, .cells #[.int .i64 y.2.2.2.2.2.2.2.2.2.2.2.2.2.2.2.2.2] 45 (0, 0))]) [] (fun y => [.s (.slice y.2.2.2.2.2.2.2.1 y.2.2.2.2.2.2.1.length y.2.2.2.2.2.2.2.2.1) 3 1 y.2.2.2.2.2.2.1.length y.2.2.2.2.2.2.2.2.2.1, .s (.slice y.2.2.2.2.2.2.2.2.2.2.2.1 y.2.2.2.2.2.2.2.2.2.2.1.length y.2.2.2.2.2.2.2.2.2.2.2.2.1) 3 1 y.2.2.2.2.2.2.2.2.2.2.1.length y.2.2.2.2.2.2.2.2.2.2.2.2.2.1]) [_] (fun y => HpLe G y.2.2.1 ∧ Bd w0 S0 Fs y.2.2.1 ∧ OL (Rep.int .i64) y.2.2.1 y.2.2.2.2.2.2.2.2.2.1 y.2.2.2.2.2.2.1 ∧ OL (Rep.int .i64) y.2.2.1 y.2.2.2.2.2.2.2.2.2.2.2.2.2.1 y.2.2.2.2.2.2.2.2.2.2.1 ∧ List.drop y.1 x1 = y.2.1 ∧ unique_Key_L6 unique_Key_J1 x2 x3 x0_0 y.2.1 y.1 y.2.2.2.1 y.2.2.2.2.1 y.2.2.2.2.2.1 y.2.2.2.2.2.2.1 y.2.2.2.2.2.2.2.2.2.2.1 y.2.2.2.2.2.2.2.2.2.2.2.2.2.2.1 y.2.2.2.2.2.2.2.2.2.2.2.2.2.2.2.1 y.2.2.2.2.2.2.2.2.2.2.2.2.2.2.2.2.1 y.2.2.2.2.2.2.2.2.2.2.2.2.2.2.2.2.2 = some r) (fun y => y.2.1.length) (0, x1, G, x0_0, 0, (w64 (x2 + (w64 (2 * x3)))), ([] : List Int), none, 0, [], ([] : List Int), none, 0, [], 0, 0, 0, x0_0) ⟨(HpLe.refl _), B0, (OL.nil (Rp' := (Rep.int .i64))), (OL.nil (Rp' := (Rep.int .i64))), rfl, r29⟩ ⟨rfl, rfl, rfl, rfl, rfl, rfl, rfl, rfl, trivial⟩ rfl rfl rfl (fun y hI hb57 => ?_)
       obtain ⟨i58, w59, G60, v61, v62, v63, v65, a66, k67, cs68, v69, a70, k71, cs72, v73, v74, v75, v76⟩ := y
       obtain ⟨e78, B79, o80, o81, g82, r83⟩ := hI
       try dsimp only at e78 B79 o80 o81 g82 r83
       refine .prune [(59, .int .i64 (i58 : Int)), (2, _), (3, _), (8, _), (12, _), (13, _), (57, _), (58, _)] ⟨rfl, rfl, rfl, rfl, rfl, rfl, rfl, rfl, trivial⟩ ?_;refine .same (bl' := [(b30, .cells #[.int .i64 v61, .int .i64 v62, .int .i64 v63, .slice a66 v65.length k67, .slice a70 v69.length k71] 256 (0, 0)), (b2, .cells #[.int .i64 v73, .int .i64 v74, .int .i64 v75, .slice none 0 0, .slice none 0 0] 256 (0, 0)), (b1, .cells #[.int .i64 v76] 45 (0, 0))]) (sl' := [.s (.slice a66 v65.length k67) 3 1 v65.length cs68, .s (.slice a70 v69.length k71) 3 1 v69.length cs72, _]) (Fs' := G60 :: Fs) rfl rfl rfl ?_
       cases w59 with
       | nil =>
        rw [unique_Key_L6] at r83; try dsimp only at r83
        refine .seq ?_;refine .region rfl ?_;refine .q .ro (.lss rfl rfl) rfl ?_;refine .re ?_;refine .seq ?_
        refine .cond_dec rfl (fun c => absurd c (drop_nil g82)) (fun _ => ?_)
        refine .exit rfl ?_
        refine .prune _ ?_ (Cov.same rfl rfl rfl (hb56 (G60, v61, v62, v63, v65, a66, k67, cs68, v69, a70, k71, cs72, v73, v74, v75, v76) ⟨e78, B79, o80, o81, r83⟩))
        exact ⟨rfl, rfl, trivial⟩
       | cons x84 xs85 =>
        have r86 : unique_Key_B6 unique_Key_J1 x2 x3 x0_0 (unique_Key_L6 unique_Key_J1 x2 x3 x0_0 xs85 (i58 + 1)) x84 i58 v61 v62 v63 v65 v69 v73 v74 v75 v76 = some r := r83; clear r83; unfold unique_Key_B6 at r86; try dsimp only at r86
        refine .seq ?_;refine .region rfl ?_;refine .q .ro (.lss rfl rfl) rfl ?_;refine .re ?_;refine .seq ?_
        refine .cond_dec rfl (fun _ => ?_) (fun c => absurd (drop_lt g82) c)
        refine .skip ?_;refine .seq ?_;refine .block ?_;refine .seq ?_;refine .region rfl ?_;refine .mv rfl rfl ?_
        obtain ⟨c87, p88, h89⟩ := SlR.get (SlR.mono e78 s1) (drop_idx g82)
        obtain ⟨_, _, rfl, rfl, rfl⟩ := h89
        refine .q .ro (.idxR (SlR.mono e78 s1) rfl rfl (drop_idx g82) sl218 ty220.sz) rfl ?_;refine .q .ro (.load_rp_a [_, _] p88 List.mem_cons_self rfl ty220 rfl) rfl ?_
        refine .alloc .ro ty220 rfl (fun b90 hb90 => ?_)
        refine .av rfl rfl ?_;refine .store 0 [_, _] [_, _, _, _] .ro rfl rfl rfl ty220 rfl rfl rfl rfl ?_;refine .re ?_;refine .seq ?_;refine .seq ?_;refine .region rfl ?_;refine .q .ro (.fieldAddr 1 rfl fl220_1 ty4.sz rfl) rfl ?_;refine .q .ro (.load_own 0 rfl rfl ty4 rfl) rfl ?_;refine .q .ro (.not rfl) rfl ?_
        refine .re ?_
        refine .cond rfl (fun c91 => ?_) (fun c91 => ?_)
        ·have r92 := ifT r86 c91; clear r86
         refine .exit rfl ?_;refine .region rfl ?_;refine .q .ro (.addw rfl rfl) rfl ?_;refine .mv rfl rfl ?_;refine .re ?_;refine .drop 1 0 [_, _, _] _ rfl rfl ?_
         refine .prune _ ?_ (Cov.same rfl rfl rfl (hb57 ((i58 + 1), xs85, G60, v61, v62, v63, v65, a66, k67, cs68, v69, a70, k71, cs72, v73, v74, v75, v76) ⟨e78, B79, o80, o81, (drop_succ g82), r92⟩ (Nat.lt_succ_self _)))
         exact ⟨(congrArg (fun z => some (Value.int .i64 z)) (idx_wrap (SlR.len s1) g82)), rfl, rfl, rfl, rfl, rfl, rfl, rfl, trivial⟩
        ·have r93 := ifBF r86 c91; clear r86
         refine .skip ?_;refine .seq ?_;refine .region rfl ?_;refine .av rfl rfl ?_;refine .re ?_;refine .seq ?_;refine .region rfl ?_;refine .av rfl rfl ?_;refine .re ?_
         refine .seq ?_;refine .seq ?_;refine .region rfl ?_;refine .mv rfl rfl ?_;refine .mv rfl rfl ?_;refine .q .ro (.addw rfl rfl) rfl ?_;refine .q .ro (.addw rfl rfl) rfl ?_;refine .mv rfl rfl ?_;refine .re ?_
         refine .cutB (β := List Int × Option Addr × Nat × List Value × Int × Bool × Int × Int × Int × Int × Int × Int × Int) (fun y => [(17, .slice y.2.1 y.1.length y.2.2.1)]) [(59, _), (2, _), (3, _), (8, _), (12, _), (13, _), (57, _), (58, _), (15, _)] (fun y => G60 :: Fs) (fun y => [(b90, .cells #[.int .i64 y.2.2.2.2.1, .bool y.2.2.2.2.2.1] 220 (0, 0)), (b30, .cells #[.int .i64 y.2.2.2.2.2.2.1, .int .i64 y.2.2.2.2.2.2.2.1, .int .i64 y.2.2.2.2.2.2.2.2.1, .slice a66 v65.length k67, .slice a70 v69.length k71] 256 (0, 0)), (b2, .cells #[.int .i64 y.2.2.2.2.2.2.2.2.2.1, .int .i64 y.2.2.2.2.2.2.2.2.2.2.1, .int .i64 y.2.2.2.2.2.2.2.2.2.2.2.1, .slice none 0 0, .slice none 0 0] 256 (0, 0)), (b1, .cells #[.int .i64 y.2.2.2.2.2.2.2.2.2.2.2.2] 45 (0, 0))]) [] (fun y => [.s (.slice y.2.1 y.1.length y.2.2.1) 3 1 y.1.length y.2.2.2.1]) [_, _, _] (fun y => OL (Rep.int .i64) G60 y.2.2.2.1 y.1 ∧ (unique_Key_J4 (unique_Key_L6 unique_Key_J1 x2 x3 x0_0 xs85 (i58 + 1)) x2 x3 x0_0 v65 v69) y.1 y.2.2.2.2.1 y.2.2.2.2.2.1 y.2.2.2.2.2.2.1 y.2.2.2.2.2.2.2.1 y.2.2.2.2.2.2.2.2.1 y.2.2.2.2.2.2.2.2.2.1 y.2.2.2.2.2.2.2.2.2.2.1 y.2.2.2.2.2.2.2.2.2.2.2.1 y.2.2.2.2.2.2.2.2.2.2.2.2 = some r) ⟨rfl, rfl, rfl, rfl, rfl, rfl, rfl, rfl, rfl, trivial⟩ [] rfl [0, 1, 2] rfl ?_ ?_
         ·intro y hI
          obtain ⟨v94, a95, k96, cs97, v98, v99, v100, v101, v102, v103, v104, v105, v106⟩ := y
          obtain ⟨o107, r108⟩ := hI
          try dsimp only at o107 r108
          refine .prune [(17, .slice a95 v94.length k96), (59, _), (2, _), (3, _), (8, _), (12, _), (13, _), (57, _), (58, _), (15, _)] ⟨rfl, rfl, rfl, rfl, rfl, rfl, rfl, rfl, rfl, rfl, trivial⟩ ?_;refine .same (bl' := [(b90, .cells #[.int .i64 v98, .bool v99] 220 (0, 0)), (b30, .cells #[.int .i64 v100, .int .i64 v101, .int .i64 v102, .slice a66 v65.length k67, .slice a70 v69.length k71] 256 (0, 0)), (b2, .cells #[.int .i64 v103, .int .i64 v104, .int .i64 v105, .slice none 0 0, .slice none 0 0] 256 (0, 0)), (b1, .cells #[.int .i64 v106] 45 (0, 0))]) (sl' := [.s (.slice a95 v94.length k96) 3 1 v94.length cs97, _, _, _]) (Fs' := G60 :: Fs) rfl rfl rfl ?_
          unfold unique_Key_J4 at r108
          try dsimp only at r108
          refine .seq ?_
          refine .freezeR 0 rfl rfl o107 [_, _, _] rfl B79 (fun G109 e110 B111 s112 => ?_)
          refine .drawL (.q 0 (.q 1 (.q 2 (.q 3 (.q 4 (.q 5 (.q 6 (.e 7 1 (.q 8 (.e 9 2 .nil)))))))))) [_, _, _, _] (by kernel_rfl) (by kernel_rfl) (pick_mem [0, 1, 2, 3] rfl) ?_;refine .dq (.fieldAddr 3 rfl fl256_3 ty22.sz rfl) rfl ?_;refine .dq (.load_own 1 rfl rfl ty22 rfl) rfl ?_;refine .dq (.move rfl) rfl ?_;refine .dq (.move rfl) rfl ?_;refine .dq (.move rfl) rfl ?_;refine .dq (.addw rfl rfl) rfl ?_
          obtain ⟨u113, hu113, r114⟩ := bind_some r108; clear r108
          obtain ⟨a115, k116, h117, s118⟩ := SlR.sub s112 hu113
          refine .dq (.sliceR s112 rfl hu113 sl22 ty3.sz (fun _ => .no) (fun h => .yes' rfl h) h117) rfl ?_
          obtain ⟨u119, hu119, r120⟩ := bind_some r114; clear r114
          refine .appR (Q := (Rep.int .i64)) 0 .d1 sl22 ty3 rfl rfl rfl rfl rfl (OL.mono e110 o80) rfl rfl s118 rfl List.mem_cons_self hu119 rfl (fun a121 k122 cs123 o124 => ?_)
          refine .clsL (HpLe.refl _) (pick_mem [0, 1, 2, 3] rfl) ?_;refine .dq (.fieldAddr 3 rfl fl256_3 ty22.sz rfl) rfl ?_;refine .store 1 [_, _, _, _, _] [_, _, _, _] .d2 rfl rfl rfl ty22 rfl rfl rfl rfl ?_;refine .draw_end ?_;refine .seq ?_;refine .seq ?_;refine .region rfl ?_;refine .mv rfl rfl ?_;refine .mv rfl rfl ?_
          obtain ⟨u125, hu125, r126⟩ := bind_some r120; clear r120
          obtain ⟨a127, k128, h129, s130⟩ := SlR.sub s112 hu125
          refine .q .ro (.sliceR s112 rfl hu125 sl22 ty3.sz (fun _ => .no) (fun h => .yes' rfl h) h129) rfl ?_;refine .q .ro (.len_sl rfl rfl sl22) rfl ?_;refine .mv rfl rfl ?_;refine .re ?_;refine .cutB (β := Int × Bool × Int × Int × Int × List Int × Option Addr × Nat × List Value × Int × Int × Int × Int) (fun y => []) [(17, _), (59, _), (2, _), (3, _), (8, _), (12, _), (13, _), (57, _), (58, _), (15, _)] (fun y => G109 :: Fs) (fun y => [(b90, .cells #[.int .i64 y.1, .bool y.2.1] 220 (0, 0)), (b30, .cells #[.int .i64 y.2.2.1, .int .i64 y.2.2.2.1, .int .i64 y.2.2.2.2.1, .slice y.2.2.2.2.2.2.1 y.2.2.2.2.2.1.length y.2.2.2.2.2.2.2.1, .slice a70 v69.length k71] 256 (0, 0)), (b2, .cells #[.int .i64 y.2.2.2.2.2.2.2.2.2.1, .int .i64 y.2.2.2.2.2.2.2.2.2.2.1, .int .i64 y.2.2.2.2.2.2.2.2.2.2.2.1, .slice none 0 0, .slice none 0 0] 256 (0, 0)), (b1, .cells #[.int .i64 y.2.2.2.2.2.2.2.2.2.2.2.2] 45 (0, 0))]) [] (fun y => [.s (.slice y.2.2.2.2.2.2.1 y.2.2.2.2.2.1.length y.2.2.2.2.2.2.2.1) 3 1 y.2.2.2.2.2.1.length y.2.2.2.2.2.2.2.2.1]) [_, _] (fun y => OL (Rep.int .i64) G109 y.2.2.2.2.2.2.2.2.1 y.2.2.2.2.2.1 ∧ (unique_Key_J2 (unique_Key_L6 unique_Key_J1 x2 x3 x0_0 xs85 (i58 + 1)) v94 x3 x0_0 v69) y.1 y.2.1 y.2.2.1 y.2.2.2.1 y.2.2.2.2.1 y.2.2.2.2.2.1 y.2.2.2.2.2.2.2.2.2.1 y.2.2.2.2.2.2.2.2.2.2.1 y.2.2.2.2.2.2.2.2.2.2.2.1 y.2.2.2.2.2.2.2.2.2.2.2.2 = some r) ⟨rfl, rfl, rfl, rfl, rfl, rfl, rfl, rfl, rfl, rfl, trivial⟩ [] rfl [1, 2] rfl ?_ ?_
          ·intro y hI
           obtain ⟨v131, v132, v133, v134, v135, v136, a137, k138, cs139, v140, v141, v142, v143⟩ := y
           obtain ⟨o144, r145⟩ := hI
           try dsimp only at o144 r145
           refine .prune [(17, _), (59, _), (2, _), (3, _), (8, _), (12, _), (13, _), (57, _), (58, _), (15, _)] ⟨rfl, rfl, rfl, rfl, rfl, rfl, rfl, rfl, rfl, rfl, trivial⟩ ?_;refine .same (bl' := [(b90, .cells #[.int .i64 v131, .bool v132] 220 (0, 0)), (b30, .cells #[.int .i64 v133, .int .i64 v134, .int .i64 v135, .slice a137 v136.length k138, .slice a70 v69.length k71] 256 (0, 0)), (b2, .cells #[.int .i64 v140, .int .i64 v141, .int .i64 v142, .slice none 0 0, .slice none 0 0] 256 (0, 0)), (b1, .cells #[.int .i64 v143] 45 (0, 0))]) (sl' := [.s (.slice a137 v136.length k138) 3 1 v136.length cs139, _, _]) (Fs' := G109 :: Fs) rfl rfl rfl ?_
           unfold unique_Key_J2 at r145
           try dsimp only at r145
           refine .seq ?_;refine .drawL (.q 0 (.q 1 (.q 2 (.q 3 (.q 4 (.q 5 (.q 6 (.q 7 (.q 8 (.e 9 1 (.e 10 1 (.e 11 1 (.q 12 (.e 13 2 .nil)))))))))))))) [_, _, _, _] (by kernel_rfl) (by kernel_rfl) (pick_mem [0, 1, 2, 3] rfl) ?_;refine .dq (.fieldAddr 4 rfl fl256_4 ty22.sz rfl) rfl ?_;refine .dq (.load_own 1 rfl rfl ty22 rfl) rfl ?_;refine .dq (.move rfl) rfl ?_;refine .dq (.fieldAddr 0 rfl fl220_0 ty3.sz rfl) rfl ?_;refine .dq (.load_own 0 rfl rfl ty3 rfl) rfl ?_;refine .dq (.move rfl) rfl ?_;refine .dq (.move rfl) rfl ?_
           obtain ⟨u146, hu146, r147⟩ := bind_some r145; clear r145
           obtain ⟨c148, p149, h150⟩ := SlR.get s112 hu146
           obtain rfl := h150
           refine .dq (.idxR s112 rfl rfl hu146 sl22 ty3.sz) rfl ?_;refine .dq (.load_rp p149 List.mem_cons_self rfl ty3 rfl) rfl ?_
           obtain ⟨u151, hu151, r152⟩ := bind_some r147; clear r147
           refine .callS (b1 := []) (b2 := [_, _, _, _]) (s1 := []) [_, _, _] [] .d1 rfl rfl Tryz.call77 rfl rfl (residue_Field_Mul_c (G := G109) List.mem_cons_self  hu151) rfl (fun v153 bo so h154 => ?_)
           obtain ⟨rfl, rfl, rfl⟩ := h154
           refine .same (bl' := [_, _, _, _]) (sl' := [_, _, _]) rfl rfl rfl ?_;refine .clsL (HpLe.refl _) (pick_mem [0, 1, 2, 3] rfl) ?_
           refine .lit [_] [(0, _)] .d1 sl22 ty3 rfl rfl rfl rfl rfl rfl (fun b155 hb155 => ?_)
           have o156 : OL (Rep.int .i64) G109 [.int .i64 u151] ([u151] : List Int) := ((OL.cons rfl (Rep.intI .i64 u151) (OL.nil (Rp' := (Rep.int .i64)))) :)
           refine .reval 123 (n' := ([u151] : List Int).length) rfl rfl ?_;refine .clsL (HpLe.refl _) (pick_mem [0, 1, 2, 3] rfl) ?_
           obtain ⟨u157, hu157, r158⟩ := bind_some r152; clear r152
           refine .appO (Q := (Rep.int .i64)) 1 .d1 sl22 ty3 rfl rfl rfl rfl rfl rfl (OL.mono e110 o81) o156 rfl rfl rfl B111 hu157 rfl (fun a159 k160 cs161 o162 => ?_)
           refine .clsL (HpLe.refl _) (pick_mem [0, 1, 2, 3] rfl) ?_;refine .dq (.fieldAddr 4 rfl fl256_4 ty22.sz rfl) rfl ?_;refine .store 1 [_, _, _, _, _] [_, _, _, _] .d2 rfl rfl rfl ty22 rfl rfl rfl rfl ?_;refine .draw_end ?_;refine .prune [(59, _), (2, _), (3, _), (8, _), (12, _), (13, _), (57, _), (58, _)] ⟨rfl, rfl, rfl, rfl, rfl, rfl, rfl, rfl, trivial⟩ ?_;refine .region rfl ?_;refine .q .ro (.fieldAddr 1 rfl fl256_1 ty3.sz rfl) rfl ?_;refine .q .ro (.load_own 1 rfl rfl ty3 rfl) rfl ?_;refine .q .ro (.addw rfl rfl) rfl ?_
           refine .q .ro (.fieldAddr 1 rfl fl256_1 ty3.sz rfl) rfl ?_;refine .store 1 [_, _, _, _, _] [_, _, _, _] .ro rfl rfl rfl ty3 rfl rfl rfl rfl ?_;refine .re ?_;refine .inBlock ?_;refine .region rfl ?_;refine .q .ro (.addw rfl rfl) rfl ?_;refine .mv rfl rfl ?_;refine .re ?_;refine .drop 1 0 [_, _, _] _ rfl rfl ?_
           refine .prune _ ?_ (Cov.same rfl rfl rfl (hb57 ((i58 + 1), xs85, G109, v133, (w64 (v134 + 1)), v135, v136, a137, k138, cs139, u157, a159, k160, cs161, v140, v141, v142, v143) ⟨(HpLe.trans e78 e110), B111, o144, o162, (drop_succ g82), r158⟩ (Nat.lt_succ_self _)))
           exact ⟨(congrArg (fun z => some (Value.int .i64 z)) (idx_wrap (SlR.len s1) g82)), rfl, rfl, rfl, rfl, rfl, rfl, rfl, trivial⟩
          ·intro hb163
           refine .block ?_;refine .pull 1 rfl [_, _, _, _] rfl ?_
           refine .loop2 (α := Nat × List Int × List Int × Option Addr × Nat × List Value) (fun y => [(96, .int .i64 (y.1 : Int))]) [(17, _), (59, _), (2, _), (3, _), (8, _), (12, _), (13, _), (57, _), (58, _), (15, _), (94, _), (95, _)] (fun y => []) (fun y => [(b30, .cells #[.int .i64 v100, .int .i64 v101, .int .i64 v102, .slice y.2.2.2.1 y.2.2.1.length y.2.2.2.2.1, .slice a70 v69.length k71] 256 (0, 0))]) [_, _, _] (fun y => [.s (.slice y.2.2.2.1 y.2.2.1.length y.2.2.2.2.1) 3 1 y.2.2.1.length y.2.2.2.2.2]) [_, _] (fun y => OL (Rep.int .i64) G109 y.2.2.2.2.2 y.2.2.1 ∧ List.drop y.1 u125 = y.2.1 ∧ unique_Key_L3 (unique_Key_J2 (unique_Key_L6 unique_Key_J1 x2 x3 x0_0 xs85 (i58 + 1)) v94 x3 x0_0 v69) x0_0 v100 v101 v102 v98 v99 v103 v104 v105 v106 y.2.1 y.2.2.1 = some r) (fun y => y.2.1.length) (0, u125, u119, a121, k122, cs123) ⟨o124, rfl, r126⟩ ⟨rfl, rfl, rfl, rfl, rfl, rfl, rfl, rfl, rfl, rfl, rfl, rfl, rfl, trivial⟩ rfl rfl rfl (fun y hI hb164 => ?_)
           obtain ⟨i165, w166, v167, a168, k169, cs171⟩ := y
           obtain ⟨o172, g173, r175⟩ := hI
           try dsimp only at o172 g173 r175
           refine .prune [(96, .int .i64 (i165 : Int)), (17, _), (59, _), (2, _), (3, _), (8, _), (12, _), (13, _), (57, _), (58, _), (15, _), (94, _), (95, _)] ⟨rfl, rfl, rfl, rfl, rfl, rfl, rfl, rfl, rfl, rfl, rfl, rfl, rfl, trivial⟩ ?_;refine .same (bl' := [(b30, .cells #[.int .i64 v100, .int .i64 v101, .int .i64 v102, .slice a168 v167.length k169, .slice a70 v69.length k71] 256 (0, 0)), _, _, _]) (sl' := [.s (.slice a168 v167.length k169) 3 1 v167.length cs171, _, _]) (Fs' := G109 :: Fs) rfl rfl rfl ?_
           cases w166 with
           | nil =>
            rw [unique_Key_L3] at r175; try dsimp only at r175
            refine .seq ?_;refine .region rfl ?_;refine .q .ro (.lss rfl rfl) rfl ?_;refine .re ?_;refine .seq ?_
            refine .cond_dec rfl (fun c => absurd c (drop_nil g173)) (fun _ => ?_)
            refine .exit rfl ?_;refine .pull 3 rfl [_, _, _, _] rfl ?_;refine .pull 3 rfl [_, _, _, _] rfl ?_;refine .pull 2 rfl [_, _, _, _] rfl ?_;refine .pull 3 rfl [_, _, _, _] rfl ?_
            refine .prune _ ?_ (Cov.same rfl rfl rfl (hb163 (v98, v99, v100, v101, v102, v167, a168, k169, cs171, v103, v104, v105, v106) ⟨o172, r175⟩))
            exact ⟨rfl, rfl, rfl, rfl, rfl, rfl, rfl, rfl, rfl, rfl, trivial⟩
           | cons x176 xs177 =>
            have r178 : unique_Key_B3 (unique_Key_J2 (unique_Key_L6 unique_Key_J1 x2 x3 x0_0 xs85 (i58 + 1)) v94 x3 x0_0 v69) x0_0 v100 v101 v102 v98 v99 v103 v104 v105 v106 (unique_Key_L3 (unique_Key_J2 (unique_Key_L6 unique_Key_J1 x2 x3 x0_0 xs85 (i58 + 1)) v94 x3 x0_0 v69) x0_0 v100 v101 v102 v98 v99 v103 v104 v105 v106 xs177) x176 v167 = some r := r175; clear r175; unfold unique_Key_B3 at r178; try dsimp only at r178
            refine .seq ?_;refine .region rfl ?_;refine .q .ro (.lss rfl rfl) rfl ?_;refine .re ?_;refine .seq ?_
            refine .cond_dec rfl (fun _ => ?_) (fun c => absurd (drop_lt g173) c)
            refine .skip ?_;refine .seq ?_;refine .block ?_;refine .seq ?_;refine .region rfl ?_
            obtain ⟨c179, p180, h181⟩ := SlR.get s130 (drop_idx g173)
            obtain rfl := h181
            refine .q .ro (.idxR s130 rfl rfl (drop_idx g173) sl22 ty3.sz) rfl ?_;refine .q .ro (.load_rp p180 List.mem_cons_self rfl ty3 rfl) rfl ?_;refine .av rfl rfl ?_;refine .re ?_;refine .drawL (.q 0 (.q 1 (.q 2 (.q 3 (.q 4 (.q 5 (.q 6 (.e 7 1 (.e 8 1 (.e 9 1 (.e 10 1 (.q 11 (.e 12 2 .nil))))))))))))) [_, _, _, _] (by kernel_rfl) (by kernel_rfl) (pick_mem [0, 1, 2, 3] rfl) ?_;refine .dq (.fieldAddr 3 rfl fl256_3 ty22.sz rfl) rfl ?_;refine .dq (.load_own 0 rfl rfl ty22 rfl) rfl ?_;refine .dq (.move rfl) rfl ?_;refine .dq (.move rfl) rfl ?_
            refine .dq (.fieldAddr 0 rfl fl220_0 ty3.sz rfl) rfl ?_;refine .dq (.load_own 1 rfl rfl ty3 rfl) rfl ?_;refine .dq (.move rfl) rfl ?_
            obtain ⟨u182, hu182, r183⟩ := bind_some r178; clear r178
            refine .callS (b1 := []) (b2 := [_, _, _, _]) (s1 := []) [_, _, _] [] .d1 rfl rfl Tryz.call77 rfl rfl (residue_Field_Mul_c (G := G109) List.mem_cons_self  hu182) rfl (fun v184 bo so h185 => ?_)
            obtain ⟨rfl, rfl, rfl⟩ := h185
            refine .same (bl' := [_, _, _, _]) (sl' := [_, _, _]) rfl rfl rfl ?_;refine .clsL (HpLe.refl _) (pick_mem [0, 1, 2, 3] rfl) ?_
            obtain ⟨u186, hu186, r187⟩ := bind_some r183; clear r183
            refine .callS (b1 := []) (b2 := [_, _, _, _]) (s1 := []) [_, _, _] [] .d1 rfl rfl Tryz.call190 rfl rfl (residue_Field_Sub_c (G := G109) List.mem_cons_self  hu186) rfl (fun v188 bo so h189 => ?_)
            obtain ⟨rfl, rfl, rfl⟩ := h189
            refine .same (bl' := [_, _, _, _]) (sl' := [_, _, _]) rfl rfl rfl ?_;refine .clsL (HpLe.refl _) (pick_mem [0, 1, 2, 3] rfl) ?_
            refine .lit [_] [(0, _)] .d1 sl22 ty3 rfl rfl rfl rfl rfl rfl (fun b191 hb191 => ?_)
            have o192 : OL (Rep.int .i64) G109 [.int .i64 u186] ([u186] : List Int) := ((OL.cons rfl (Rep.intI .i64 u186) (OL.nil (Rp' := (Rep.int .i64)))) :)
            refine .reval 109 (n' := ([u186] : List Int).length) rfl rfl ?_;refine .clsL (HpLe.refl _) (pick_mem [0, 1, 2, 3] rfl) ?_
            obtain ⟨u193, hu193, r194⟩ := bind_some r187; clear r187
            refine .appO (Q := (Rep.int .i64)) 0 .d1 sl22 ty3 rfl rfl rfl rfl rfl rfl o172 o192 rfl rfl rfl B111 hu193 rfl (fun a195 k196 cs197 o198 => ?_)
            refine .clsL (HpLe.refl _) (pick_mem [0, 1, 2, 3] rfl) ?_;refine .dq (.fieldAddr 3 rfl fl256_3 ty22.sz rfl) rfl ?_;refine .store 0 [_, _, _, _, _] [_, _, _, _] .d2 rfl rfl rfl ty22 rfl rfl rfl rfl ?_;refine .draw_end ?_;refine .prune [(96, _), (17, _), (59, _), (2, _), (3, _), (8, _), (12, _), (13, _), (57, _), (58, _), (15, _), (94, _), (95, _)] ⟨rfl, rfl, rfl, rfl, rfl, rfl, rfl, rfl, rfl, rfl, rfl, rfl, rfl, trivial⟩ ?_;refine .inBlock ?_;refine .region rfl ?_;refine .q .ro (.addw rfl rfl) rfl ?_;refine .mv rfl rfl ?_
            refine .re ?_
            refine .prune _ ?_ (Cov.same rfl rfl rfl (hb164 ((i165 + 1), xs177, u193, a195, k196, cs197) ⟨o198, (drop_succ g173), r194⟩ (Nat.lt_succ_self _)))
            exact ⟨(congrArg (fun z => some (Value.int .i64 z)) (idx_wrap (SlR.len s130) g173)), rfl, rfl, rfl, rfl, rfl, rfl, rfl, rfl, rfl, rfl, rfl, rfl, trivial⟩
         ·intro hb199
          refine .block ?_;refine .own_nil 3 1 ?_
          refine .loop2 (α := Nat × Int × List Int × Option Addr × Nat × List Value × Int) (fun y => [(16, .int .i64 y.2.1), (17, .slice y.2.2.2.1 y.2.2.1.length y.2.2.2.2.1), (71, .int .i64 y.2.2.2.2.2.2)]) [(59, _), (2, _), (3, _), (8, _), (12, _), (13, _), (57, _), (58, _), (15, _), (14, _), (70, _)] (fun y => []) (fun y => []) [_, _, _, _] (fun y => [.s (.slice y.2.2.2.1 y.2.2.1.length y.2.2.2.2.1) 3 1 y.2.2.1.length y.2.2.2.2.2.1]) [_, _, _] (fun y => OL (Rep.int .i64) G60 y.2.2.2.2.2.1 y.2.2.1 ∧ unique_Key_L5 (unique_Key_J4 (unique_Key_L6 unique_Key_J1 x2 x3 x0_0 xs85 (i58 + 1)) x2 x3 x0_0 v65 v69) (i58 : Int) x0_0 (w64 ((w64 (x2 + x3)) + 1)) x84.1 x84.2 v61 v62 v63 v73 v74 v75 v76 y.1 y.2.1 y.2.2.1 y.2.2.2.2.2.2 = some r) (fun y => y.1) (big, 1, ([] : List Int), none, 0, [], 0) ⟨(OL.nil (Rp' := (Rep.int .i64))), r93⟩ ⟨rfl, rfl, rfl, rfl, rfl, rfl, rfl, rfl, rfl, rfl, rfl, rfl, rfl, rfl, trivial⟩ rfl rfl rfl (fun y hI hb200 => ?_)
          obtain ⟨n201, v202, v203, a204, k205, cs206, v207⟩ := y
          obtain ⟨o208, r209⟩ := hI
          try dsimp only at o208 r209
          refine .prune [(16, .int .i64 v202), (17, .slice a204 v203.length k205), (71, .int .i64 v207), (59, _), (2, _), (3, _), (8, _), (12, _), (13, _), (57, _), (58, _), (15, _), (14, _), (70, _)] ⟨rfl, rfl, rfl, rfl, rfl, rfl, rfl, rfl, rfl, rfl, rfl, rfl, rfl, rfl, trivial⟩ ?_;refine .same (bl' := [_, _, _, _]) (sl' := [.s (.slice a204 v203.length k205) 3 1 v203.length cs206, _, _, _]) (Fs' := G60 :: Fs) rfl rfl rfl ?_
          obtain ⟨m210, rfl⟩ : ∃ m, n201 = m + 1 := by cases n201 with | zero => exact absurd (show (none : Option _) = some _ from r209) (by simp) | succ m => exact ⟨m, rfl⟩
          have r211 : unique_Key_B5 (unique_Key_J4 (unique_Key_L6 unique_Key_J1 x2 x3 x0_0 xs85 (i58 + 1)) x2 x3 x0_0 v65 v69) (i58 : Int) x0_0 (w64 ((w64 (x2 + x3)) + 1)) x84.1 x84.2 v61 v62 v63 v73 v74 v75 v76 (unique_Key_L5 (unique_Key_J4 (unique_Key_L6 unique_Key_J1 x2 x3 x0_0 xs85 (i58 + 1)) x2 x3 x0_0 v65 v69) (i58 : Int) x0_0 (w64 ((w64 (x2 + x3)) + 1)) x84.1 x84.2 v61 v62 v63 v73 v74 v75 v76 m210) v202 v203 v207 = some r := r209; clear r209; unfold unique_Key_B5 at r211; try dsimp only at r211
          refine .seq ?_;refine .region rfl ?_;refine .q .ro (.lss rfl rfl) rfl ?_;refine .re ?_;refine .seq ?_
          refine .cond_dec rfl (fun c212 => ?_) (fun c212 => ?_)
          ·have r213 := ifT r211 c212; clear r211
           refine .skip ?_;refine .seq ?_;refine .block ?_;refine .seq ?_;refine .region rfl ?_;refine .mv rfl rfl ?_;refine .mv rfl rfl ?_
           refine .lit [_] [(0, _)] .ro sl22 ty3 rfl rfl rfl rfl rfl rfl (fun b214 hb214 => ?_)
           have o215 : OL (Rep.int .i64) G60 [.int .i64 v202] ([v202] : List Int) := ((OL.cons rfl (Rep.intI .i64 v202) (OL.nil (Rp' := (Rep.int .i64)))) :)
           refine .reval 75 (n' := ([v202] : List Int).length) rfl rfl ?_
           obtain ⟨u216, hu216, r217⟩ := bind_some r213; clear r213
           refine .appO (Q := (Rep.int .i64)) 0 .ro sl22 ty3 rfl rfl rfl rfl rfl rfl o208 o215 rfl rfl rfl B79 hu216 rfl (fun a219 k221 cs222 o223 => ?_)
           refine .av rfl rfl ?_;refine .re ?_;refine .region rfl ?_;refine .mv rfl rfl ?_;refine .mv rfl rfl ?_;refine .mv rfl rfl ?_;refine .q .ro (.addw rfl rfl) rfl ?_
           obtain ⟨u224, hu224, r225⟩ := bind_some r217; clear r217
           refine .callS (b1 := []) (b2 := [_, _, _, _]) (s1 := []) [_, _, _] [] .ro rfl rfl Tryz.call77 rfl rfl (residue_Field_Mul_c (G := G60) List.mem_cons_self  hu224) rfl (fun v226 bo so h227 => ?_)
           obtain ⟨rfl, rfl, rfl⟩ := h227
           refine .same (bl' := [_, _, _, _]) (sl' := [_, _, _, _]) rfl rfl rfl ?_;refine .av rfl rfl ?_;refine .re ?_;refine .inBlock ?_;refine .region rfl ?_;refine .q .ro (.addw rfl rfl) rfl ?_;refine .mv rfl rfl ?_;refine .re ?_
           refine .prune _ ?_ (Cov.same rfl rfl rfl (hb200 (m210, u224, u216, a219, k221, cs222, (w64 (v207 + 1))) ⟨o223, r225⟩ (Nat.lt_succ_self _)))
           exact ⟨rfl, rfl, rfl, rfl, rfl, rfl, rfl, rfl, rfl, rfl, rfl, rfl, rfl, rfl, trivial⟩
          ·have r228 := ifF r211 c212; clear r211
           refine .exit rfl ?_
           refine .prune _ ?_ (Cov.same rfl rfl rfl (hb199 (v203, a204, k205, cs206, x84.1, x84.2, v61, v62, v63, v73, v74, v75, v76) ⟨o208, r228⟩))
           exact ⟨rfl, rfl, rfl, rfl, rfl, rfl, rfl, rfl, rfl, rfl, trivial⟩
    ·intro hb24
     refine .split 41 rfl (fun c23 => ?_) (fun c23 => ?_)
     ·refine .g_off rfl rfl rfl ?_
      refine .g_off rfl rfl rfl ?_;refine .g_off rfl rfl rfl ?_;refine .g_off rfl rfl rfl ?_;refine .g_off rfl rfl rfl ?_;refine .q .ro (.pick_t rfl rfl) rfl ?_
      refine .prune _ ?_ (Cov.same rfl rfl rfl (hb24 () trivial))
      exact ⟨dor_t c23, rfl, rfl, rfl, rfl, rfl, trivial⟩
     ·refine .g_on rfl ?_
      refine .mv rfl rfl ?_;refine .g_on rfl ?_;refine .mv rfl rfl ?_;refine .g_on rfl ?_;refine .q .ro (.mulw rfl rfl) rfl ?_;refine .g_on rfl ?_;refine .q .ro (.addw rfl rfl) rfl ?_;refine .g_on rfl ?_;refine .q .ro (.gtr rfl rfl) rfl ?_
      refine .q .ro (.pick_f rfl rfl) rfl ?_
      refine .prune _ ?_ (Cov.same rfl rfl rfl (hb24 () trivial))
      exact ⟨dor_f c23, rfl, rfl, rfl, rfl, rfl, trivial⟩
   ·intro hb20
    refine .split 37 rfl (fun c19 => ?_) (fun c19 => ?_)
    ·refine .g_off rfl rfl rfl ?_
     refine .g_off rfl rfl rfl ?_;refine .q .ro (.pick_t rfl rfl) rfl ?_
     refine .prune _ ?_ (Cov.same rfl rfl rfl (hb20 () trivial))
     exact ⟨dor_t c19, rfl, rfl, rfl, rfl, rfl, trivial⟩
    ·refine .g_on rfl ?_
     refine .mv rfl rfl ?_;refine .g_on rfl ?_;refine .q .ro (.gtr rfl rfl) rfl ?_;refine .q .ro (.pick_f rfl rfl) rfl ?_
     refine .prune _ ?_ (Cov.same rfl rfl rfl (hb20 () trivial))
     exact ⟨dor_f c19, rfl, rfl, rfl, rfl, rfl, trivial⟩
 ·intro hb13
  refine .split 29 rfl (fun c12 => ?_) (fun c12 => ?_)
  ·refine .g_on rfl ?_
   refine .mv rfl rfl ?_;refine .g_on rfl ?_;refine .q .ro (.neq rfl rfl) rfl ?_;refine .q .ro (.pick_t rfl rfl) rfl ?_
   refine .prune _ ?_ (Cov.same rfl rfl rfl (hb13 () trivial))
   exact ⟨dand_t c12, rfl, rfl, rfl, rfl, rfl, rfl, trivial⟩
  ·refine .g_off rfl rfl rfl ?_
   refine .g_off rfl rfl rfl ?_;refine .q .ro (.pick_f rfl rfl) rfl ?_
   refine .prune _ ?_ (Cov.same rfl rfl rfl (hb13 () trivial))
   exact ⟨dand_f c12, rfl, rfl, rfl, rfl, rfl, rfl, trivial⟩
theorem solve_Check_c {Fs : List Hp} {G : Hp} {x0_0 : Int} {x0_1 : Int} {x0_2 : Int} {a0_3 : Option Addr} {k0_3 : Nat} {x0_3 : List Int} {a0_4 : Option Addr} {k0_4 : Nat} {x0_4 : List Int} {r : Int} (hG : G ∈ Fs) (s0_3 : SlR (Rep.int .i64) G a0_3 k0_3 x0_3) (s0_4 : SlR (Rep.int .i64) G a0_4 k0_4 x0_4) (h : solve_Check (x0_0, x0_1, x0_2, x0_3, x0_4) = some r) : RetS Tryz.prog 191 #[.agg #[.int .i64 x0_0, .int .i64 x0_1, .int .i64 x0_2, .slice a0_3 x0_3.length k0_3, .slice a0_4 x0_4.length k0_4]] Fs [] [] (fun v bo so => v = .int .i64 r ∧ bo = [] ∧ so = []) := by
 unfold solve_Check at h
 try dsimp only at h
 refine RetS.of (vs := [_]) Tryz.func191 rfl Tryz.ntmps191 [(0, _)] ⟨rfl, trivial⟩ rfl hG fun w0 S0 hS0 B0 => ?_
 refine .seq ?_;refine .region rfl ?_
 refine .box [_, _, _, _, _] .ro rfl rfl rfl (fun b1 hb1 => ?_)
 refine .av rfl rfl ?_;refine .re ?_;refine .seq ?_;refine .region rfl ?_;refine .q .ro (.fieldAddr 0 rfl fl256_0 ty45.sz rfl) rfl ?_;refine .q .ro (.load_own_a 0 [_] rfl rfl ty45 rfl) rfl ?_
 obtain ⟨u2, hu2, r3⟩ := bind_some h; clear h
 refine .callS (b1 := []) (b2 := [_]) (s1 := []) [_] [] .ro rfl rfl Tryz.call72 rfl rfl (residue_Of_c (G := G) List.mem_cons_self  hu2) rfl (fun v5 bo so h4 => ?_)
 obtain ⟨rfl, rfl, rfl⟩ := h4
 refine .same (bl' := [_]) (sl' := []) rfl rfl rfl ?_;refine .mv rfl rfl ?_;refine .q .ro (.extract rfl rfl) rfl ?_;refine .q .ro (.extract rfl rfl) rfl ?_;refine .av rfl rfl ?_;refine .av rfl rfl ?_;refine .re ?_;refine .seq ?_;refine .block ?_
 refine .seq ?_;refine .region rfl ?_;refine .mv rfl rfl ?_;refine .q .ro (.not rfl) rfl ?_;refine .av rfl rfl ?_;refine .re ?_
 refine .cond rfl (fun c6 => ?_) (fun c6 => ?_)
 ·have r7 := ifT r3 c6; clear r3
  refine .seq ?_;refine .region rfl ?_;refine .av rfl rfl ?_;refine .re ?_;refine .prune [(2, _)] ⟨rfl, trivial⟩ ?_
  cases r7
  refine .drop 1 0 [] _ rfl rfl ?_
  refine .retS (c := ⟨191, none⟩) (.inr ⟨_, rfl⟩) [.tmp 2] [_] rfl Tryz.func191 Tryz.results191 ⟨RV.tmp rfl, trivial⟩ mcm ⟨rfl, rfl, rfl⟩
 ·have r8 := ifBF r3 c6; clear r3
  refine .seq ?_;refine .region rfl ?_;refine .q .ro (.fieldAddr 1 rfl fl256_1 ty3.sz rfl) rfl ?_;refine .q .ro (.load_own 0 rfl rfl ty3 rfl) rfl ?_;refine .q .ro (.lss rfl rfl) rfl ?_;refine .mv rfl rfl ?_;refine .cutR 4 (β := Unit) (fun y => [(22, .bool (decide ((x0_1 < 0) ∨ (32 < x0_1))))]) [(1, _), (3, _)] (fun y => G :: Fs) (fun y => []) [_] (fun y => []) [] (fun y => True) ⟨rfl, rfl, trivial⟩ [0] rfl [] rfl ?_ ?_
  ·rintro _ _
   refine .prune [(22, .bool (decide ((x0_1 < 0) ∨ (32 < x0_1)))), (1, _), (3, _)] ⟨rfl, rfl, rfl, trivial⟩ ?_;refine .same (bl' := [_]) (sl' := []) (Fs' := G :: Fs) rfl rfl rfl ?_;refine .mv rfl rfl ?_;refine .cutR 4 (β := Unit) (fun y => [(27, .bool (decide (((x0_1 < 0) ∨ (32 < x0_1)) ∨ (x0_2 < 0))))]) [(1, _), (3, _)] (fun y => G :: Fs) (fun y => []) [_] (fun y => []) [] (fun y => True) ⟨rfl, rfl, trivial⟩ [0] rfl [] rfl ?_ ?_
   ·rintro _ _
    refine .prune [(27, .bool (decide (((x0_1 < 0) ∨ (32 < x0_1)) ∨ (x0_2 < 0)))), (1, _), (3, _)] ⟨rfl, rfl, rfl, trivial⟩ ?_;refine .same (bl' := [_]) (sl' := []) (Fs' := G :: Fs) rfl rfl rfl ?_;refine .mv rfl rfl ?_;refine .cutR 4 (β := Unit) (fun y => [(32, .bool (decide ((((x0_1 < 0) ∨ (32 < x0_1)) ∨ (x0_2 < 0)) ∨ (32 < x0_2))))]) [(1, _), (3, _)] (fun y => G :: Fs) (fun y => []) [_] (fun y => []) [] (fun y => True) ⟨rfl, rfl, trivial⟩ [0] rfl [] rfl ?_ ?_
    ·rintro _ _
     refine .prune [(32, .bool (decide ((((x0_1 < 0) ∨ (32 < x0_1)) ∨ (x0_2 < 0)) ∨ (32 < x0_2)))), (1, _), (3, _)] ⟨rfl, rfl, rfl, trivial⟩ ?_;refine .same (bl' := [_]) (sl' := []) (Fs' := G :: Fs) rfl rfl rfl ?_;refine .av rfl rfl ?_;refine .re ?_
     refine .cond_dec rfl (fun c21 => ?_) (fun c21 => ?_)
     ·have r22 := ifT r8 c21; clear r8
      refine .seq ?_;refine .region rfl ?_;refine .av rfl rfl ?_;refine .re ?_
      cases r22
      refine .drop 1 0 [] _ rfl rfl ?_
      refine .retS (c := ⟨191, none⟩) (.inr ⟨_, rfl⟩) [.tmp 2] [_] rfl Tryz.func191 Tryz.results191 ⟨RV.tmp rfl, trivial⟩ mcm ⟨rfl, rfl, rfl⟩
     ·have r23 := ifF r8 c21; clear r8
      refine .seq ?_;refine .region rfl ?_;refine .q .ro (.fieldAddr 3 rfl fl256_3 ty22.sz rfl) rfl ?_;refine .q .ro (.load_own 0 rfl rfl ty22 rfl) rfl ?_;refine .q .ro (.len_sl rfl rfl sl22) rfl ?_;refine .q .ro (.fieldAddr 1 rfl fl256_1 ty3.sz rfl) rfl ?_;refine .q .ro (.load_own 0 rfl rfl ty3 rfl) rfl ?_;refine .q .ro (.fieldAddr 2 rfl fl256_2 ty3.sz rfl) rfl ?_;refine .q .ro (.load_own 0 rfl rfl ty3 rfl) rfl ?_
      refine .q .ro (.mulw rfl rfl) rfl ?_;refine .q .ro (.neq rfl rfl) rfl ?_;refine .mv rfl rfl ?_;refine .cutR 7 (β := Unit) (fun y => [(50, .bool (decide (((x0_3.length : Int) ≠ (w64 (x0_1 * x0_2))) ∨ ((x0_4.length : Int) ≠ x0_1))))]) [(1, _), (3, _)] (fun y => G :: Fs) (fun y => []) [_] (fun y => []) [] (fun y => True) ⟨rfl, rfl, trivial⟩ [0] rfl [] rfl ?_ ?_
      ·rintro _ _
       refine .prune [(50, .bool (decide (((x0_3.length : Int) ≠ (w64 (x0_1 * x0_2))) ∨ ((x0_4.length : Int) ≠ x0_1)))), (1, _), (3, _)] ⟨rfl, rfl, rfl, trivial⟩ ?_;refine .same (bl' := [_]) (sl' := []) (Fs' := G :: Fs) rfl rfl rfl ?_;refine .av rfl rfl ?_;refine .re ?_
       refine .cond_dec rfl (fun c28 => ?_) (fun c28 => ?_)
       ·have r29 := ifT r23 c28; clear r23
        refine .seq ?_;refine .region rfl ?_;refine .av rfl rfl ?_;refine .re ?_
        cases r29
        refine .drop 1 0 [] _ rfl rfl ?_
        refine .retS (c := ⟨191, none⟩) (.inr ⟨_, rfl⟩) [.tmp 2] [_] rfl Tryz.func191 Tryz.results191 ⟨RV.tmp rfl, trivial⟩ mcm ⟨rfl, rfl, rfl⟩
       ·have r30 := ifF r23 c28; clear r23
        refine .seq ?_;refine .region rfl ?_;refine .mv rfl rfl ?_;refine .q .ro (.fieldAddr 3 rfl fl256_3 ty22.sz rfl) rfl ?_;refine .q .ro (.load_own 0 rfl rfl ty22 rfl) rfl ?_
        obtain ⟨u31, hu31, r32⟩ := bind_some r30; clear r30
        refine .callS (b1 := []) (b2 := [_]) (s1 := []) [_, _] [] .ro rfl rfl Tryz.call73 rfl rfl (residue_Field_All_c (G := G) List.mem_cons_self s0_3 hu31) rfl (fun v34 bo so h33 => ?_)
        obtain ⟨rfl, rfl, rfl⟩ := h33
        refine .same (bl' := [_]) (sl' := []) rfl rfl rfl ?_;refine .q .ro (.not rfl) rfl ?_;refine .mv rfl rfl ?_
        obtain ⟨u41, h42, r43⟩ := bind_some r32; clear r32
        refine .cutR 6 (β := Unit) (fun y => [(63, .bool u41)]) [] (fun y => G :: Fs) (fun y => []) [_] (fun y => []) [] (fun y => True) trivial [0] rfl [] rfl ?_ ?_
        ·rintro _ _
         refine .prune [(63, .bool u41)] ⟨rfl, trivial⟩ ?_;refine .same (bl' := [_]) (sl' := []) (Fs' := G :: Fs) rfl rfl rfl ?_;refine .av rfl rfl ?_;refine .re ?_
         refine .cond rfl (fun c46 => ?_) (fun c46 => ?_)
         ·have r47 := ifT r43 c46; clear r43
          refine .seq ?_;refine .region rfl ?_;refine .av rfl rfl ?_;refine .re ?_
          cases r47
          refine .drop 1 0 [] _ rfl rfl ?_
          refine .retS (c := ⟨191, none⟩) (.inr ⟨_, rfl⟩) [.tmp 2] [_] rfl Tryz.func191 Tryz.results191 ⟨RV.tmp rfl, trivial⟩ mcm ⟨rfl, rfl, rfl⟩
         ·have r48 := ifBF r43 c46; clear r43
          refine .skip ?_;refine .inBlock ?_;refine .seq ?_;refine .region rfl ?_;refine .av rfl rfl ?_;refine .re ?_
          cases r48
          refine .drop 1 0 [] _ rfl rfl ?_
          refine .retS (c := ⟨191, none⟩) (.inr ⟨_, rfl⟩) [.tmp 2] [_] rfl Tryz.func191 Tryz.results191 ⟨RV.tmp rfl, trivial⟩ mcm ⟨rfl, rfl, rfl⟩
        ·intro hb40
         refine .split_b 57 rfl (fun c39 => ?_) (fun c39 => ?_)
         ·have r49 := ifT h42 c39
          refine .g_off rfl rfl rfl ?_;refine .g_off rfl rfl rfl ?_;refine .g_off rfl rfl rfl ?_;refine .g_off rfl rfl rfl ?_;refine .g_off rfl rfl rfl ?_;refine .q .ro (.pick_t rfl rfl) rfl ?_
          refine .prune _ ?_ (Cov.same rfl rfl rfl (hb40 () trivial))
          exact ⟨sval r49, trivial⟩
         ·have r50 := ifBF h42 c39
          refine .g_on rfl ?_;refine .mv rfl rfl ?_;refine .g_on rfl ?_;refine .q .ro (.fieldAddr 4 rfl fl256_4 ty22.sz rfl) rfl ?_;refine .g_on rfl ?_;refine .q .ro (.load_own 0 rfl rfl ty22 rfl) rfl ?_;refine .g_on rfl ?_
          obtain ⟨u51, hu51, r52⟩ := bind_some r50; clear r50
          refine .callS (b1 := []) (b2 := [_]) (s1 := []) [_, _] [] .ro rfl rfl Tryz.call73 rfl rfl (residue_Field_All_c (G := G) List.mem_cons_self s0_4 hu51) rfl (fun v54 bo so h53 => ?_)
          obtain ⟨rfl, rfl, rfl⟩ := h53
          refine .same (bl' := [_]) (sl' := []) rfl rfl rfl ?_;refine .g_on rfl ?_;refine .q .ro (.not rfl) rfl ?_;refine .q .ro (.pick_f rfl rfl) rfl ?_
          refine .prune _ ?_ (Cov.same rfl rfl rfl (hb40 () trivial))
          exact ⟨sval r52, trivial⟩
      ·intro hb25
       refine .split 43 rfl (fun c24 => ?_) (fun c24 => ?_)
       ·refine .g_off rfl rfl rfl ?_
        refine .g_off rfl rfl rfl ?_;refine .g_off rfl rfl rfl ?_;refine .g_off rfl rfl rfl ?_;refine .g_off rfl rfl rfl ?_;refine .g_off rfl rfl rfl ?_;refine .q .ro (.pick_t rfl rfl) rfl ?_
        refine .prune _ ?_ (Cov.same rfl rfl rfl (hb25 () trivial))
        exact ⟨dor_t c24, rfl, rfl, trivial⟩
       ·refine .g_on rfl ?_
        refine .q .ro (.fieldAddr 4 rfl fl256_4 ty22.sz rfl) rfl ?_;refine .g_on rfl ?_;refine .q .ro (.load_own 0 rfl rfl ty22 rfl) rfl ?_;refine .g_on rfl ?_;refine .q .ro (.len_sl rfl rfl sl22) rfl ?_;refine .g_on rfl ?_;refine .q .ro (.fieldAddr 1 rfl fl256_1 ty3.sz rfl) rfl ?_;refine .g_on rfl ?_;refine .q .ro (.load_own 0 rfl rfl ty3 rfl) rfl ?_
        refine .g_on rfl ?_;refine .q .ro (.neq rfl rfl) rfl ?_;refine .q .ro (.pick_f rfl rfl) rfl ?_
        refine .prune _ ?_ (Cov.same rfl rfl rfl (hb25 () trivial))
        exact ⟨dor_f c24, rfl, rfl, trivial⟩
    ·intro hb18
     refine .split 28 rfl (fun c17 => ?_) (fun c17 => ?_)
     ·refine .g_off rfl rfl rfl ?_
      refine .g_off rfl rfl rfl ?_;refine .g_off rfl rfl rfl ?_;refine .q .ro (.pick_t rfl rfl) rfl ?_
      refine .prune _ ?_ (Cov.same rfl rfl rfl (hb18 () trivial))
      exact ⟨dor_t c17, rfl, rfl, trivial⟩
     ·refine .g_on rfl ?_
      refine .q .ro (.fieldAddr 2 rfl fl256_2 ty3.sz rfl) rfl ?_;refine .g_on rfl ?_;refine .q .ro (.load_own 0 rfl rfl ty3 rfl) rfl ?_;refine .g_on rfl ?_;refine .q .ro (.gtr rfl rfl) rfl ?_;refine .q .ro (.pick_f rfl rfl) rfl ?_
      refine .prune _ ?_ (Cov.same rfl rfl rfl (hb18 () trivial))
      exact ⟨dor_f c17, rfl, rfl, trivial⟩
   ·intro hb14
    refine .split 23 rfl (fun c13 => ?_) (fun c13 => ?_)
    ·refine .g_off rfl rfl rfl ?_
     refine .g_off rfl rfl rfl ?_;refine .g_off rfl rfl rfl ?_;refine .q .ro (.pick_t rfl rfl) rfl ?_
     refine .prune _ ?_ (Cov.same rfl rfl rfl (hb14 () trivial))
     exact ⟨dor_t c13, rfl, rfl, trivial⟩
    ·refine .g_on rfl ?_
     refine .q .ro (.fieldAddr 2 rfl fl256_2 ty3.sz rfl) rfl ?_;refine .g_on rfl ?_;refine .q .ro (.load_own 0 rfl rfl ty3 rfl) rfl ?_;refine .g_on rfl ?_;refine .q .ro (.lss rfl rfl) rfl ?_;refine .q .ro (.pick_f rfl rfl) rfl ?_
     refine .prune _ ?_ (Cov.same rfl rfl rfl (hb14 () trivial))
     exact ⟨dor_f c13, rfl, rfl, trivial⟩
  ·intro hb10
   refine .split 18 rfl (fun c9 => ?_) (fun c9 => ?_)
   ·refine .g_off rfl rfl rfl ?_
    refine .g_off rfl rfl rfl ?_;refine .g_off rfl rfl rfl ?_;refine .q .ro (.pick_t rfl rfl) rfl ?_
    refine .prune _ ?_ (Cov.same rfl rfl rfl (hb10 () trivial))
    exact ⟨dor_t c9, rfl, rfl, trivial⟩
   ·refine .g_on rfl ?_
    refine .q .ro (.fieldAddr 1 rfl fl256_1 ty3.sz rfl) rfl ?_;refine .g_on rfl ?_;refine .q .ro (.load_own 0 rfl rfl ty3 rfl) rfl ?_;refine .g_on rfl ?_;refine .q .ro (.gtr rfl rfl) rfl ?_;refine .q .ro (.pick_f rfl rfl) rfl ?_
    refine .prune _ ?_ (Cov.same rfl rfl rfl (hb10 () trivial))
    exact ⟨dor_f c9, rfl, rfl, trivial⟩
theorem solve_reduced_lead_c {Fs : List Hp} {G : Hp} {p0 : Nat} {x0_0 : Int} {x0_1 : Int} {a0_2 : Option Addr} {k0_2 : Nat} {x0_2 : List (List Int)} {cc0_2 : List Value} {ee0_2 : List NE} {x0_3 : Int} {x0_4 : List Int} {x1 : Int} {r : ((List (List Int)) × Int × (List Int))} (hG : G ∈ Fs) (oo0_2 : NL (Rep.int .i64) G ee0_2 cc0_2 x0_2) (hnx0_4 : x0_4.length = 32) (h : solve_reduced_lead (x0_0, x0_1, x0_2, x0_3, x0_4) x1 = some r) : RetS Tryz.prog 201 #[.pointer (some ⟨p0, 0, none⟩), .int .i64 x1] Fs [(p0, .cells (([.int .i64 x0_0, .int .i64 x0_1, .slice a0_2 x0_2.length k0_2, .int .i64 x0_3] : List Value) ++ List.map (Value.int .i64) x0_4).toArray 286 (0, 0))] [.s (.slice a0_2 x0_2.length k0_2) 22 1 x0_2.length cc0_2, .g (packG 3 1 ee0_2)] (fun v bo so => ∃ le0 : List NE, ∃ lc0 : List Value, v = .tuple #[] ∧ bo = [(p0, .cells (([.int .i64 x0_0, .int .i64 x0_1, .slice a0_2 r.1.length k0_2, .int .i64 r.2.1] : List Value) ++ List.map (Value.int .i64) r.2.2).toArray 286 (0, 0))] ∧ so = [.s (.slice a0_2 r.1.length k0_2) 22 1 r.1.length lc0, .g (packG 3 1 le0)] ∧ NL (Rep.int .i64) G le0 lc0 r.1 ∧ r.1.length = x0_2.length ∧ r.2.2.length = 32) := by
 unfold solve_reduced_lead at h
 try dsimp only at h
 refine RetS.of (vs := [_, _]) Tryz.func201 rfl Tryz.ntmps201 [(0, _), (1, _)] ⟨rfl, rfl, trivial⟩ rfl hG fun w0 S0 hS0 B0 => ?_
 refine .seq ?_;refine .region rfl ?_;refine .mv rfl rfl ?_;refine .q .ro (.nilCheck rfl rfl) rfl ?_;refine .q .ro (.fieldAddr 3 rfl fl286_3 ty3.sz rfl) rfl ?_;refine .q .ro (.load_own 0 rfl rfl ty3 rfl) rfl ?_;refine .av rfl rfl ?_;refine .re ?_;refine .seq ?_
 refine .cutB (β := Int) (fun y => [(4, .int .i64 y)]) [(0, _), (1, _)] (fun y => G :: Fs) (fun y => []) [_] (fun y => []) [_, _] (fun y => (solve_reduced_lead_J6 x1 x0_0 x0_3 x0_4 x0_2) y = some r) ⟨rfl, rfl, trivial⟩ [0] rfl [0, 1] rfl ?_ ?_
 ·intro v95 hI
  have r97 := hI; clear hI
  refine .prune [(4, .int .i64 v95), (0, _), (1, _)] ⟨rfl, rfl, rfl, trivial⟩ ?_;refine .same (bl' := [_]) (sl' := [_, _]) (Fs' := G :: Fs) rfl rfl rfl ?_
  unfold solve_reduced_lead_J6 at r97
  try dsimp only at r97
  refine .seq ?_;refine .seq ?_;refine .region rfl ?_;refine .mv rfl rfl ?_;refine .mv rfl rfl ?_;refine .q .ro (.nilCheck rfl rfl) rfl ?_;refine .q .ro (.fieldAddr 2 rfl fl286_2 ty51.sz rfl) rfl ?_;refine .q .ro (.load_own 0 rfl rfl ty51 rfl) rfl ?_;refine .q .ro (.len_sl rfl rfl sl51) rfl ?_
  refine .q .ro (.eql rfl rfl) rfl ?_;refine .re ?_
  refine .cond_dec rfl (fun c10 => ?_) (fun c10 => ?_)
  ·have r11 := ifT r97 c10; clear r97
   cases r11
   refine .retS (c := ⟨201, none⟩) (.inr ⟨_, rfl⟩) [] [] rfl Tryz.func201 Tryz.results201 trivial mcm ⟨ee0_2, cc0_2, rfl, rfl, rfl, oo0_2, rfl, hnx0_4⟩
  ·have r12 := ifF r97 c10; clear r97
   refine .skip ?_;refine .seq ?_;refine .cutG (β := List (List Int) × List NE × List Value) (fun y => []) [(0, _), (1, _)] (fun y => G :: Fs) (fun y => [(p0, .cells (([.int .i64 x0_0, .int .i64 x0_1, .slice a0_2 y.1.length k0_2, .int .i64 x0_3] : List Value) ++ List.map (Value.int .i64) x0_4).toArray 286 (0, 0))]) [] (fun y => [.s (.slice a0_2 y.1.length k0_2) 22 1 y.1.length y.2.2, .g (packG 3 1 y.2.1)]) [] (fun y => NL (Rep.int .i64) G y.2.1 y.2.2 y.1 ∧ y.1.length = x0_2.length ∧ (solve_reduced_lead_J5 x1 x0_0 x0_3 x0_4) y.1 = some r) ⟨rfl, rfl, trivial⟩ [] rfl [] rfl ?_ ?_
   ·intro y hI
    obtain ⟨v13, es14, cs15⟩ := y
    obtain ⟨o16, hl17, r18⟩ := hI
    try dsimp only at o16 hl17 r18
    refine .prune [(0, _), (1, _)] ⟨rfl, rfl, trivial⟩ ?_;refine .same (bl' := [(p0, .cells (([.int .i64 x0_0, .int .i64 x0_1, .slice a0_2 v13.length k0_2, .int .i64 x0_3] : List Value) ++ List.map (Value.int .i64) x0_4).toArray 286 (0, 0))]) (sl' := [.s (.slice a0_2 v13.length k0_2) 22 1 v13.length cs15, .g (packG 3 1 es14)]) (Fs' := G :: Fs) rfl rfl rfl ?_
    unfold solve_reduced_lead_J5 at r18
    try dsimp only at r18
    refine .seq ?_;refine .drawL (.q 0 (.q 1 (.q 2 (.q 3 (.q 4 (.q 5 (.q 6 (.q 7 (.e 8 1 (.e 9 1 (.q 10 .nil))))))))))) [_] (by kernel_rfl) (by kernel_rfl) (pick_mem [0] rfl) ?_;refine .dq (.move rfl) rfl ?_;refine .dq (.nilCheck rfl rfl) rfl ?_;refine .dq (.fieldAddr 2 rfl fl286_2 ty51.sz rfl) rfl ?_;refine .dq (.load_own 0 rfl rfl ty51 rfl) rfl ?_;refine .dq (.move rfl) rfl ?_;refine .dq (.nilCheck rfl rfl) rfl ?_;refine .dq (.fieldAddr 3 rfl fl286_3 ty3.sz rfl) rfl ?_
    refine .dq (.load_own 0 rfl rfl ty3 rfl) rfl ?_
    obtain ⟨u19, hu19, r20⟩ := bind_some r18; clear r18
    obtain ⟨e21, he23, hn24, ho25, p26⟩ := NL.get o16 hu19
    refine .q .d1 (.idxO 0 rfl rfl rfl hu19 sl51 ty22.sz) rfl ?_;refine .clsL (HpLe.refl _) (pick_mem [0] rfl) ?_;refine .q .d1 (.loadO 0 0 rfl hu19 p26 rfl (.inl ⟨rfl, rfl⟩) ty22 rfl) rfl ?_;refine .clsL (HpLe.refl _) (pick_mem [0] rfl) ?_;refine .dq (.assign rfl) rfl ?_;refine .draw_end ?_;refine .seq ?_;refine .drawL (.q 0 (.q 1 (.q 2 (.q 3 (.q 4 (.q 5 (.e 6 1 (.e 7 1 (.e 8 1 (.q 9 .nil)))))))))) [_] (by kernel_rfl) (by kernel_rfl) (pick_mem [0] rfl) ?_;refine .dq (.move rfl) rfl ?_
    refine .dq (.nilCheck rfl rfl) rfl ?_;refine .dq (.fieldAddr 0 rfl fl286_0 ty140.sz rfl) rfl ?_;refine .dq (.load_own 0 rfl rfl ty140 rfl) rfl ?_;refine .dq (.move rfl) rfl ?_;refine .dq (.move rfl) rfl ?_
    obtain ⟨u27, hu27, r28⟩ := bind_some r20; clear r20
    obtain ⟨c29, p30, h31⟩ := OL.get ho25 hu27
    obtain rfl := h31
    refine .q .d1 (.inN 1 rfl he23 hn24 (.idxO (l := u19) 0 rfl rfl rfl hu27 sl22 ty3.sz)) rfl ?_;refine .clsL (HpLe.refl _) (pick_mem [0] rfl) ?_;refine .q .d1 (.inN 1 rfl he23 hn24 (.loadO (l := u19) 0 0 rfl hu27 p30 rfl (.inl ⟨rfl, rfl⟩) ty3 rfl)) rfl ?_;refine .clsL (HpLe.refl _) (pick_mem [0] rfl) ?_
    obtain ⟨u32, hu32, r33⟩ := bind_some r28; clear r28
    refine .callS (b1 := []) (b2 := [_]) (s1 := []) [_, _] [] .d1 rfl rfl Tryz.call197 rfl rfl (residue_Field_Inverse_c (G := G) List.mem_cons_self  hu32) rfl (fun v34 bo so h35 => ?_)
    obtain ⟨rfl, rfl, rfl⟩ := h35
    refine .same (bl' := [_]) (sl' := [_, _]) rfl rfl rfl ?_;refine .clsL (HpLe.refl _) (pick_mem [0] rfl) ?_;refine .dq (.assign rfl) rfl ?_;refine .draw_end ?_;refine .prune [(0, _), (1, _), (5, _), (6, _)] ⟨rfl, rfl, rfl, rfl, trivial⟩ ?_;refine .seq ?_;refine .seq ?_;refine .region rfl ?_;refine .mv rfl rfl ?_
    refine .q .ro (.len_sl rfl rfl sl22) rfl ?_;refine .mv rfl rfl ?_;refine .re ?_;refine .cutB (β := List (List Int) × List NE × List Value) (fun y => []) [(0, _), (1, _), (5, _)] (fun y => G :: Fs) (fun y => [(p0, .cells (([.int .i64 x0_0, .int .i64 x0_1, .slice a0_2 y.1.length k0_2, .int .i64 x0_3] : List Value) ++ List.map (Value.int .i64) x0_4).toArray 286 (0, 0))]) [] (fun y => [.s (.slice a0_2 y.1.length k0_2) 22 1 y.1.length y.2.2, .g (packG 3 1 y.2.1)]) [] (fun y => NL (Rep.int .i64) G y.2.1 y.2.2 y.1 ∧ y.1.length = x0_2.length ∧ HD y.2.1 x0_3 e21.h ∧ (solve_reduced_lead_J3 x1 x0_3 x0_0 x0_4) y.1 = some r) ⟨rfl, rfl, rfl, trivial⟩ [] rfl [] rfl ?_ ?_
    ·intro y hI
     obtain ⟨v36, es37, cs38⟩ := y
     obtain ⟨o39, hl40, hd41, r42⟩ := hI
     try dsimp only at o39 hl40 hd41 r42
     refine .prune [(0, _), (1, _), (5, _)] ⟨rfl, rfl, rfl, trivial⟩ ?_;refine .same (bl' := [(p0, .cells (([.int .i64 x0_0, .int .i64 x0_1, .slice a0_2 v36.length k0_2, .int .i64 x0_3] : List Value) ++ List.map (Value.int .i64) x0_4).toArray 286 (0, 0))]) (sl' := [.s (.slice a0_2 v36.length k0_2) 22 1 v36.length cs38, .g (packG 3 1 es37)]) (Fs' := G :: Fs) rfl rfl rfl ?_
     unfold solve_reduced_lead_J3 at r42
     try dsimp only at r42
     refine .seq ?_;refine .seq ?_;refine .region rfl ?_;refine .mv rfl rfl ?_;refine .q .ro (.nilCheck rfl rfl) rfl ?_;refine .q .ro (.fieldAddr 2 rfl fl286_2 ty51.sz rfl) rfl ?_;refine .q .ro (.load_own 0 rfl rfl ty51 rfl) rfl ?_;refine .q .ro (.len_sl rfl rfl sl51) rfl ?_;refine .mv rfl rfl ?_
     refine .re ?_;refine .cutB (β := List (List Int) × List NE × List Value) (fun y => []) [(0, _), (1, _)] (fun y => G :: Fs) (fun y => [(p0, .cells (([.int .i64 x0_0, .int .i64 x0_1, .slice a0_2 y.1.length k0_2, .int .i64 x0_3] : List Value) ++ List.map (Value.int .i64) x0_4).toArray 286 (0, 0))]) [] (fun y => [.s (.slice a0_2 y.1.length k0_2) 22 1 y.1.length y.2.2, .g (packG 3 1 y.2.1)]) [] (fun y => NL (Rep.int .i64) G y.2.1 y.2.2 y.1 ∧ y.1.length = x0_2.length ∧ (solve_reduced_lead_J1 x1 x0_3 x0_4) y.1 = some r) ⟨rfl, rfl, trivial⟩ [] rfl [] rfl ?_ ?_
     ·intro y hI
      obtain ⟨v43, es44, cs45⟩ := y
      obtain ⟨o46, hl47, r48⟩ := hI
      try dsimp only at o46 hl47 r48
      refine .prune [(0, _), (1, _)] ⟨rfl, rfl, trivial⟩ ?_;refine .same (bl' := [(p0, .cells (([.int .i64 x0_0, .int .i64 x0_1, .slice a0_2 v43.length k0_2, .int .i64 x0_3] : List Value) ++ List.map (Value.int .i64) x0_4).toArray 286 (0, 0))]) (sl' := [.s (.slice a0_2 v43.length k0_2) 22 1 v43.length cs45, .g (packG 3 1 es44)]) (Fs' := G :: Fs) rfl rfl rfl ?_
      unfold solve_reduced_lead_J1 at r48
      try dsimp only at r48
      refine .seq ?_;refine .region rfl ?_;refine .mv rfl rfl ?_;refine .q .ro (.nilCheck rfl rfl) rfl ?_;refine .q .ro (.fieldAddr 3 rfl fl286_3 ty3.sz rfl) rfl ?_;refine .q .ro (.load_own 0 rfl rfl ty3 rfl) rfl ?_;refine .q .ro (.addw rfl rfl) rfl ?_;refine .q .ro (.nilCheck rfl rfl) rfl ?_;refine .q .ro (.fieldAddr 3 rfl fl286_3 ty3.sz rfl) rfl ?_
      refine .store 0 ([_, _, _, _] ++ List.map (Value.int .i64) x0_4) [_] .ro rfl rfl rfl ty3 rfl rfl rfl rfl ?_;refine .re ?_;refine .drawL (.q 0 (.q 1 (.q 2 (.q 3 (.q 4 (.q 5 (.q 6 (.q 7 (.q 8 (.e 9 2 .nil)))))))))) [_] (by kernel_rfl) (by kernel_rfl) (pick_mem [0] rfl) ?_;refine .dq (.move rfl) rfl ?_;refine .dq (.move rfl) rfl ?_;refine .dq (.move rfl) rfl ?_;refine .dq (.nilCheck rfl rfl) rfl ?_;refine .dq (.fieldAddr 3 rfl fl286_3 ty3.sz rfl) rfl ?_;refine .dq (.load_own 0 rfl rfl ty3 rfl) rfl ?_
      refine .dq (.nilCheck rfl rfl) rfl ?_;refine .dq (.fieldAddr 4 rfl fl286_4 ty284.sz rfl) rfl ?_
      obtain ⟨u49, hu49, r50⟩ := bind_some r48; clear r48
      refine .dq (.indexAddr_ar (4 + (x1).toNat) rfl rfl ar284 ty3.sz (lidx_some hu49).1 (lt_of_lt_of_len (lidx_some hu49).2.1 hnx0_4) (by rw [Nat.mul_one])) rfl ?_
      obtain ⟨u52, hu52, r53⟩ := bind_some r50; clear r50
      refine .storeArr 0 (pre := [_, _, _, _]) (L := x0_4) (n := x1) .d2 rfl rfl rfl ty3 rfl hu52 (fun hl54 => ?_)
      refine .same (bl' := [(_, .cells ([_, _, _, _] ++ List.map (Value.int .i64) u52).toArray _ (0, 0))]) (sl' := [_, _]) rfl rfl rfl ?_;refine .draw_end ?_;refine .prune [] trivial ?_
      cases r53
      refine .retS (c := ⟨201, none⟩) (.inl rfl) [] [] rfl Tryz.func201 Tryz.results201 trivial mcm ⟨es44, cs45, rfl, rfl, rfl, o46, hl47, (hl54.trans hnx0_4)⟩
     ·intro hb55
      refine .block ?_;refine .pullS 1 rfl [_, _] rfl ?_;refine .pullS 1 rfl [_, _] rfl ?_
      refine .loop2 (α := Nat × List (List Int) × List (List Int) × List NE × List Value) (fun y => [(116, .slice a0_2 y.2.2.1.length k0_2), (118, .int .i64 (y.1 : Int))]) [(0, _), (1, _), (5, _), (117, _)] (fun y => []) (fun y => [(p0, .cells (([.int .i64 x0_0, .int .i64 x0_1, .slice a0_2 y.2.2.1.length k0_2, .int .i64 x0_3] : List Value) ++ List.map (Value.int .i64) x0_4).toArray 286 (0, 0))]) [] (fun y => [.s (.slice a0_2 y.2.2.1.length k0_2) 22 1 y.2.2.1.length y.2.2.2.2, .g (packG 3 1 y.2.2.2.1)]) [] (fun y => NL (Rep.int .i64) G y.2.2.2.1 y.2.2.2.2 y.2.2.1 ∧ y.2.2.1.length = x0_2.length ∧ HD y.2.2.2.1 x0_3 e21.h ∧ List.drop y.1 v36 = y.2.1 ∧ solve_reduced_lead_L2 (solve_reduced_lead_J1 x1 x0_3 x0_4) x1 x0_3 x0_0 y.2.1 y.1 y.2.2.1 = some r) (fun y => y.2.1.length) (0, v36, v36, es37, cs38) ⟨o39, hl40, hd41, rfl, r42⟩ ⟨rfl, rfl, rfl, rfl, rfl, rfl, trivial⟩ rfl rfl rfl (fun y hI hb56 => ?_)
      obtain ⟨i57, w58, v59, es60, cs61⟩ := y
      obtain ⟨o62, hl63, hd65, g66, r68⟩ := hI
      try dsimp only at o62 hl63 hd65 g66 r68
      refine .prune [(116, .slice a0_2 v59.length k0_2), (118, .int .i64 (i57 : Int)), (0, _), (1, _), (5, _), (117, _)] ⟨rfl, rfl, rfl, rfl, rfl, rfl, trivial⟩ ?_;refine .same (bl' := [(p0, .cells (([.int .i64 x0_0, .int .i64 x0_1, .slice a0_2 v59.length k0_2, .int .i64 x0_3] : List Value) ++ List.map (Value.int .i64) x0_4).toArray 286 (0, 0))]) (sl' := [.s (.slice a0_2 v59.length k0_2) 22 1 v59.length cs61, .g (packG 3 1 es60)]) (Fs' := G :: Fs) rfl rfl rfl ?_
      cases w58 with
      | nil =>
       rw [solve_reduced_lead_L2] at r68; try dsimp only at r68
       refine .seq ?_;refine .region rfl ?_;refine .q .ro (.lss rfl rfl) rfl ?_;refine .re ?_;refine .seq ?_
       refine .cond_dec rfl (fun c => absurd c (drop_nil g66)) (fun _ => ?_)
       refine .exit rfl ?_
       refine .prune _ ?_ (Cov.same rfl rfl rfl (hb55 (v59, es60, cs61) ⟨o62, hl63, r68⟩))
       exact ⟨rfl, rfl, trivial⟩
      | cons x69 xs70 =>
       have r71 : solve_reduced_lead_B2 (solve_reduced_lead_J1 x1 x0_3 x0_4) x1 x0_3 x0_0 (solve_reduced_lead_L2 (solve_reduced_lead_J1 x1 x0_3 x0_4) x1 x0_3 x0_0 xs70 (i57 + 1)) x69 i57 v59 = some r := r68; clear r68; unfold solve_reduced_lead_B2 at r71; try dsimp only at r71
       refine .seq ?_;refine .region rfl ?_;refine .q .ro (.lss rfl rfl) rfl ?_;refine .re ?_;refine .seq ?_
       refine .cond_dec rfl (fun _ => ?_) (fun c => absurd (drop_lt g66) c)
       refine .skip ?_;refine .seq ?_;refine .block ?_;refine .seq ?_;refine .region rfl ?_;refine .mv rfl rfl ?_
       obtain ⟨u72, hu72, r73⟩ := bind_some r71; clear r71
       obtain ⟨e74, he75, hn76, ho78, p79⟩ := NL.get o62 hu72
       refine .q .ro (.idxO 0 rfl rfl rfl hu72 sl51 ty22.sz) rfl ?_;refine .q .ro (.loadO 0 0 rfl hu72 p79 rfl (.inl ⟨rfl, rfl⟩) ty22 rfl) rfl ?_;refine .av rfl rfl ?_;refine .av rfl rfl ?_;refine .re ?_;refine .seq ?_;refine .region rfl ?_;refine .mv rfl rfl ?_;refine .mv rfl rfl ?_
       refine .q .ro (.nilCheck rfl rfl) rfl ?_;refine .q .ro (.fieldAddr 3 rfl fl286_3 ty3.sz rfl) rfl ?_;refine .q .ro (.load_own 0 rfl rfl ty3 rfl) rfl ?_;refine .q .ro (.neq rfl rfl) rfl ?_;refine .mv rfl rfl ?_
       obtain ⟨u80, h81, r82⟩ := bind_some r73; clear r73
       refine .cutR 6 (β := Unit) (fun y => [(135, .bool u80)]) [(116, _), (118, _), (0, _), (1, _), (5, _), (117, _), (10, _)] (fun y => G :: Fs) (fun y => []) [_] (fun y => []) [_, _] (fun y => True) ⟨rfl, rfl, rfl, rfl, rfl, rfl, rfl, trivial⟩ [0] rfl [0, 1] rfl ?_ ?_
       ·rintro _ _
        refine .prune [(135, .bool u80), (116, _), (118, _), (0, _), (1, _), (5, _), (117, _), (10, _)] ⟨rfl, rfl, rfl, rfl, rfl, rfl, rfl, rfl, trivial⟩ ?_;refine .same (bl' := [_]) (sl' := [_, _]) (Fs' := G :: Fs) rfl rfl rfl ?_;refine .re ?_
        refine .cond rfl (fun c83 => ?_) (fun c83 => ?_)
        ·have r84 := ifT r82 c83; clear r82
         refine .drawL (.q 0 (.q 1 (.q 2 (.q 3 (.q 4 (.q 5 (.q 6 (.q 7 (.q 8 (.q 9 (.q 10 (.q 14 (.e 11 1 (.e 12 1 (.e 13 1 (.e 15 2 .nil)))))))))))))))) [_] (by kernel_rfl) (by kernel_rfl) (pick_mem [0] rfl) ?_;refine .dq (.move rfl) rfl ?_;refine .dq (.nilCheck rfl rfl) rfl ?_;refine .dq (.fieldAddr 0 rfl fl286_0 ty140.sz rfl) rfl ?_;refine .dq (.load_own 0 rfl rfl ty140 rfl) rfl ?_;refine .dq (.move rfl) rfl ?_;refine .dq (.move rfl) rfl ?_;refine .dq (.nilCheck rfl rfl) rfl ?_;refine .dq (.fieldAddr 0 rfl fl286_0 ty140.sz rfl) rfl ?_
         refine .dq (.load_own 0 rfl rfl ty140 rfl) rfl ?_;refine .dq (.move rfl) rfl ?_;refine .dq (.move rfl) rfl ?_;refine .dq (.move rfl) rfl ?_
         obtain ⟨u85, hu85, r86⟩ := bind_some r84; clear r84
         obtain ⟨c87, p88, h89⟩ := OL.get ho78 hu85
         obtain rfl := h89
         refine .q .d1 (.inN 1 rfl he75 hn76 (.idxO (l := u72) 0 rfl rfl rfl hu85 sl22 ty3.sz)) rfl ?_;refine .clsL (HpLe.refl _) (pick_mem [0] rfl) ?_;refine .q .d1 (.inN 1 rfl he75 hn76 (.loadO (l := u72) 0 0 rfl hu85 p88 rfl (.inl ⟨rfl, rfl⟩) ty3 rfl)) rfl ?_;refine .clsL (HpLe.refl _) (pick_mem [0] rfl) ?_
         obtain ⟨u90, hu90, r91⟩ := bind_some r86; clear r86
         refine .callS (b1 := []) (b2 := [_]) (s1 := []) [_, _, _] [] .d1 rfl rfl Tryz.call190 rfl rfl (residue_Field_Sub_c (G := G) List.mem_cons_self  hu90) rfl (fun v92 bo so h93 => ?_)
         obtain ⟨rfl, rfl, rfl⟩ := h93
         refine .same (bl' := [_]) (sl' := [_, _]) rfl rfl rfl ?_;refine .clsL (HpLe.refl _) (pick_mem [0] rfl) ?_
         obtain ⟨u94, hu94, r96⟩ := bind_some r91; clear r91
         obtain ⟨e98, he99, hn100, ho101, p102, ea103, ek104, el105⟩ := NL.getH o62 hu94 hd65 hn24
         refine .takeN 1 rfl he99 hn100 ?_;refine .revalV 150 (v' := .slice e98.a u94.length e98.k) (by rw [ea103, ek104, el105]) rfl ?_
         obtain ⟨u106, hu106, r107⟩ := bind_some r96; clear r96
         refine .takeN 2 rfl (NL.ne he75 (lidx_nn hu94) (lidx_nn hu72) (lne_some hu106)) hn76 ?_
         refine .toV 0 rfl (fun vb108 po109 va110 vb111 => ?_)
         obtain ⟨u112, hu112, r113⟩ := bind_some r107; clear r107
         refine .pullS 1 rfl [_, _, _, _] rfl ?_;refine .pullS 1 rfl [_, _, _, _] rfl ?_
         refine .callB (Q := fun v bo so => ∃ lc0 : List Value, v = .tuple #[] ∧ bo = [] ∧ so = [.g (viewG vb108 3 [] lc0 po109)] ∧ OL (Rep.int .i64) G lc0 u112 ∧ u112.length = u72.length) (b1 := []) (b2 := [_]) (s1 := [_]) (sB := [_]) (s2 := [_, _]) [_, _, _, _] [] .d2 rfl rfl Tryz.call67 rfl rfl (fun Fs' G' hle hB hm => RetG.mono (residue_Field_AddTimes_c (G := G') hm va110 (OL.mono hle ho78) (SlR.rd ho101 rfl hle (hB _ (List.mem_of_getElem? (i := 0) rfl))) hu112) (fun v _ bo so h => by obtain ⟨l0c, e1, e2, e3, f0, f1⟩ := h; exact ⟨l0c, e1, e2, e3, OL.flat (Rep.flat_int _) f0, f1⟩)) rfl (fun v114 bo so h115 => ?_)
         obtain ⟨cs116, rfl, rfl, rfl, o117, hl118⟩ := h115
         refine .same (bl' := [_]) (sl' := [_, _, _, _]) rfl rfl rfl ?_;refine .ofV 0 rfl vb111 hl118 o117 rfl ?_
         obtain ⟨u119, hu119, r120⟩ := bind_some r113; clear r113
         refine .backN2 1 2 (i := (i57 : Int)) (j := x0_3) rfl rfl rfl o62 he75 he99 (lidx_nn hu72) (lidx_nn hu94) (Ne.symm (lne_some hu106)) (Eq.trans hl118 hn76.symm) o117 hu119 (fun es121 hles121 o122 hmes121 he123 => ?_)
         refine .reval 116 hles121 rfl ?_;refine .recell 0 (([_, _, .slice a0_2 u119.length k0_2, _] : List Value) ++ List.map (Value.int .i64) x0_4) rfl (by rw [hles121]) [_] rfl ?_;refine .backS 1 (i := x0_3) (e := e98) rfl rfl he123 hn100 ?_;refine .draw_end ?_;refine .prune [(116, _), (118, _), (0, _), (1, _), (5, _), (117, _)] ⟨rfl, rfl, rfl, rfl, rfl, rfl, trivial⟩ ?_;refine .inBlock ?_;refine .region rfl ?_;refine .q .ro (.addw rfl rfl) rfl ?_;refine .mv rfl rfl ?_
         refine .re ?_
         refine .prune _ ?_ (Cov.same rfl rfl rfl (hb56 ((i57 + 1), xs70, u119, es121, cs61) ⟨o122, (hles121.trans hl63), (HD.of hmes121 hd65), (drop_succ g66), r120⟩ (Nat.lt_succ_self _)))
         exact ⟨rfl, (congrArg (fun z => some (Value.int .i64 z)) (idx_wrap (NL.len' o39) g66)), rfl, rfl, rfl, rfl, trivial⟩
        ·have r124 := ifBF r82 c83; clear r82
         refine .skip ?_;refine .inBlock ?_;refine .region rfl ?_;refine .q .ro (.addw rfl rfl) rfl ?_;refine .mv rfl rfl ?_;refine .re ?_
         refine .prune _ ?_ (Cov.same rfl rfl rfl (hb56 ((i57 + 1), xs70, v59, es60, cs61) ⟨o62, hl63, hd65, (drop_succ g66), r124⟩ (Nat.lt_succ_self _)))
         exact ⟨rfl, (congrArg (fun z => some (Value.int .i64 z)) (idx_wrap (NL.len' o39) g66)), rfl, rfl, rfl, rfl, trivial⟩
       ·intro hb125
        refine .split 129 rfl (fun c126 => ?_) (fun c126 => ?_)
        ·have r127 := ifT h81 c126
         refine .g_on rfl ?_;refine .mv rfl rfl ?_;refine .g_on rfl ?_;refine .mv rfl rfl ?_;refine .g_on rfl ?_
         obtain ⟨u128, hu128, r129⟩ := bind_some r127; clear r127
         obtain ⟨c130, p131, h132⟩ := OL.get ho78 hu128
         obtain rfl := h132
         refine .q .ro (.inN 1 rfl he75 hn76 (.idxO (l := u72) 0 rfl rfl rfl hu128 sl22 ty3.sz)) rfl ?_;refine .g_on rfl ?_;refine .q .ro (.inN 1 rfl he75 hn76 (.loadO (l := u72) 0 0 rfl hu128 p131 rfl (.inl ⟨rfl, rfl⟩) ty3 rfl)) rfl ?_;refine .g_on rfl ?_;refine .q .ro (.neq rfl rfl) rfl ?_;refine .q .ro (.pick_t rfl rfl) rfl ?_
         refine .prune _ ?_ (Cov.same rfl rfl rfl (hb125 () trivial))
         exact ⟨sval r129, rfl, rfl, rfl, rfl, rfl, rfl, rfl, trivial⟩
        ·have r133 := ifF h81 c126
         refine .g_off rfl rfl rfl ?_;refine .g_off rfl rfl rfl ?_;refine .g_off rfl rfl rfl ?_;refine .g_off rfl rfl rfl ?_;refine .g_off rfl rfl rfl ?_;refine .q .ro (.pick_f rfl rfl) rfl ?_
         refine .prune _ ?_ (Cov.same rfl rfl rfl (hb125 () trivial))
         exact ⟨sval r133, rfl, rfl, rfl, rfl, rfl, rfl, rfl, trivial⟩
    ·intro hb134
     refine .block ?_;refine .pullS 1 rfl [_, _] rfl ?_;refine .pullS 1 rfl [_, _] rfl ?_
     refine .loop2 (α := Nat × List Int × List (List Int) × List NE × List Value) (fun y => [(97, .int .i64 (y.1 : Int))]) [(0, _), (1, _), (5, _), (6, _), (95, _), (96, _)] (fun y => []) (fun y => [(p0, .cells (([.int .i64 x0_0, .int .i64 x0_1, .slice a0_2 y.2.2.1.length k0_2, .int .i64 x0_3] : List Value) ++ List.map (Value.int .i64) x0_4).toArray 286 (0, 0))]) [] (fun y => [.s (.slice a0_2 y.2.2.1.length k0_2) 22 1 y.2.2.1.length y.2.2.2.2, .g (packG 3 1 y.2.2.2.1)]) [] (fun y => NL (Rep.int .i64) G y.2.2.2.1 y.2.2.2.2 y.2.2.1 ∧ y.2.2.1.length = x0_2.length ∧ HD y.2.2.2.1 x0_3 e21.h ∧ HD y.2.2.2.1 x0_3 e21.h ∧ List.drop y.1 u19 = y.2.1 ∧ solve_reduced_lead_L4 (solve_reduced_lead_J3 x1 x0_3 x0_0 x0_4) x0_3 u32 x0_0 y.2.1 y.1 y.2.2.1 = some r) (fun y => y.2.1.length) (0, u19, v13, es14, cs15) ⟨o16, hl17, (HD.mk he23), (HD.mk he23), rfl, r33⟩ ⟨rfl, rfl, rfl, rfl, rfl, rfl, rfl, trivial⟩ rfl rfl rfl (fun y hI hb135 => ?_)
     obtain ⟨i136, w137, v138, es139, cs141⟩ := y
     obtain ⟨o142, hl143, hd144, hd145, g146, r147⟩ := hI
     try dsimp only at o142 hl143 hd144 hd145 g146 r147
     refine .prune [(97, .int .i64 (i136 : Int)), (0, _), (1, _), (5, _), (6, _), (95, _), (96, _)] ⟨rfl, rfl, rfl, rfl, rfl, rfl, rfl, trivial⟩ ?_;refine .same (bl' := [(p0, .cells (([.int .i64 x0_0, .int .i64 x0_1, .slice a0_2 v138.length k0_2, .int .i64 x0_3] : List Value) ++ List.map (Value.int .i64) x0_4).toArray 286 (0, 0))]) (sl' := [.s (.slice a0_2 v138.length k0_2) 22 1 v138.length cs141, .g (packG 3 1 es139)]) (Fs' := G :: Fs) rfl rfl rfl ?_
     cases w137 with
     | nil =>
      rw [solve_reduced_lead_L4] at r147; try dsimp only at r147
      refine .seq ?_;refine .region rfl ?_;refine .q .ro (.lss rfl rfl) rfl ?_;refine .re ?_;refine .seq ?_
      refine .cond_dec rfl (fun c => absurd c (drop_nil g146)) (fun _ => ?_)
      refine .exit rfl ?_
      refine .prune _ ?_ (Cov.same rfl rfl rfl (hb134 (v138, es139, cs141) ⟨o142, hl143, hd144, r147⟩))
      exact ⟨rfl, rfl, rfl, trivial⟩
     | cons x148 xs149 =>
      have r150 : solve_reduced_lead_B4 (solve_reduced_lead_J3 x1 x0_3 x0_0 x0_4) x0_3 u32 x0_0 (solve_reduced_lead_L4 (solve_reduced_lead_J3 x1 x0_3 x0_0 x0_4) x0_3 u32 x0_0 xs149 (i136 + 1)) x148 i136 v138 = some r := r147; clear r147; unfold solve_reduced_lead_B4 at r150; try dsimp only at r150
      refine .seq ?_;refine .region rfl ?_;refine .q .ro (.lss rfl rfl) rfl ?_;refine .re ?_;refine .seq ?_
      refine .cond_dec rfl (fun _ => ?_) (fun c => absurd (drop_lt g146) c)
      refine .skip ?_;refine .seq ?_;refine .block ?_;refine .seq ?_;refine .region rfl ?_;refine .mv rfl rfl ?_
      obtain ⟨u151, hu151, r152⟩ := bind_some r150; clear r150
      obtain ⟨e153, he154, hn155, ho156, p157, ea158, ek159, el160⟩ := NL.getH o142 hu151 hd145 hn24
      obtain ⟨u161, hu161, r162⟩ := bind_some r152; clear r152
      obtain ⟨c163, p164, h165⟩ := OL.get ho156 hu161
      obtain rfl := h165
      refine .q .ro (.idxNH 1 (l := u151) rfl he154 hn155 ea158 ek159 el160 rfl rfl hu161 sl22 ty3.sz) rfl ?_;refine .q .ro (.inN 1 rfl he154 hn155 (.loadO (l := u151) 0 0 rfl hu161 p164 rfl (.inl ⟨rfl, rfl⟩) ty3 rfl)) rfl ?_;refine .av rfl rfl ?_;refine .av rfl rfl ?_;refine .re ?_;refine .region rfl ?_;refine .mv rfl rfl ?_;refine .mv rfl rfl ?_;refine .mv rfl rfl ?_
      refine .q .ro (.nilCheck rfl rfl) rfl ?_;refine .q .ro (.fieldAddr 0 rfl fl286_0 ty140.sz rfl) rfl ?_;refine .q .ro (.load_own 0 rfl rfl ty140 rfl) rfl ?_;refine .mv rfl rfl ?_;refine .mv rfl rfl ?_
      obtain ⟨u166, hu166, r167⟩ := bind_some r162; clear r162
      refine .callS (b1 := []) (b2 := [_]) (s1 := []) [_, _, _] [] .ro rfl rfl Tryz.call77 rfl rfl (residue_Field_Mul_c (G := G) List.mem_cons_self  hu166) rfl (fun v168 bo so h169 => ?_)
      obtain ⟨rfl, rfl, rfl⟩ := h169
      refine .same (bl' := [_]) (sl' := [_, _]) rfl rfl rfl ?_
      obtain ⟨u170, hu170, r171⟩ := bind_some r167; clear r167
      obtain ⟨e172, he173, hn174, ho175, p176, ea177, ek178, el179⟩ := NL.getH o142 hu170 hd144 hn24
      obtain ⟨u180, hu180, r181⟩ := bind_some r171; clear r171
      obtain ⟨c182, p183, h184⟩ := OL.get ho175 hu180
      obtain rfl := h184
      refine .q .ro (.idxNH 1 (l := u170) rfl he173 hn174 ea177 ek178 el179 rfl rfl hu180 sl22 ty3.sz) rfl ?_;refine .takeN 1 rfl he173 hn174 ?_
      obtain ⟨u185, hu185, r186⟩ := bind_some r181; clear r181
      refine .storeR 0 0 (Q := (Rep.int .i64)) .ro rfl rfl ho175 hu185 rfl (.inl ⟨rfl, rfl⟩) rfl ty3 p183 ((Rep.intI .i64 u166) :) rfl rfl (fun cs187 hlcs187 o188 => ?_)
      obtain ⟨u189, hu189, r191⟩ := bind_some r186; clear r186
      refine .backN 0 1 rfl rfl rfl o142 he173 (Eq.trans hlcs187 hn174.symm) o188 hu189 (fun es192 hles192 o193 hmes192 => ?_)
      refine .recell 0 (([_, _, .slice a0_2 u189.length k0_2, _] : List Value) ++ List.map (Value.int .i64) x0_4) rfl (by rw [hles192]) [_] rfl ?_;refine .re ?_;refine .prune [(97, _), (0, _), (1, _), (5, _), (6, _), (95, _), (96, _)] ⟨rfl, rfl, rfl, rfl, rfl, rfl, rfl, trivial⟩ ?_;refine .inBlock ?_;refine .region rfl ?_;refine .q .ro (.addw rfl rfl) rfl ?_;refine .mv rfl rfl ?_;refine .re ?_
      refine .prune _ ?_ (Cov.same rfl rfl rfl (hb135 ((i136 + 1), xs149, u189, es192, cs141) ⟨o193, (hles192.trans hl143), (HD.of hmes192 hd144), (HD.of hmes192 hd145), (drop_succ g146), r191⟩ (Nat.lt_succ_self _)))
      exact ⟨(congrArg (fun z => some (Value.int .i64 z)) (idx_wrap (OL.len' ho25) g146)), rfl, rfl, rfl, rfl, rfl, rfl, trivial⟩
   ·intro hb194
    refine .drawL (.q 0 (.q 1 (.q 2 (.q 3 (.q 4 (.q 5 (.q 6 (.q 7 (.q 8 (.q 9 (.q 10 (.q 11 (.q 12 (.q 13 (.q 14 (.q 15 (.q 16 (.q 17 (.q 20 (.q 21 (.q 22 (.q 23 (.q 24 (.q 25 (.q 26 (.q 27 (.alt (.e 18 1 (.alt (.e 19 1 (.e 28 1 (.e 29 1 (.e 30 1 (.e 31 1 (.e 32 2 (.e 33 2 .nil))))))) (.e 28 1 (.alt (.e 19 1 (.e 29 1 (.e 30 1 (.e 31 1 (.e 32 2 (.e 33 2 .nil)))))) (.e 29 1 (.e 19 1 (.e 30 1 (.e 31 1 (.e 32 2 (.e 33 2 .nil)))))))))) (.e 28 1 (.alt (.e 18 1 (.alt (.e 19 1 (.e 29 1 (.e 30 1 (.e 31 1 (.e 32 2 (.e 33 2 .nil)))))) (.e 29 1 (.e 19 1 (.e 30 1 (.e 31 1 (.e 32 2 (.e 33 2 .nil)))))))) (.e 29 1 (.e 18 1 (.e 19 1 (.e 30 1 (.e 31 1 (.e 32 2 (.e 33 2 .nil)))))))))))))))))))))))))))))))))))) [_] (by kernel_rfl) (by kernel_rfl) (pick_mem [0] rfl) ?_
    obtain ⟨u195, hu195, r196⟩ := bind_some r12; clear r12
    obtain ⟨u198, hu198, r199⟩ := bind_some r196; clear r196
    obtain ⟨u200, hu200, r202⟩ := bind_some r199; clear r199
    obtain ⟨u203, hu203, r204⟩ := bind_some r202; clear r202
    obtain ⟨u205, hu205, r206⟩ := bind_some r204; clear r204
    obtain ⟨u207, hu207, r208⟩ := bind_some r206; clear r206
    refine .dq (.move rfl) rfl ?_;refine .dq (.nilCheck rfl rfl) rfl ?_;refine .dq (.fieldAddr 2 rfl fl286_2 ty51.sz rfl) rfl ?_;refine .dq (.load_own 0 rfl rfl ty51 rfl) rfl ?_;refine .dq (.move rfl) rfl ?_;refine .dq (.nilCheck rfl rfl) rfl ?_;refine .dq (.fieldAddr 3 rfl fl286_3 ty3.sz rfl) rfl ?_;refine .dq (.load_own 0 rfl rfl ty3 rfl) rfl ?_;refine .dq (.move rfl) rfl ?_
    refine .dq (.nilCheck rfl rfl) rfl ?_;refine .dq (.fieldAddr 2 rfl fl286_2 ty51.sz rfl) rfl ?_;refine .dq (.load_own 0 rfl rfl ty51 rfl) rfl ?_;refine .dq (.move rfl) rfl ?_;refine .dq (.move rfl) rfl ?_;refine .dq (.nilCheck rfl rfl) rfl ?_;refine .dq (.fieldAddr 2 rfl fl286_2 ty51.sz rfl) rfl ?_;refine .dq (.load_own 0 rfl rfl ty51 rfl) rfl ?_;refine .dq (.move rfl) rfl ?_
    refine .dq (.move rfl) rfl ?_;refine .dq (.nilCheck rfl rfl) rfl ?_;refine .dq (.fieldAddr 2 rfl fl286_2 ty51.sz rfl) rfl ?_;refine .dq (.load_own 0 rfl rfl ty51 rfl) rfl ?_;refine .dq (.move rfl) rfl ?_;refine .dq (.nilCheck rfl rfl) rfl ?_;refine .dq (.fieldAddr 3 rfl fl286_3 ty3.sz rfl) rfl ?_;refine .dq (.load_own 0 rfl rfl ty3 rfl) rfl ?_;refine .alt ?_ ?_
    ·obtain ⟨e209, he210, hn211, ho212, p213⟩ := NL.get oo0_2 hu195
     refine .q .d1 (.idxO 0 rfl rfl rfl hu195 sl51 ty22.sz) rfl ?_;refine .clsL (HpLe.refl _) (pick_mem [0] rfl) ?_;refine .alt ?_ ?_
     ·refine .q .d1 (.loadO 0 0 rfl hu195 p213 rfl (.inl ⟨rfl, rfl⟩) ty22 rfl) rfl ?_
      refine .clsL (HpLe.refl _) (pick_mem [0] rfl) ?_
      obtain ⟨e214, he215, hn216, ho217, p218⟩ := NL.get oo0_2 hu198
      refine .q .d1 (.idxO 0 rfl rfl rfl hu198 sl51 ty22.sz) rfl ?_;refine .clsL (HpLe.refl _) (pick_mem [0] rfl) ?_;refine .q .d1 (.loadO 0 0 rfl hu198 p218 rfl (.inl ⟨rfl, rfl⟩) ty22 rfl) rfl ?_;refine .clsL (HpLe.refl _) (pick_mem [0] rfl) ?_
      obtain ⟨e219, he220, hn221, ho222, p223⟩ := NL.get oo0_2 hu200
      refine .q .d1 (.idxO 0 rfl rfl rfl hu200 sl51 ty22.sz) rfl ?_;refine .clsL (HpLe.refl _) (pick_mem [0] rfl) ?_
      refine .swap1 0 (Q := (Rep.int .i64)) (ej := e209) .d1 rfl oo0_2 hu200 hn211 rfl (.inl ⟨rfl, rfl⟩) rfl ty22 (fun cs224 o225 => ?_)
      refine .clsL (HpLe.refl _) (pick_mem [0] rfl) ?_;refine .q .d2 (.idxO 0 (l := x0_2) rfl rfl rfl hu203 sl51 ty22.sz) rfl ?_
      refine .swap2 0 1 (Q := (Rep.int .i64)) (i := x0_3) (j := v95) .d2 rfl rfl oo0_2 o225 hu198 hu195 he215 he210 hn216 hu205 hu207 rfl (.inl ⟨rfl, rfl⟩) rfl ty22 rfl (fun es226 cs227 hlcs227 o228 => ?_)
      refine .reval 41 hlcs227 rfl ?_;refine .reval 47 hlcs227 rfl ?_;refine .reval 55 hlcs227 rfl ?_;refine .reval 60 hlcs227 rfl ?_;refine .reval 67 hlcs227 rfl ?_;refine .recell 0 (([_, _, .slice a0_2 u207.length k0_2, _] : List Value) ++ List.map (Value.int .i64) x0_4) rfl (by rw [hlcs227]) [_] rfl ?_;refine .draw_end ?_;refine .prune [(0, _), (1, _)] ⟨rfl, rfl, trivial⟩ ?_
      refine .prune _ ?_ (Cov.same rfl rfl rfl (hb194 (u207, es226, cs227) ⟨o228, hlcs227, r208⟩))
      exact ⟨rfl, rfl, trivial⟩
     ·obtain ⟨e229, he230, hn231, ho232, p233⟩ := NL.get oo0_2 hu198
      refine .q .d1 (.idxO 0 rfl rfl rfl hu198 sl51 ty22.sz) rfl ?_;refine .clsL (HpLe.refl _) (pick_mem [0] rfl) ?_;refine .alt ?_ ?_
      ·refine .q .d1 (.loadO 0 0 rfl hu195 p213 rfl (.inl ⟨rfl, rfl⟩) ty22 rfl) rfl ?_
       refine .clsL (HpLe.refl _) (pick_mem [0] rfl) ?_;refine .q .d1 (.loadO 0 0 rfl hu198 p233 rfl (.inl ⟨rfl, rfl⟩) ty22 rfl) rfl ?_;refine .clsL (HpLe.refl _) (pick_mem [0] rfl) ?_
       obtain ⟨e234, he235, hn236, ho237, p238⟩ := NL.get oo0_2 hu200
       refine .q .d1 (.idxO 0 rfl rfl rfl hu200 sl51 ty22.sz) rfl ?_;refine .clsL (HpLe.refl _) (pick_mem [0] rfl) ?_
       refine .swap1 0 (Q := (Rep.int .i64)) (ej := e209) .d1 rfl oo0_2 hu200 hn211 rfl (.inl ⟨rfl, rfl⟩) rfl ty22 (fun cs239 o240 => ?_)
       refine .clsL (HpLe.refl _) (pick_mem [0] rfl) ?_;refine .q .d2 (.idxO 0 (l := x0_2) rfl rfl rfl hu203 sl51 ty22.sz) rfl ?_
       refine .swap2 0 1 (Q := (Rep.int .i64)) (i := x0_3) (j := v95) .d2 rfl rfl oo0_2 o240 hu198 hu195 he230 he210 hn231 hu205 hu207 rfl (.inl ⟨rfl, rfl⟩) rfl ty22 rfl (fun es241 cs242 hlcs242 o243 => ?_)
       refine .reval 41 hlcs242 rfl ?_;refine .reval 47 hlcs242 rfl ?_;refine .reval 55 hlcs242 rfl ?_;refine .reval 60 hlcs242 rfl ?_;refine .reval 67 hlcs242 rfl ?_;refine .recell 0 (([_, _, .slice a0_2 u207.length k0_2, _] : List Value) ++ List.map (Value.int .i64) x0_4) rfl (by rw [hlcs242]) [_] rfl ?_;refine .draw_end ?_;refine .prune [(0, _), (1, _)] ⟨rfl, rfl, trivial⟩ ?_
       refine .prune _ ?_ (Cov.same rfl rfl rfl (hb194 (u207, es241, cs242) ⟨o243, hlcs242, r208⟩))
       exact ⟨rfl, rfl, trivial⟩
      ·refine .q .d1 (.loadO 0 0 rfl hu198 p233 rfl (.inl ⟨rfl, rfl⟩) ty22 rfl) rfl ?_
       refine .clsL (HpLe.refl _) (pick_mem [0] rfl) ?_;refine .q .d1 (.loadO 0 0 rfl hu195 p213 rfl (.inl ⟨rfl, rfl⟩) ty22 rfl) rfl ?_;refine .clsL (HpLe.refl _) (pick_mem [0] rfl) ?_
       obtain ⟨e244, he245, hn246, ho247, p248⟩ := NL.get oo0_2 hu200
       refine .q .d1 (.idxO 0 rfl rfl rfl hu200 sl51 ty22.sz) rfl ?_;refine .clsL (HpLe.refl _) (pick_mem [0] rfl) ?_
       refine .swap1 0 (Q := (Rep.int .i64)) (ej := e209) .d1 rfl oo0_2 hu200 hn211 rfl (.inl ⟨rfl, rfl⟩) rfl ty22 (fun cs249 o250 => ?_)
       refine .clsL (HpLe.refl _) (pick_mem [0] rfl) ?_;refine .q .d2 (.idxO 0 (l := x0_2) rfl rfl rfl hu203 sl51 ty22.sz) rfl ?_
       refine .swap2 0 1 (Q := (Rep.int .i64)) (i := x0_3) (j := v95) .d2 rfl rfl oo0_2 o250 hu198 hu195 he230 he210 hn231 hu205 hu207 rfl (.inl ⟨rfl, rfl⟩) rfl ty22 rfl (fun es251 cs252 hlcs252 o253 => ?_)
       refine .reval 41 hlcs252 rfl ?_;refine .reval 47 hlcs252 rfl ?_;refine .reval 55 hlcs252 rfl ?_;refine .reval 60 hlcs252 rfl ?_;refine .reval 67 hlcs252 rfl ?_;refine .recell 0 (([_, _, .slice a0_2 u207.length k0_2, _] : List Value) ++ List.map (Value.int .i64) x0_4) rfl (by rw [hlcs252]) [_] rfl ?_;refine .draw_end ?_;refine .prune [(0, _), (1, _)] ⟨rfl, rfl, trivial⟩ ?_
       refine .prune _ ?_ (Cov.same rfl rfl rfl (hb194 (u207, es251, cs252) ⟨o253, hlcs252, r208⟩))
       exact ⟨rfl, rfl, trivial⟩
    ·obtain ⟨e254, he255, hn256, ho257, p258⟩ := NL.get oo0_2 hu198
     refine .q .d1 (.idxO 0 rfl rfl rfl hu198 sl51 ty22.sz) rfl ?_;refine .clsL (HpLe.refl _) (pick_mem [0] rfl) ?_;refine .alt ?_ ?_
     ·obtain ⟨e259, he260, hn261, ho262, p263⟩ := NL.get oo0_2 hu195
      refine .q .d1 (.idxO 0 rfl rfl rfl hu195 sl51 ty22.sz) rfl ?_;refine .clsL (HpLe.refl _) (pick_mem [0] rfl) ?_;refine .alt ?_ ?_
      ·refine .q .d1 (.loadO 0 0 rfl hu195 p263 rfl (.inl ⟨rfl, rfl⟩) ty22 rfl) rfl ?_
       refine .clsL (HpLe.refl _) (pick_mem [0] rfl) ?_;refine .q .d1 (.loadO 0 0 rfl hu198 p258 rfl (.inl ⟨rfl, rfl⟩) ty22 rfl) rfl ?_;refine .clsL (HpLe.refl _) (pick_mem [0] rfl) ?_
       obtain ⟨e264, he265, hn266, ho267, p268⟩ := NL.get oo0_2 hu200
       refine .q .d1 (.idxO 0 rfl rfl rfl hu200 sl51 ty22.sz) rfl ?_;refine .clsL (HpLe.refl _) (pick_mem [0] rfl) ?_
       refine .swap1 0 (Q := (Rep.int .i64)) (ej := e259) .d1 rfl oo0_2 hu200 hn261 rfl (.inl ⟨rfl, rfl⟩) rfl ty22 (fun cs269 o270 => ?_)
       refine .clsL (HpLe.refl _) (pick_mem [0] rfl) ?_;refine .q .d2 (.idxO 0 (l := x0_2) rfl rfl rfl hu203 sl51 ty22.sz) rfl ?_
       refine .swap2 0 1 (Q := (Rep.int .i64)) (i := x0_3) (j := v95) .d2 rfl rfl oo0_2 o270 hu198 hu195 he255 he260 hn256 hu205 hu207 rfl (.inl ⟨rfl, rfl⟩) rfl ty22 rfl (fun es271 cs272 hlcs272 o273 => ?_)
       refine .reval 41 hlcs272 rfl ?_;refine .reval 47 hlcs272 rfl ?_;refine .reval 55 hlcs272 rfl ?_;refine .reval 60 hlcs272 rfl ?_;refine .reval 67 hlcs272 rfl ?_;refine .recell 0 (([_, _, .slice a0_2 u207.length k0_2, _] : List Value) ++ List.map (Value.int .i64) x0_4) rfl (by rw [hlcs272]) [_] rfl ?_;refine .draw_end ?_;refine .prune [(0, _), (1, _)] ⟨rfl, rfl, trivial⟩ ?_
       refine .prune _ ?_ (Cov.same rfl rfl rfl (hb194 (u207, es271, cs272) ⟨o273, hlcs272, r208⟩))
       exact ⟨rfl, rfl, trivial⟩
      ·refine .q .d1 (.loadO 0 0 rfl hu198 p258 rfl (.inl ⟨rfl, rfl⟩) ty22 rfl) rfl ?_
       refine .clsL (HpLe.refl _) (pick_mem [0] rfl) ?_;refine .q .d1 (.loadO 0 0 rfl hu195 p263 rfl (.inl ⟨rfl, rfl⟩) ty22 rfl) rfl ?_;refine .clsL (HpLe.refl _) (pick_mem [0] rfl) ?_
       obtain ⟨e274, he275, hn276, ho277, p278⟩ := NL.get oo0_2 hu200
       refine .q .d1 (.idxO 0 rfl rfl rfl hu200 sl51 ty22.sz) rfl ?_;refine .clsL (HpLe.refl _) (pick_mem [0] rfl) ?_
       refine .swap1 0 (Q := (Rep.int .i64)) (ej := e259) .d1 rfl oo0_2 hu200 hn261 rfl (.inl ⟨rfl, rfl⟩) rfl ty22 (fun cs279 o280 => ?_)
       refine .clsL (HpLe.refl _) (pick_mem [0] rfl) ?_;refine .q .d2 (.idxO 0 (l := x0_2) rfl rfl rfl hu203 sl51 ty22.sz) rfl ?_
       refine .swap2 0 1 (Q := (Rep.int .i64)) (i := x0_3) (j := v95) .d2 rfl rfl oo0_2 o280 hu198 hu195 he255 he260 hn256 hu205 hu207 rfl (.inl ⟨rfl, rfl⟩) rfl ty22 rfl (fun es281 cs282 hlcs282 o283 => ?_)
       refine .reval 41 hlcs282 rfl ?_;refine .reval 47 hlcs282 rfl ?_;refine .reval 55 hlcs282 rfl ?_;refine .reval 60 hlcs282 rfl ?_;refine .reval 67 hlcs282 rfl ?_;refine .recell 0 (([_, _, .slice a0_2 u207.length k0_2, _] : List Value) ++ List.map (Value.int .i64) x0_4) rfl (by rw [hlcs282]) [_] rfl ?_;refine .draw_end ?_;refine .prune [(0, _), (1, _)] ⟨rfl, rfl, trivial⟩ ?_
       refine .prune _ ?_ (Cov.same rfl rfl rfl (hb194 (u207, es281, cs282) ⟨o283, hlcs282, r208⟩))
       exact ⟨rfl, rfl, trivial⟩
     ·refine .q .d1 (.loadO 0 0 rfl hu198 p258 rfl (.inl ⟨rfl, rfl⟩) ty22 rfl) rfl ?_
      refine .clsL (HpLe.refl _) (pick_mem [0] rfl) ?_
      obtain ⟨e285, he287, hn288, ho289, p290⟩ := NL.get oo0_2 hu195
      refine .q .d1 (.idxO 0 rfl rfl rfl hu195 sl51 ty22.sz) rfl ?_;refine .clsL (HpLe.refl _) (pick_mem [0] rfl) ?_;refine .q .d1 (.loadO 0 0 rfl hu195 p290 rfl (.inl ⟨rfl, rfl⟩) ty22 rfl) rfl ?_;refine .clsL (HpLe.refl _) (pick_mem [0] rfl) ?_
      obtain ⟨e291, he292, hn293, ho294, p295⟩ := NL.get oo0_2 hu200
      refine .q .d1 (.idxO 0 rfl rfl rfl hu200 sl51 ty22.sz) rfl ?_;refine .clsL (HpLe.refl _) (pick_mem [0] rfl) ?_
      refine .swap1 0 (Q := (Rep.int .i64)) (ej := e285) .d1 rfl oo0_2 hu200 hn288 rfl (.inl ⟨rfl, rfl⟩) rfl ty22 (fun cs296 o297 => ?_)
      refine .clsL (HpLe.refl _) (pick_mem [0] rfl) ?_;refine .q .d2 (.idxO 0 (l := x0_2) rfl rfl rfl hu203 sl51 ty22.sz) rfl ?_
      refine .swap2 0 1 (Q := (Rep.int .i64)) (i := x0_3) (j := v95) .d2 rfl rfl oo0_2 o297 hu198 hu195 he255 he287 hn256 hu205 hu207 rfl (.inl ⟨rfl, rfl⟩) rfl ty22 rfl (fun es298 cs299 hlcs299 o300 => ?_)
      refine .reval 41 hlcs299 rfl ?_;refine .reval 47 hlcs299 rfl ?_;refine .reval 55 hlcs299 rfl ?_;refine .reval 60 hlcs299 rfl ?_;refine .reval 67 hlcs299 rfl ?_;refine .recell 0 (([_, _, .slice a0_2 u207.length k0_2, _] : List Value) ++ List.map (Value.int .i64) x0_4) rfl (by rw [hlcs299]) [_] rfl ?_;refine .draw_end ?_;refine .prune [(0, _), (1, _)] ⟨rfl, rfl, trivial⟩ ?_
      refine .prune _ ?_ (Cov.same rfl rfl rfl (hb194 (u207, es298, cs299) ⟨o300, hlcs299, r208⟩))
      exact ⟨rfl, rfl, trivial⟩
 ·intro hb301
  refine .block ?_
  refine .loop2 (α := Nat × Int) (fun y => [(4, .int .i64 y.2)]) [(0, _), (1, _)] (fun y => []) (fun y => []) [_] (fun y => []) [_, _] (fun y => solve_reduced_lead_L7 (solve_reduced_lead_J6 x1 x0_0 x0_3 x0_4 x0_2) x1 x0_2 y.1 y.2 = some r) (fun y => y.1) (big, x0_3) h ⟨rfl, rfl, rfl, trivial⟩ rfl rfl rfl (fun y hI hb302 => ?_)
  obtain ⟨n303, v304⟩ := y
  have r305 := hI; clear hI
  try dsimp only at r305
  refine .prune [(4, .int .i64 v304), (0, _), (1, _)] ⟨rfl, rfl, rfl, trivial⟩ ?_;refine .same (bl' := [_]) (sl' := [_, _]) (Fs' := G :: Fs) rfl rfl rfl ?_
  obtain ⟨m306, rfl⟩ : ∃ m, n303 = m + 1 := by cases n303 with | zero => exact absurd (show (none : Option _) = some _ from r305) (by simp) | succ m => exact ⟨m, rfl⟩
  have r307 : solve_reduced_lead_B7 (solve_reduced_lead_J6 x1 x0_0 x0_3 x0_4 x0_2) x1 x0_2 (solve_reduced_lead_L7 (solve_reduced_lead_J6 x1 x0_0 x0_3 x0_4 x0_2) x1 x0_2 m306) v304 = some r := r305; clear r305; unfold solve_reduced_lead_B7 at r307; try dsimp only at r307
  refine .seq ?_;refine .seq ?_;refine .region rfl ?_;refine .mv rfl rfl ?_;refine .mv rfl rfl ?_;refine .q .ro (.nilCheck rfl rfl) rfl ?_;refine .q .ro (.fieldAddr 2 rfl fl286_2 ty51.sz rfl) rfl ?_;refine .q .ro (.load_own 0 rfl rfl ty51 rfl) rfl ?_;refine .q .ro (.len_sl rfl rfl sl51) rfl ?_
  refine .q .ro (.lss rfl rfl) rfl ?_;refine .mv rfl rfl ?_
  obtain ⟨u308, h309, r310⟩ := bind_some r307; clear r307
  refine .cutR 12 (β := Unit) (fun y => [(34, .bool u308)]) [(4, _), (0, _), (1, _)] (fun y => G :: Fs) (fun y => []) [_] (fun y => []) [_, _] (fun y => True) ⟨rfl, rfl, rfl, trivial⟩ [0] rfl [0, 1] rfl ?_ ?_
  ·rintro _ _
   refine .prune [(34, .bool u308), (4, _), (0, _), (1, _)] ⟨rfl, rfl, rfl, rfl, trivial⟩ ?_;refine .same (bl' := [_]) (sl' := [_, _]) (Fs' := G :: Fs) rfl rfl rfl ?_;refine .re ?_
   refine .cond rfl (fun c311 => ?_) (fun c311 => ?_)
   ·have r312 := ifT r310 c311; clear r310
    refine .skip ?_;refine .block ?_;refine .region rfl ?_;refine .mv rfl rfl ?_;refine .q .ro (.addw rfl rfl) rfl ?_;refine .av rfl rfl ?_;refine .re ?_;refine .inBlock ?_
    refine .prune _ ?_ (Cov.same rfl rfl rfl (hb302 (m306, (w64 (v304 + 1))) r312 (Nat.lt_succ_self _)))
    exact ⟨rfl, rfl, rfl, trivial⟩
   ·have r313 := ifBF r310 c311; clear r310
    refine .exit rfl ?_
    refine .prune _ ?_ (Cov.same rfl rfl rfl (hb301 (v304) r313))
    exact ⟨rfl, rfl, rfl, trivial⟩
  ·intro hb314
   refine .split 22 rfl (fun c315 => ?_) (fun c315 => ?_)
   ·have r316 := ifT h309 c315
    refine .g_on rfl ?_;refine .mv rfl rfl ?_;refine .g_on rfl ?_;refine .q .ro (.nilCheck rfl rfl) rfl ?_;refine .g_on rfl ?_;refine .q .ro (.fieldAddr 2 rfl fl286_2 ty51.sz rfl) rfl ?_;refine .g_on rfl ?_;refine .q .ro (.load_own 0 rfl rfl ty51 rfl) rfl ?_;refine .g_on rfl ?_
    refine .mv rfl rfl ?_;refine .g_on rfl ?_
    obtain ⟨u317, hu317, r318⟩ := bind_some r316; clear r316
    obtain ⟨e319, he320, hn321, ho322, p323⟩ := NL.get oo0_2 hu317
    refine .q .ro (.idxO 0 rfl rfl rfl hu317 sl51 ty22.sz) rfl ?_;refine .g_on rfl ?_;refine .q .ro (.loadO 0 0 rfl hu317 p323 rfl (.inl ⟨rfl, rfl⟩) ty22 rfl) rfl ?_;refine .g_on rfl ?_;refine .mv rfl rfl ?_;refine .g_on rfl ?_
    obtain ⟨u324, hu324, r325⟩ := bind_some r318; clear r318
    obtain ⟨c326, p327, h328⟩ := OL.get ho322 hu324
    obtain rfl := h328
    refine .q .ro (.inN 1 rfl he320 hn321 (.idxO (l := u317) 0 rfl rfl rfl hu324 sl22 ty3.sz)) rfl ?_;refine .g_on rfl ?_;refine .q .ro (.inN 1 rfl he320 hn321 (.loadO (l := u317) 0 0 rfl hu324 p327 rfl (.inl ⟨rfl, rfl⟩) ty3 rfl)) rfl ?_;refine .g_on rfl ?_;refine .q .ro (.eql rfl rfl) rfl ?_;refine .q .ro (.pick_t rfl rfl) rfl ?_
    refine .prune _ ?_ (Cov.same rfl rfl rfl (hb314 () trivial))
    exact ⟨sval r325, rfl, rfl, rfl, trivial⟩
   ·have r329 := ifF h309 c315
    refine .g_off rfl rfl rfl ?_;refine .g_off rfl rfl rfl ?_;refine .g_off rfl rfl rfl ?_;refine .g_off rfl rfl rfl ?_;refine .g_off rfl rfl rfl ?_;refine .g_off rfl rfl rfl ?_;refine .g_off rfl rfl rfl ?_;refine .g_off rfl rfl rfl ?_;refine .g_off rfl rfl rfl ?_
    refine .g_off rfl rfl rfl ?_;refine .g_off rfl rfl rfl ?_;refine .q .ro (.pick_f rfl rfl) rfl ?_
    refine .prune _ ?_ (Cov.same rfl rfl rfl (hb314 () trivial))
    exact ⟨sval r329, rfl, rfl, rfl, trivial⟩
theorem solve_reduce_c {Fs : List Hp} {G : Hp} {x0_0 : Int} {x0_1 : Int} {x0_2 : Int} {a0_3 : Option Addr} {k0_3 : Nat} {x0_3 : List Int} {a0_4 : Option Addr} {k0_4 : Nat} {x0_4 : List Int} {r : (Int × Int × (List (List Int)) × Int × (List Int))} (hG : G ∈ Fs) (s0_3 : SlR (Rep.int .i64) G a0_3 k0_3 x0_3) (s0_4 : SlR (Rep.int .i64) G a0_4 k0_4 x0_4) (h : solve_reduce (x0_0, x0_1, x0_2, x0_3, x0_4) = some r) : RetW Tryz.prog 192 #[.agg #[.int .i64 x0_0, .int .i64 x0_1, .int .i64 x0_2, .slice a0_3 x0_3.length k0_3, .slice a0_4 x0_4.length k0_4]] Fs [] [] (fun v bo so G => ∃ a0 : Option Addr, ∃ k0 : Nat, ∃ b0 : Nat, v = .pointer (some ⟨b0, 0, none⟩) ∧ bo = [(b0, .cells (([.int .i64 r.1, .int .i64 r.2.1, .slice a0 r.2.2.1.length k0, .int .i64 r.2.2.2.1] : List Value) ++ List.map (Value.int .i64) r.2.2.2.2).toArray 286 (0, 0))] ∧ so = [] ∧ SlR (Rep.sl (Rep.int .i64)) G a0 k0 r.2.2.1 ∧ r.2.2.2.2.length = 32) := by
 unfold solve_reduce at h
 try dsimp only at h
 refine RetW.of (vs := [_]) Tryz.func192 rfl Tryz.ntmps192 [(0, _)] ⟨rfl, trivial⟩ rfl hG fun w0 S0 hS0 B0 => ?_
 refine .seq ?_;refine .region rfl ?_
 refine .box [_, _, _, _, _] .ro rfl rfl rfl (fun b1 hb1 => ?_)
 refine .av rfl rfl ?_;refine .re ?_;refine .seq ?_;refine .region rfl ?_;refine .q .ro (.fieldAddr 0 rfl fl256_0 ty45.sz rfl) rfl ?_;refine .q .ro (.fieldAddr 0 rfl fl45_0 ty3.sz rfl) rfl ?_;refine .q .ro (.load_own 0 rfl rfl ty3 rfl) rfl ?_;refine .q .ro (.fieldAddr 2 rfl fl256_2 ty3.sz rfl) rfl ?_;refine .q .ro (.load_own 0 rfl rfl ty3 rfl) rfl ?_
 refine .q .ro (.build [_, _, _, _, _, _, _, _, _, _, _, _, _, _, _, _, _, _, _, _, _, _, _, _, _, _, _, _, _, _, _, _, _, _, _, _] [(0, _), (1, _)] ty286 pl286 rfl rfl) rfl ?_
 refine .box [_, _, _, _, _, _, _, _, _, _, _, _, _, _, _, _, _, _, _, _, _, _, _, _, _, _, _, _, _, _, _, _, _, _, _, _] .ro rfl rfl rfl (fun b2 hb2 => ?_)
 refine .recell 0 ([_, _, _, _] ++ List.map (Value.int .i64) (List.replicate 32 (0 : Int))) rfl rfl [_, _] rfl ?_;refine .av rfl rfl ?_;refine .re ?_;refine .seq ?_;refine .seq ?_;refine .region rfl ?_;refine .q .ro (.fieldAddr 1 rfl fl256_1 ty3.sz rfl) rfl ?_;refine .q .ro (.load_own 1 rfl rfl ty3 rfl) rfl ?_;refine .mv rfl rfl ?_
 refine .re ?_;refine .cutB (β := Int × Int × List (List Int) × Option Addr × Nat × List NE × List Value × Int × List Int × Int × Int × Int) (fun y => []) [(1, _), (3, _)] (fun y => G :: Fs) (fun y => [(b2, .cells (([.int .i64 y.1, .int .i64 y.2.1, .slice y.2.2.2.1 y.2.2.1.length y.2.2.2.2.1, .int .i64 y.2.2.2.2.2.2.2.1] : List Value) ++ List.map (Value.int .i64) y.2.2.2.2.2.2.2.2.1).toArray 286 (0, 0)), (b1, .cells #[.int .i64 y.2.2.2.2.2.2.2.2.2.1, .int .i64 y.2.2.2.2.2.2.2.2.2.2.1, .int .i64 y.2.2.2.2.2.2.2.2.2.2.2, .slice a0_3 x0_3.length k0_3, .slice a0_4 x0_4.length k0_4] 256 (0, 0))]) [] (fun y => [.s (.slice y.2.2.2.1 y.2.2.1.length y.2.2.2.2.1) 22 1 y.2.2.1.length y.2.2.2.2.2.2.1, .g (packG 3 1 y.2.2.2.2.2.1)]) [] (fun y => NL (Rep.int .i64) G y.2.2.2.2.2.1 y.2.2.2.2.2.2.1 y.2.2.1 ∧ y.2.2.2.2.2.2.2.2.1.length = 32 ∧ solve_reduce_J2 y.1 y.2.1 y.2.2.1 y.2.2.2.2.2.2.2.1 y.2.2.2.2.2.2.2.2.1 y.2.2.2.2.2.2.2.2.2.1 y.2.2.2.2.2.2.2.2.2.2.1 y.2.2.2.2.2.2.2.2.2.2.2 = some r) ⟨rfl, rfl, trivial⟩ [] rfl [] rfl ?_ ?_
 ·intro y hI
  obtain ⟨v10, v11, v12, a13, k14, es15, cs16, v17, v18, v19, v20, v21⟩ := y
  obtain ⟨o23, hl24, r25⟩ := hI
  try dsimp only at o23 hl24 r25
  refine .prune [(1, _), (3, _)] ⟨rfl, rfl, trivial⟩ ?_;refine .same (bl' := [(b2, .cells (([.int .i64 v10, .int .i64 v11, .slice a13 v12.length k14, .int .i64 v17] : List Value) ++ List.map (Value.int .i64) v18).toArray 286 (0, 0)), (b1, .cells #[.int .i64 v19, .int .i64 v20, .int .i64 v21, .slice a0_3 x0_3.length k0_3, .slice a0_4 x0_4.length k0_4] 256 (0, 0))]) (sl' := [.s (.slice a13 v12.length k14) 22 1 v12.length cs16, .g (packG 3 1 es15)]) (Fs' := G :: Fs) rfl rfl rfl ?_
  unfold solve_reduce_J2 at r25
  try dsimp only at r25
  refine .seq ?_;refine .seq ?_;refine .region rfl ?_;refine .q .ro (.fieldAddr 2 rfl fl256_2 ty3.sz rfl) rfl ?_;refine .q .ro (.load_own 1 rfl rfl ty3 rfl) rfl ?_;refine .mv rfl rfl ?_;refine .re ?_;refine .block ?_;refine .pullS 1 rfl [_, _] rfl ?_
  refine .pullS 1 rfl [_, _] rfl ?_
  refine .loop2 (α := Nat × Int × List (List Int) × List NE × List Value × Int × List Int) (fun y => [(52, .int .i64 y.2.1)]) [(3, _), (51, _)] (fun y => []) (fun y => [(b2, .cells (([.int .i64 v10, .int .i64 v11, .slice a13 y.2.2.1.length k14, .int .i64 y.2.2.2.2.2.1] : List Value) ++ List.map (Value.int .i64) y.2.2.2.2.2.2).toArray 286 (0, 0))]) [_] (fun y => [.s (.slice a13 y.2.2.1.length k14) 22 1 y.2.2.1.length y.2.2.2.2.1, .g (packG 3 1 y.2.2.2.1)]) [] (fun y => NL (Rep.int .i64) G y.2.2.2.1 y.2.2.2.2.1 y.2.2.1 ∧ y.2.2.1.length = v12.length ∧ y.2.2.2.2.2.2.length = 32 ∧ solve_reduce_L1 v21 v10 v11 y.1 y.2.1 y.2.2.1 y.2.2.2.2.2.1 y.2.2.2.2.2.2 = some r) (fun y => y.1) (big, 0, v12, es15, cs16, v17, v18) ⟨o23, rfl, hl24, r25⟩ ⟨rfl, rfl, rfl, trivial⟩ rfl rfl rfl (fun y hI hb26 => ?_)
  obtain ⟨n27, v28, v29, es30, cs31, v32, v33⟩ := y
  obtain ⟨o34, hl35, hl36, r37⟩ := hI
  try dsimp only at o34 hl35 hl36 r37
  refine .prune [(52, .int .i64 v28), (3, _), (51, _)] ⟨rfl, rfl, rfl, trivial⟩ ?_;refine .same (bl' := [(b2, .cells (([.int .i64 v10, .int .i64 v11, .slice a13 v29.length k14, .int .i64 v32] : List Value) ++ List.map (Value.int .i64) v33).toArray 286 (0, 0)), _]) (sl' := [.s (.slice a13 v29.length k14) 22 1 v29.length cs31, .g (packG 3 1 es30)]) (Fs' := G :: Fs) rfl rfl rfl ?_
  obtain ⟨m38, rfl⟩ : ∃ m, n27 = m + 1 := by cases n27 with | zero => exact absurd (show (none : Option _) = some _ from r37) (by simp) | succ m => exact ⟨m, rfl⟩
  have r39 : solve_reduce_B1 v21 v10 v11 (solve_reduce_L1 v21 v10 v11 m38) v28 v29 v32 v33 = some r := r37; clear r37; unfold solve_reduce_B1 at r39; try dsimp only at r39
  refine .seq ?_;refine .region rfl ?_;refine .q .ro (.lss rfl rfl) rfl ?_;refine .re ?_;refine .seq ?_
  refine .cond_dec rfl (fun c40 => ?_) (fun c40 => ?_)
  ·have r41 := ifT r39 c40; clear r39
   refine .skip ?_;refine .seq ?_;refine .block ?_;refine .seq ?_;refine .region rfl ?_;refine .mv rfl rfl ?_;refine .av rfl rfl ?_;refine .re ?_;refine .region rfl ?_
   refine .mv rfl rfl ?_;refine .mv rfl rfl ?_
   obtain ⟨u42, hu42, r43⟩ := bind_some r41; clear r41
   refine .pullS 1 rfl [_, _] rfl ?_;refine .pullS 1 rfl [_, _] rfl ?_
   refine .callS (b1 := [_]) (b2 := [_]) (s1 := [_, _]) [_, _] [] .ro rfl rfl Tryz.call201 rfl rfl (solve_reduced_lead_c (G := G) List.mem_cons_self o34 hl36 hu42) rfl (fun v44 bo so h46 => ?_)
   obtain ⟨es47, cs48, rfl, rfl, rfl, o49, hl50, hl52⟩ := h46
   refine .same (bl' := [_, _]) (sl' := [_, _]) rfl rfl rfl ?_;refine .recell 0 (([_, _, .slice a13 u42.1.length k14, _] : List Value) ++ List.map (Value.int .i64) u42.2.2) rfl (by rw [hl50]) [_, _] rfl ?_;refine .re ?_;refine .inBlock ?_;refine .region rfl ?_;refine .q .ro (.addw rfl rfl) rfl ?_;refine .mv rfl rfl ?_;refine .re ?_
   refine .prune _ ?_ (Cov.same rfl rfl rfl (hb26 (m38, (w64 (v28 + 1)), u42.1, es47, cs48, u42.2.1, u42.2.2) ⟨o49, (hl50.trans hl35), hl52, r43⟩ (Nat.lt_succ_self _)))
   exact ⟨rfl, rfl, rfl, trivial⟩
  ·have r53 := ifF r39 c40; clear r39
   refine .exit rfl ?_;refine .seq ?_;refine .region rfl ?_;refine .mv rfl rfl ?_;refine .av rfl rfl ?_;refine .re ?_;refine .pullS 1 rfl [_, _] rfl ?_;refine .pullS 1 rfl [_, _] rfl ?_
   refine .freezeN (Q := (Rep.int .i64)) rfl o34 rfl B0 (fun G54 e55 B56 s57 => ?_)
   cases r53
   refine .pull 1 rfl [_, _] rfl ?_;refine .drop 1 0 [_] _ rfl rfl ?_
   refine .retW (c := ⟨192, none⟩) (.inr ⟨_, rfl⟩) [.tmp 2] [_] rfl Tryz.func192 Tryz.results192 ⟨RV.tmp rfl, trivial⟩ mcm List.mem_cons_self B56 (by subst hS0; simp [blks]) (fun G' hg => ⟨a13, k14, _, rfl, rfl, rfl, (SlR.mono hg s57), hl36⟩)
 ·intro hb58
  refine .block ?_;refine .packE 3 1 ?_;refine .own_nil 22 1 ?_;refine .pullS 1 rfl [_, _] rfl ?_;refine .pullS 1 rfl [_, _] rfl ?_
  refine .loop2 (α := Nat × Int × List (List Int) × Option Addr × Nat × List NE × List Value) (fun y => [(16, .int .i64 y.2.1)]) [(1, _), (3, _), (15, _)] (fun y => []) (fun y => [(b2, .cells (([.int .i64 x0_0, .int .i64 x0_2, .slice y.2.2.2.1 y.2.2.1.length y.2.2.2.2.1, .int .i64 0] : List Value) ++ List.map (Value.int .i64) (List.replicate 32 (0 : Int))).toArray 286 (0, 0))]) [_] (fun y => [.s (.slice y.2.2.2.1 y.2.2.1.length y.2.2.2.2.1) 22 1 y.2.2.1.length y.2.2.2.2.2.2, .g (packG 3 1 y.2.2.2.2.2.1)]) [] (fun y => NL (Rep.int .i64) G y.2.2.2.2.2.1 y.2.2.2.2.2.2 y.2.2.1 ∧ solve_reduce_L3 solve_reduce_J2 x0_1 x0_0 x0_2 (List.replicate 32 (0 : Int)) x0_3 x0_4 y.1 y.2.1 y.2.2.1 = some r) (fun y => y.1) (big, 0, ([] : List (List Int)), none, 0, [], []) ⟨(NL.nil (Q := (Rep.int .i64))), h⟩ ⟨rfl, rfl, rfl, rfl, trivial⟩ rfl rfl rfl (fun y hI hb59 => ?_)
  obtain ⟨n60, v61, v62, a63, k65, es66, cs67⟩ := y
  obtain ⟨o68, r69⟩ := hI
  try dsimp only at o68 r69
  refine .prune [(16, .int .i64 v61), (1, _), (3, _), (15, _)] ⟨rfl, rfl, rfl, rfl, trivial⟩ ?_;refine .same (bl' := [(b2, .cells (([.int .i64 x0_0, .int .i64 x0_2, .slice a63 v62.length k65, .int .i64 0] : List Value) ++ List.map (Value.int .i64) (List.replicate 32 (0 : Int))).toArray 286 (0, 0)), _]) (sl' := [.s (.slice a63 v62.length k65) 22 1 v62.length cs67, .g (packG 3 1 es66)]) (Fs' := G :: Fs) rfl rfl rfl ?_
  obtain ⟨m70, rfl⟩ : ∃ m, n60 = m + 1 := by cases n60 with | zero => exact absurd (show (none : Option _) = some _ from r69) (by simp) | succ m => exact ⟨m, rfl⟩
  have r71 : solve_reduce_B3 solve_reduce_J2 x0_1 x0_0 x0_2 (List.replicate 32 (0 : Int)) x0_3 x0_4 (solve_reduce_L3 solve_reduce_J2 x0_1 x0_0 x0_2 (List.replicate 32 (0 : Int)) x0_3 x0_4 m70) v61 v62 = some r := r69; clear r69; unfold solve_reduce_B3 at r71; try dsimp only at r71
  refine .seq ?_;refine .region rfl ?_;refine .q .ro (.lss rfl rfl) rfl ?_;refine .re ?_;refine .seq ?_
  refine .cond_dec rfl (fun c72 => ?_) (fun c72 => ?_)
  ·have r73 := ifT r71 c72; clear r71
   refine .skip ?_;refine .seq ?_;refine .block ?_;refine .seq ?_;refine .region rfl ?_;refine .mv rfl rfl ?_;refine .av rfl rfl ?_;refine .re ?_;refine .seq ?_
   refine .region rfl ?_;refine .q .ro (.fieldAddr 3 rfl fl256_3 ty22.sz rfl) rfl ?_;refine .q .ro (.load_own 1 rfl rfl ty22 rfl) rfl ?_;refine .mv rfl rfl ?_;refine .q .ro (.fieldAddr 2 rfl fl256_2 ty3.sz rfl) rfl ?_;refine .q .ro (.load_own 1 rfl rfl ty3 rfl) rfl ?_;refine .q .ro (.mulw rfl rfl) rfl ?_;refine .mv rfl rfl ?_;refine .q .ro (.addw rfl rfl) rfl ?_
   refine .q .ro (.fieldAddr 2 rfl fl256_2 ty3.sz rfl) rfl ?_;refine .q .ro (.load_own 1 rfl rfl ty3 rfl) rfl ?_;refine .q .ro (.mulw rfl rfl) rfl ?_
   obtain ⟨u74, hu74, r75⟩ := bind_some r73; clear r73
   obtain ⟨a76, k77, h78, s79⟩ := SlR.sub s0_3 hu74
   refine .q .ro (.sliceR s0_3 rfl hu74 sl22 ty3.sz (fun h => .yes' rfl h) (fun h => .yes' rfl h) h78) rfl ?_;refine .own_nil 3 1 ?_
   obtain ⟨u80, hu80, r81⟩ := bind_some r75; clear r75
   refine .appR (Q := (Rep.int .i64)) 0 .ro sl22 ty3 rfl rfl rfl rfl rfl (OL.nil (Rp' := (Rep.int .i64))) rfl rfl s79 rfl List.mem_cons_self hu80 rfl (fun a82 k83 cs84 o85 => ?_)
   refine .av rfl rfl ?_;refine .re ?_;refine .prune [(16, _), (1, _), (3, _), (15, _), (4, _), (5, _)] ⟨rfl, rfl, rfl, rfl, rfl, rfl, trivial⟩ ?_;refine .drawL (.q 0 (.q 1 (.q 2 (.q 3 (.q 4 (.q 5 (.q 6 (.q 7 (.q 8 (.q 9 (.q 10 (.e 11 1 (.e 12 1 (.e 13 1 (.e 14 1 (.q 15 (.q 16 (.e 17 2 .nil)))))))))))))))))) [_, _] (by kernel_rfl) (by kernel_rfl) (pick_mem [0, 1] rfl) ?_;refine .dq (.move rfl) rfl ?_;refine .dq (.move rfl) rfl ?_;refine .dq (.nilCheck rfl rfl) rfl ?_;refine .dq (.fieldAddr 2 rfl fl286_2 ty51.sz rfl) rfl ?_;refine .dq (.load_own 0 rfl rfl ty51 rfl) rfl ?_
   refine .dq (.move rfl) rfl ?_;refine .dq (.fieldAddr 4 rfl fl256_4 ty22.sz rfl) rfl ?_;refine .dq (.load_own 1 rfl rfl ty22 rfl) rfl ?_;refine .dq (.move rfl) rfl ?_
   obtain ⟨u86, hu86, r87⟩ := bind_some r81; clear r81
   obtain ⟨c88, p89, h90⟩ := SlR.get s0_4 hu86
   obtain rfl := h90
   refine .dq (.idxR s0_4 rfl rfl hu86 sl22 ty3.sz) rfl ?_;refine .dq (.load_rp p89 List.mem_cons_self rfl ty3 rfl) rfl ?_
   refine .lit [_] [(0, _)] .d1 sl22 ty3 rfl rfl rfl rfl rfl rfl (fun b91 hb91 => ?_)
   have o92 : OL (Rep.int .i64) G [.int .i64 u86] ([u86] : List Int) := ((OL.cons rfl (Rep.intI .i64 u86) (OL.nil (Rp' := (Rep.int .i64)))) :)
   refine .reval 43 (n' := ([u86] : List Int).length) rfl rfl ?_;refine .clsL (HpLe.refl _) (pick_mem [0, 1] rfl) ?_
   obtain ⟨u93, hu93, r94⟩ := bind_some r87; clear r87
   refine .appO (Q := (Rep.int .i64)) 0 .d1 sl22 ty3 rfl rfl rfl rfl rfl rfl o85 o92 rfl rfl rfl B0 hu93 rfl (fun a95 k96 cs97 o98 => ?_)
   refine .clsL (HpLe.refl _) (pick_mem [0, 1] rfl) ?_
   refine .lit [_] [(0, _)] .d1 sl51 ty22 rfl rfl rfl rfl rfl rfl (fun b99 hb99 => ?_)
   refine .pullS 1 rfl [_, _, _, _] rfl ?_;refine .pack1 rfl ?_
   have o100 : NL (Rep.int .i64) G [⟨a95, u93.length, k96, cs97⟩] [.slice a95 u93.length k96] ([u93] : List (List Int)) := (NL.one o98 :)
   refine .reval 45 (n' := ([u93] : List (List Int)).length) rfl rfl ?_;refine .clsL (HpLe.refl _) (pick_mem [0, 1] rfl) ?_
   obtain ⟨u101, hu101, r102⟩ := bind_some r94; clear r94
   refine .pullS 1 rfl [_, _, _, _] rfl ?_
   refine .appN 0 1 (Q := (Rep.int .i64)) .d1 sl51 ty22 rfl rfl rfl rfl rfl rfl o68 o100 rfl rfl hu101 rfl B0 (fun a103 k104 cs105 o106 => ?_)
   refine .clsL (HpLe.refl _) (pick_mem [0, 1] rfl) ?_;refine .dq (.nilCheck rfl rfl) rfl ?_;refine .dq (.fieldAddr 2 rfl fl286_2 ty51.sz rfl) rfl ?_;refine .store 0 ([_, _, _, _] ++ List.map (Value.int .i64) (List.replicate 32 (0 : Int))) [_, _] .d2 rfl rfl rfl ty51 rfl rfl rfl rfl ?_;refine .draw_end ?_;refine .prune [(16, _), (1, _), (3, _), (15, _)] ⟨rfl, rfl, rfl, rfl, trivial⟩ ?_;refine .inBlock ?_;refine .region rfl ?_;refine .q .ro (.addw rfl rfl) rfl ?_
   refine .mv rfl rfl ?_;refine .re ?_
   refine .prune _ ?_ (Cov.same rfl rfl rfl (hb59 (m70, (w64 (v61 + 1)), u101, a103, k104, (es66 ++ [⟨a95, u93.length, k96, cs97⟩]), cs105) ⟨o106, r102⟩ (Nat.lt_succ_self _)))
   exact ⟨rfl, rfl, rfl, rfl, trivial⟩
  ·have r107 := ifF r71 c72; clear r71
   refine .exit rfl ?_
   refine .prune _ ?_ (Cov.same rfl rfl rfl (hb58 (x0_0, x0_2, v62, a63, k65, es66, cs67, 0, (List.replicate 32 (0 : Int)), x0_0, x0_1, x0_2) ⟨o68, rfl, r107⟩))
   exact ⟨rfl, rfl, trivial⟩
theorem solve_reduced_solvable_c {Fs : List Hp} {G : Hp} {p0 : Nat} {x0_0 : Int} {x0_1 : Int} {a0_2 : Option Addr} {k0_2 : Nat} {x0_2 : List (List Int)} {x0_3 : Int} {x0_4 : List Int} {r : Bool} (hG : G ∈ Fs) (s0_2 : SlR (Rep.sl (Rep.int .i64)) G a0_2 k0_2 x0_2) (hnx0_4 : x0_4.length = 32) (h : solve_reduced_solvable (x0_0, x0_1, x0_2, x0_3, x0_4) = some r) : RetS Tryz.prog 193 #[.pointer (some ⟨p0, 0, none⟩)] Fs [(p0, .cells (([.int .i64 x0_0, .int .i64 x0_1, .slice a0_2 x0_2.length k0_2, .int .i64 x0_3] : List Value) ++ List.map (Value.int .i64) x0_4).toArray 286 (0, 0))] [] (fun v bo so => v = .bool r ∧ bo = [(p0, .cells (([.int .i64 x0_0, .int .i64 x0_1, .slice a0_2 x0_2.length k0_2, .int .i64 x0_3] : List Value) ++ List.map (Value.int .i64) x0_4).toArray 286 (0, 0))] ∧ so = []) := by
 unfold solve_reduced_solvable at h
 try dsimp only at h
 refine RetS.of (vs := [_]) Tryz.func193 rfl Tryz.ntmps193 [(0, _)] ⟨rfl, trivial⟩ rfl hG fun w0 S0 hS0 B0 => ?_
 refine .seq ?_;refine .region rfl ?_;refine .av rfl rfl ?_;refine .re ?_;refine .seq ?_;refine .seq ?_;refine .drawL (.q 0 (.q 1 (.q 2 (.q 3 (.q 4 (.q 5 (.q 6 (.q 7 (.q 8 (.q 9 (.q 10 .nil))))))))))) [_] (by kernel_rfl) (by kernel_rfl) (pick_mem [0] rfl) ?_;refine .dq (.move rfl) rfl ?_;refine .dq (.nilCheck rfl rfl) rfl ?_
 refine .dq (.fieldAddr 2 rfl fl286_2 ty51.sz rfl) rfl ?_;refine .dq (.load_own 0 rfl rfl ty51 rfl) rfl ?_;refine .dq (.move rfl) rfl ?_;refine .dq (.nilCheck rfl rfl) rfl ?_;refine .dq (.fieldAddr 3 rfl fl286_3 ty3.sz rfl) rfl ?_;refine .dq (.load_own 0 rfl rfl ty3 rfl) rfl ?_
 obtain ⟨u1, hu1, r2⟩ := bind_some h; clear h
 obtain ⟨a3, k4, h5, s6⟩ := SlR.sub s0_2 hu1
 refine .dq (.sliceR s0_2 rfl hu1 sl51 ty22.sz (fun h => .yes' rfl h) (fun _ => .no) h5) rfl ?_;refine .dq (.len_sl rfl rfl sl51) rfl ?_;refine .dq (.move rfl) rfl ?_;refine .draw_end ?_;refine .block ?_
 refine .loop2 (α := Nat × List (List Int)) (fun y => [(15, .int .i64 (y.1 : Int))]) [(0, _), (13, _), (14, _)] (fun y => []) (fun y => []) [_] (fun y => []) [] (fun y => List.drop y.1 u1 = y.2 ∧ solve_reduced_solvable_L1 x0_1 y.2  = some r) (fun y => y.2.length) (0, u1) ⟨rfl, r2⟩ ⟨rfl, rfl, rfl, rfl, trivial⟩ rfl rfl rfl (fun y hI hb38 => ?_)
 obtain ⟨i34, w35⟩ := y
 obtain ⟨g36, r37⟩ := hI
 try dsimp only at g36 r37
 refine .prune [(15, .int .i64 (i34 : Int)), (0, _), (13, _), (14, _)] ⟨rfl, rfl, rfl, rfl, trivial⟩ ?_;refine .same (bl' := [_]) (sl' := []) (Fs' := G :: Fs) rfl rfl rfl ?_
 cases w35 with
 | nil =>
  rw [solve_reduced_solvable_L1] at r37; try dsimp only at r37
  refine .seq ?_;refine .region rfl ?_;refine .q .ro (.lss rfl rfl) rfl ?_;refine .re ?_;refine .seq ?_
  refine .cond_dec rfl (fun c => absurd c (drop_nil g36)) (fun _ => ?_)
  refine .exit rfl ?_;refine .seq ?_;refine .region rfl ?_;refine .av rfl rfl ?_;refine .re ?_
  cases r37
  refine .retS (c := ⟨193, none⟩) (.inr ⟨_, rfl⟩) [.tmp 2] [_] rfl Tryz.func193 Tryz.results193 ⟨RV.tmp rfl, trivial⟩ mcm ⟨rfl, rfl, rfl⟩
 | cons x47 xs48 =>
  have r46 : solve_reduced_solvable_B1 x0_1 (solve_reduced_solvable_L1 x0_1 xs48) x47  = some r := r37; clear r37; unfold solve_reduced_solvable_B1 at r46; try dsimp only at r46
  refine .seq ?_;refine .region rfl ?_;refine .q .ro (.lss rfl rfl) rfl ?_;refine .re ?_;refine .seq ?_
  refine .cond_dec rfl (fun _ => ?_) (fun c => absurd (drop_lt g36) c)
  refine .skip ?_;refine .seq ?_;refine .block ?_;refine .seq ?_;refine .region rfl ?_
  obtain ⟨c49, p50, h51⟩ := SlR.get s6 (drop_idx g36)
  obtain ⟨a52, k53, rfl, s54⟩ := h51
  refine .q .ro (.idxR s6 rfl rfl (drop_idx g36) sl51 ty22.sz) rfl ?_;refine .q .ro (.load_rp p50 List.mem_cons_self rfl ty22 rfl) rfl ?_;refine .av rfl rfl ?_;refine .re ?_;refine .seq ?_;refine .region rfl ?_;refine .mv rfl rfl ?_;refine .mv rfl rfl ?_;refine .q .ro (.nilCheck rfl rfl) rfl ?_
  refine .q .ro (.fieldAddr 1 rfl fl286_1 ty3.sz rfl) rfl ?_;refine .q .ro (.load_own 0 rfl rfl ty3 rfl) rfl ?_
  obtain ⟨u55, hu55, r56⟩ := bind_some r46; clear r46
  obtain ⟨c57, p58, h59⟩ := SlR.get s54 hu55
  obtain rfl := h59
  refine .q .ro (.idxR s54 rfl rfl hu55 sl22 ty3.sz) rfl ?_;refine .q .ro (.load_rp p58 List.mem_cons_self rfl ty3 rfl) rfl ?_;refine .q .ro (.neq rfl rfl) rfl ?_;refine .re ?_
  refine .cond_dec rfl (fun c60 => ?_) (fun c60 => ?_)
  ·have r61 := ifT r56 c60; clear r56
   refine .seq ?_;refine .region rfl ?_;refine .av rfl rfl ?_;refine .re ?_;refine .prune [(2, _)] ⟨rfl, trivial⟩ ?_
   cases r61
   refine .retS (c := ⟨193, none⟩) (.inr ⟨_, rfl⟩) [.tmp 2] [_] rfl Tryz.func193 Tryz.results193 ⟨RV.tmp rfl, trivial⟩ mcm ⟨rfl, rfl, rfl⟩
  ·have r62 := ifF r56 c60; clear r56
   refine .skip ?_;refine .inBlock ?_;refine .region rfl ?_;refine .q .ro (.addw rfl rfl) rfl ?_;refine .mv rfl rfl ?_;refine .re ?_;refine .prune [(15, _), (0, _), (13, _), (14, _)] ⟨rfl, rfl, rfl, rfl, trivial⟩ ?_
   refine .prune _ ?_ (Cov.same rfl rfl rfl (hb38 ((i34 + 1), xs48) ⟨(drop_succ g36), r62⟩ (Nat.lt_succ_self _)))
   exact ⟨(congrArg (fun z => some (Value.int .i64 z)) (idx_wrap (SlR.len s6) g36)), rfl, rfl, rfl, trivial⟩
theorem solve_Solve_c {Fs : List Hp} {G : Hp} {x0_0 : Int} {x0_1 : Int} {x0_2 : Int} {a0_3 : Option Addr} {k0_3 : Nat} {x0_3 : List Int} {a0_4 : Option Addr} {k0_4 : Nat} {x0_4 : List Int} {r : ((List Int) × Int)} (hG : G ∈ Fs) (s0_3 : SlR (Rep.int .i64) G a0_3 k0_3 x0_3) (s0_4 : SlR (Rep.int .i64) G a0_4 k0_4 x0_4) (h : solve_Solve (x0_0, x0_1, x0_2, x0_3, x0_4) = some r) : RetS Tryz.prog 175 #[.agg #[.int .i64 x0_0, .int .i64 x0_1, .int .i64 x0_2, .slice a0_3 x0_3.length k0_3, .slice a0_4 x0_4.length k0_4]] Fs [] [] (fun v bo so => ∃ (oa0 : Option Addr) (ok0 : Nat) (oc0 : List Value), v = .tuple #[.slice oa0 r.1.length ok0, .int .i64 r.2] ∧ bo = [] ∧ so = [.s (.slice oa0 r.1.length ok0) 3 1 r.1.length oc0] ∧ OL (Rep.int .i64) G oc0 r.1) := by
 unfold solve_Solve at h
 try dsimp only at h
 refine RetS.of (vs := [_]) Tryz.func175 rfl Tryz.ntmps175 [(0, _)] ⟨rfl, trivial⟩ rfl hG fun w0 S0 hS0 B0 => ?_
 refine .seq ?_;refine .region rfl ?_
 refine .box [_, _, _, _, _] .ro rfl rfl rfl (fun b1 hb1 => ?_)
 refine .av rfl rfl ?_;refine .av rfl rfl ?_;refine .re ?_;refine .seq ?_;refine .seq ?_;refine .region rfl ?_;refine .q .ro (.load_own_a 0 [_, _, _, _, _] rfl rfl ty256 rfl) rfl ?_
 obtain ⟨u2, hu2, r3⟩ := bind_some h; clear h
 refine .callS (b1 := []) (b2 := [_]) (s1 := []) [_] [] .ro rfl rfl Tryz.call191 rfl rfl (solve_Check_c (G := G) List.mem_cons_self s0_3 s0_4 hu2) rfl (fun v5 bo so h4 => ?_)
 obtain ⟨rfl, rfl, rfl⟩ := h4
 refine .same (bl' := [_]) (sl' := []) rfl rfl rfl ?_;refine .av rfl rfl ?_;refine .re ?_;refine .seq ?_;refine .region rfl ?_;refine .mv rfl rfl ?_;refine .q .ro (.neq rfl rfl) rfl ?_;refine .re ?_
 refine .cond_dec rfl (fun c6 => ?_) (fun c6 => ?_)
 ·have r7 := ifT r3 c6; clear r3
  refine .seq ?_;refine .region rfl ?_;refine .mv rfl rfl ?_;refine .av rfl rfl ?_;refine .av rfl rfl ?_;refine .re ?_;refine .own_nil 3 1 ?_
  cases r7
  refine .drop 1 0 [] _ rfl rfl ?_
  refine .retS (c := ⟨175, none⟩) (.inr ⟨_, rfl⟩) [.tmp 2, .tmp 3] [_, _] rfl Tryz.func175 Tryz.results175 ⟨RV.tmp rfl, RV.tmp rfl, trivial⟩ mcm ⟨none, 0, [], rfl, rfl, rfl, (OL.nil (Rp' := (Rep.int .i64)))⟩
 ·have r9 := ifF r3 c6; clear r3
  refine .skip ?_;refine .seq ?_;refine .region rfl ?_;refine .q .ro (.load_own_a 0 [_, _, _, _, _] rfl rfl ty256 rfl) rfl ?_
  obtain ⟨u10, hu10, r11⟩ := bind_some r9; clear r9
  refine .callW (b1 := []) (b2 := [_]) (s1 := []) [_] [] .ro rfl rfl Tryz.call192 rfl rfl (solve_reduce_c (G := G) List.mem_cons_self s0_3 s0_4 hu10) rfl B0 (fun v13 bo so G14 e15 B16 h12 => ?_)
  obtain ⟨a19, k20, b18, rfl, rfl, rfl, s21, hl22⟩ := h12
  refine .same (bl' := [_, _]) (sl' := []) rfl rfl rfl ?_;refine .av rfl rfl ?_;refine .re ?_;refine .seq ?_;refine .seq ?_;refine .region rfl ?_;refine .mv rfl rfl ?_
  obtain ⟨u23, hu23, r24⟩ := bind_some r11; clear r11
  refine .callS (b1 := [_]) (b2 := [_]) (s1 := []) [_] [] .ro rfl rfl Tryz.call193 rfl rfl (solve_reduced_solvable_c (G := G14) List.mem_cons_self s21 hl22 hu23) rfl (fun v26 bo so h25 => ?_)
  obtain ⟨rfl, rfl, rfl⟩ := h25
  refine .same (bl' := [_, _]) (sl' := []) rfl rfl rfl ?_;refine .q .ro (.not rfl) rfl ?_;refine .re ?_
  refine .cond rfl (fun c27 => ?_) (fun c27 => ?_)
  ·have r28 := ifT r24 c27; clear r24
   refine .seq ?_;refine .region rfl ?_;refine .av rfl rfl ?_;refine .av rfl rfl ?_;refine .re ?_;refine .prune [(2, _), (3, _)] ⟨rfl, rfl, trivial⟩ ?_;refine .own_nil 3 1 ?_
   cases r28
   refine .drop 2 0 [] _ rfl rfl ?_
   refine .retS (c := ⟨175, none⟩) (.inr ⟨_, rfl⟩) [.tmp 2, .tmp 3] [_, _] rfl Tryz.func175 Tryz.results175 ⟨RV.tmp rfl, RV.tmp rfl, trivial⟩ mcm ⟨none, 0, [], rfl, rfl, rfl, (OL.nil (Rp' := (Rep.int .i64)))⟩
  ·have r30 := ifBF r24 c27; clear r24
   refine .skip ?_;refine .seq ?_;refine .region rfl ?_;refine .q .ro (.fieldAddr 2 rfl fl256_2 ty3.sz rfl) rfl ?_;refine .q .ro (.load_own 1 rfl rfl ty3 rfl) rfl ?_
   obtain ⟨u31, hu31, r32⟩ := bind_some r30; clear r30
   refine .makeR (G := G14) (Q := (Rep.int .i64)) .ro sl22 ty3 rfl rfl rfl ((Rep.intI .i64 0) :) rfl rfl hu31 rfl rfl (fun b33 cs34 hb33 o35 => ?_)
   refine .av rfl rfl ?_;refine .re ?_;refine .prune [(1, _), (5, _), (6, _)] ⟨rfl, rfl, rfl, trivial⟩ ?_;refine .seq ?_;refine .seq ?_;refine .region rfl ?_;refine .mv rfl rfl ?_;refine .q .ro (.len_sl rfl rfl sl22) rfl ?_;refine .mv rfl rfl ?_
   refine .re ?_;refine .block ?_
   refine .loop2 (α := Nat × List Int × List Int × Option Addr × Nat × List Value) (fun y => [(6, .slice y.2.2.2.1 y.2.2.1.length y.2.2.2.2.1), (24, .int .i64 (y.1 : Int))]) [(1, _), (5, _), (23, _)] (fun y => []) (fun y => []) [_, _] (fun y => [.s (.slice y.2.2.2.1 y.2.2.1.length y.2.2.2.2.1) 3 1 y.2.2.1.length y.2.2.2.2.2]) [] (fun y => OL (Rep.int .i64) G14 y.2.2.2.2.2 y.2.2.1 ∧ List.drop y.1 u31 = y.2.1 ∧ solve_Solve_L1 u10.2.2.1 u10.2.2.2.2 x0_2 y.2.1 y.1 y.2.2.1 = some r) (fun y => y.2.1.length) (0, u31, u31, (some ⟨b33, 0, none⟩), u31.length, cs34) ⟨o35, rfl, r32⟩ ⟨rfl, rfl, rfl, rfl, rfl, trivial⟩ rfl rfl rfl (fun y hI hb89 => ?_)
   obtain ⟨i79, w80, v82, a83, k84, cs85⟩ := y
   obtain ⟨o86, g81, r88⟩ := hI
   try dsimp only at o86 g81 r88
   refine .prune [(6, .slice a83 v82.length k84), (24, .int .i64 (i79 : Int)), (1, _), (5, _), (23, _)] ⟨rfl, rfl, rfl, rfl, rfl, trivial⟩ ?_;refine .same (bl' := [_, _]) (sl' := [.s (.slice a83 v82.length k84) 3 1 v82.length cs85]) (Fs' := G14 :: Fs) rfl rfl rfl ?_
   cases w80 with
   | nil =>
    rw [solve_Solve_L1] at r88; try dsimp only at r88
    refine .seq ?_;refine .region rfl ?_;refine .q .ro (.lss rfl rfl) rfl ?_;refine .re ?_;refine .seq ?_
    refine .cond_dec rfl (fun c => absurd c (drop_nil g81)) (fun _ => ?_)
    refine .exit rfl ?_;refine .seq ?_;refine .region rfl ?_;refine .mv rfl rfl ?_;refine .av rfl rfl ?_;refine .av rfl rfl ?_;refine .re ?_
    cases r88
    refine .drop 2 0 [] _ rfl rfl ?_
    refine .retS (c := ⟨175, none⟩) (.inr ⟨_, rfl⟩) [.tmp 2, .tmp 3] [_, _] rfl Tryz.func175 Tryz.results175 ⟨RV.tmp rfl, RV.tmp rfl, trivial⟩ mcm ⟨a83, k84, cs85, rfl, rfl, rfl, (OL.flat (Rep.flat_int _) o86)⟩
   | cons x17 xs29 =>
    have r36 : solve_Solve_B1 u10.2.2.1 u10.2.2.2.2 x0_2 (solve_Solve_L1 u10.2.2.1 u10.2.2.2.2 x0_2 xs29 (i79 + 1)) x17 i79 v82 = some r := r88; clear r88; unfold solve_Solve_B1 at r36; try dsimp only at r36
    refine .seq ?_;refine .region rfl ?_;refine .q .ro (.lss rfl rfl) rfl ?_;refine .re ?_;refine .seq ?_
    refine .cond_dec rfl (fun _ => ?_) (fun c => absurd (drop_lt g81) c)
    refine .skip ?_;refine .seq ?_;refine .block ?_;refine .seq ?_;refine .region rfl ?_;refine .mv rfl rfl ?_;refine .av rfl rfl ?_;refine .re ?_;refine .seq ?_
    refine .region rfl ?_;refine .mv rfl rfl ?_;refine .mv rfl rfl ?_;refine .q .ro (.nilCheck rfl rfl) rfl ?_;refine .q .ro (.fieldAddr 4 rfl fl286_4 ty284.sz rfl) rfl ?_
    obtain ⟨u37, hu37, r38⟩ := bind_some r36; clear r36
    refine .q .ro (.indexAddr_ar (4 + ((i79 : Int)).toNat) rfl rfl ar284 ty3.sz (lidx_some hu37).1 (lt_of_lt_of_len (lidx_some hu37).2.1 hl22) (by rw [Nat.mul_one])) rfl ?_;refine .q .ro (.load_own 0 rfl rfl ty3 (arr_get (pre := [_, _, _, _]) (f := Value.int .i64) (L := u10.2.2.2.2) hu37)) rfl ?_;refine .av rfl rfl ?_;refine .re ?_;refine .seq ?_;refine .region rfl ?_;refine .mv rfl rfl ?_;refine .q .ro (.gtr rfl rfl) rfl ?_;refine .re ?_
    refine .cond_dec rfl (fun c39 => ?_) (fun c39 => ?_)
    ·have r40 := ifT r38 c39; clear r38
     refine .drawL (.q 0 (.q 1 (.q 2 (.q 3 (.q 4 (.q 5 (.q 6 (.q 7 (.q 8 (.q 9 (.q 10 (.q 11 (.q 12 (.q 13 (.e 14 2 (.e 15 2 .nil)))))))))))))))) [_, _] (by kernel_rfl) (by kernel_rfl) (pick_mem [0, 1] rfl) ?_;refine .dq (.move rfl) rfl ?_;refine .dq (.move rfl) rfl ?_;refine .dq (.move rfl) rfl ?_;refine .dq (.nilCheck rfl rfl) rfl ?_;refine .dq (.fieldAddr 2 rfl fl286_2 ty51.sz rfl) rfl ?_;refine .dq (.load_own 0 rfl rfl ty51 rfl) rfl ?_;refine .dq (.move rfl) rfl ?_;refine .dq (.subw rfl rfl) rfl ?_
     obtain ⟨u41, hu41, r42⟩ := bind_some r40; clear r40
     obtain ⟨c43, p44, h45⟩ := SlR.get s21 hu41
     obtain ⟨a46, k47, rfl, s48⟩ := h45
     refine .dq (.idxR s21 rfl rfl hu41 sl51 ty22.sz) rfl ?_;refine .dq (.load_rp p44 List.mem_cons_self rfl ty22 rfl) rfl ?_;refine .dq (.fieldAddr 2 rfl fl256_2 ty3.sz rfl) rfl ?_;refine .dq (.load_own 1 rfl rfl ty3 rfl) rfl ?_
     obtain ⟨u49, hu49, r50⟩ := bind_some r42; clear r42
     obtain ⟨c52, p53, h54⟩ := SlR.get s48 hu49
     obtain rfl := h54
     refine .dq (.idxR s48 rfl rfl hu49 sl22 ty3.sz) rfl ?_;refine .dq (.load_rp p53 List.mem_cons_self rfl ty3 rfl) rfl ?_
     obtain ⟨u55, hu55, r56⟩ := bind_some r50; clear r50
     obtain ⟨c57, p58, h59⟩ := OL.get o86 hu55
     obtain rfl := h59
     refine .q .d2 (.idxO 0 rfl rfl rfl hu55 sl22 ty3.sz) rfl ?_
     obtain ⟨u60, hu60, r61⟩ := bind_some r56; clear r56
     refine .storeR 0 0 (Q := (Rep.int .i64)) .d2 rfl rfl o86 hu60 rfl (.inl ⟨rfl, rfl⟩) rfl ty3 p58 ((Rep.intI .i64 u49) :) rfl rfl (fun cs62 hlcs62 o63 => ?_)
     refine .reval 6 hlcs62 rfl ?_;refine .reval 35 hlcs62 rfl ?_;refine .draw_end ?_;refine .prune [(6, _), (24, _), (1, _), (5, _), (23, _)] ⟨rfl, rfl, rfl, rfl, rfl, trivial⟩ ?_;refine .inBlock ?_;refine .region rfl ?_;refine .q .ro (.addw rfl rfl) rfl ?_;refine .mv rfl rfl ?_;refine .re ?_
     refine .prune _ ?_ (Cov.same rfl rfl rfl (hb89 ((i79 + 1), xs29, u60, a83, k84, cs62) ⟨o63, (drop_succ g81), r61⟩ (Nat.lt_succ_self _)))
     exact ⟨rfl, (congrArg (fun z => some (Value.int .i64 z)) (idx_wrap (OL.len' o35) g81)), rfl, rfl, rfl, trivial⟩
    ·have r65 := ifF r38 c39; clear r38
     refine .skip ?_;refine .inBlock ?_;refine .region rfl ?_;refine .q .ro (.addw rfl rfl) rfl ?_;refine .mv rfl rfl ?_;refine .re ?_;refine .prune [(6, _), (24, _), (1, _), (5, _), (23, _)] ⟨rfl, rfl, rfl, rfl, rfl, trivial⟩ ?_
     refine .prune _ ?_ (Cov.same rfl rfl rfl (hb89 ((i79 + 1), xs29, v82, a83, k84, cs85) ⟨o86, (drop_succ g81), r65⟩ (Nat.lt_succ_self _)))
     exact ⟨rfl, (congrArg (fun z => some (Value.int .i64 z)) (idx_wrap (OL.len' o35) g81)), rfl, rfl, rfl, trivial⟩
theorem poly_Divide_c {Fs : List Hp} {G : Hp} {x0_0 : Int} {a1 : Option Addr} {k1 : Nat} {x1 : List Int} {a2 : Option Addr} {k2 : Nat} {x2 : List Int} {r : ((List Int) × (List Int) × Int)} (hG : G ∈ Fs) (s1 : SlR (Rep.int .i64) G a1 k1 x1) (s2 : SlR (Rep.int .i64) G a2 k2 x2) (h : poly_Divide x0_0 x1 x2 = some r) : RetS Tryz.prog 176 #[.agg #[.int .i64 x0_0], .slice a1 x1.length k1, .slice a2 x2.length k2] Fs [] [] (fun v bo so => ∃ (oa0 : Option Addr) (ok0 : Nat) (oc0 : List Value), ∃ (oa1 : Option Addr) (ok1 : Nat) (oc1 : List Value), v = .tuple #[.slice oa0 r.1.length ok0, .slice oa1 r.2.1.length ok1, .int .i64 r.2.2] ∧ bo = [] ∧ so = [.s (.slice oa0 r.1.length ok0) 3 1 r.1.length oc0, .s (.slice oa1 r.2.1.length ok1) 3 1 r.2.1.length oc1] ∧ OL (Rep.int .i64) G oc0 r.1 ∧ OL (Rep.int .i64) G oc1 r.2.1) := by
 unfold poly_Divide at h
 try dsimp only at h
 refine RetS.of (vs := [_, _, _]) Tryz.func176 rfl Tryz.ntmps176 [(0, _), (1, _), (2, _)] ⟨rfl, rfl, rfl, trivial⟩ rfl hG fun w0 S0 hS0 B0 => ?_
 refine .seq ?_;refine .region rfl ?_
 refine .box [_] .ro rfl rfl rfl (fun b1 hb1 => ?_)
 refine .av rfl rfl ?_;refine .av rfl rfl ?_;refine .av rfl rfl ?_;refine .re ?_;refine .seq ?_;refine .region rfl ?_;refine .q .ro (.load_own_a 0 [_] rfl rfl ty45 rfl) rfl ?_;refine .mv rfl rfl ?_;refine .mv rfl rfl ?_
 refine .lit [_, _] [(0, _), (1, _)] .ro sl51 ty22 rfl rfl rfl rfl rfl rfl (fun b2 hb2 => ?_)
 have o3 : OL (Rep.sl (Rep.int .i64)) G [.slice a1 x1.length k1, .slice a2 x2.length k2] ([x1, x2] : List (List Int)) := ((OL.cons rfl (Rep.slI s1) (OL.cons rfl (Rep.slI s2) (OL.nil (Rp' := (Rep.sl (Rep.int .i64)))))) :)
 refine .reval 21 (n' := ([x1, x2] : List (List Int)).length) rfl rfl ?_
 refine .freezeR 0 rfl rfl o3 [] rfl B0 (fun G5 e6 B7 s8 => ?_)
 obtain ⟨u10, hu10, r11⟩ := bind_some h; clear h
 refine .callS (b1 := []) (b2 := [_]) (s1 := []) [_, _] [] .ro rfl rfl Tryz.call194 rfl rfl (poly_open_c (G := G5) List.mem_cons_self s8 hu10) rfl (fun v13 bo so h12 => ?_)
 obtain ⟨rfl, rfl, rfl⟩ := h12
 refine .same (bl' := [_]) (sl' := []) rfl rfl rfl ?_;refine .mv rfl rfl ?_;refine .q .ro (.extract rfl rfl) rfl ?_;refine .q .ro (.extract rfl rfl) rfl ?_;refine .av rfl rfl ?_;refine .av rfl rfl ?_;refine .re ?_;refine .prune [(1, _), (2, _), (9, _), (10, _)] ⟨rfl, rfl, rfl, rfl, trivial⟩ ?_;refine .seq ?_
 refine .seq ?_;refine .region rfl ?_;refine .mv rfl rfl ?_;refine .q .ro (.neq rfl rfl) rfl ?_;refine .re ?_
 refine .cond_dec rfl (fun c14 => ?_) (fun c14 => ?_)
 ·have r15 := ifT r11 c14; clear r11
  refine .seq ?_;refine .region rfl ?_;refine .mv rfl rfl ?_;refine .av rfl rfl ?_;refine .av rfl rfl ?_;refine .av rfl rfl ?_;refine .re ?_;refine .own_nil 3 1 ?_;refine .own_nil 3 1 ?_
  cases r15
  refine .drop 1 0 [] _ rfl rfl ?_;refine .pullS 1 rfl [_, _] rfl ?_
  refine .retS (c := ⟨176, none⟩) (.inr ⟨_, rfl⟩) [.tmp 6, .tmp 7, .tmp 8] [_, _, _] rfl Tryz.func176 Tryz.results176 ⟨RV.tmp rfl, RV.tmp rfl, RV.tmp rfl, trivial⟩ mcm ⟨none, 0, [], none, 0, [], rfl, rfl, rfl, (OL.nil (Rp' := (Rep.int .i64))), (OL.nil (Rp' := (Rep.int .i64)))⟩
 ·have r18 := ifF r11 c14; clear r11
  refine .skip ?_;refine .seq ?_;refine .region rfl ?_;refine .mv rfl rfl ?_
  obtain ⟨u19, hu19, r20⟩ := bind_some r18; clear r18
  refine .callS (b1 := []) (b2 := [_]) (s1 := []) [_] [] .ro rfl rfl Tryz.call195 rfl rfl (poly_own_c (G := G5) List.mem_cons_self (SlR.mono e6 s1) hu19) rfl (fun v22 bo so h21 => ?_)
  obtain ⟨a24, k25, cs26, rfl, rfl, rfl, o27⟩ := h21
  refine .same (bl' := [_]) (sl' := [_]) rfl rfl rfl ?_;refine .mv rfl rfl ?_
  obtain ⟨u28, hu28, r29⟩ := bind_some r20; clear r20
  refine .callS (b1 := []) (b2 := [_]) (s1 := []) [_] [] .ro rfl rfl Tryz.call196 rfl rfl (residue_Trim_c (G := G5) List.mem_cons_self (SlR.mono e6 s2) hu28) rfl (fun v31 bo so h30 => ?_)
  obtain ⟨a32, k33, rfl, rfl, rfl, s34⟩ := h30
  refine .same (bl' := [_]) (sl' := [_]) rfl rfl rfl ?_;refine .av rfl rfl ?_;refine .av rfl rfl ?_;refine .re ?_;refine .seq ?_;refine .region rfl ?_;refine .mv rfl rfl ?_;refine .q .ro (.len_sl rfl rfl sl22) rfl ?_;refine .av rfl rfl ?_
  refine .re ?_;refine .seq ?_;refine .seq ?_;refine .region rfl ?_;refine .mv rfl rfl ?_;refine .q .ro (.eql rfl rfl) rfl ?_;refine .re ?_
  refine .cond_dec rfl (fun c35 => ?_) (fun c35 => ?_)
  ·have r36 := ifT r29 c35; clear r29
   refine .seq ?_;refine .region rfl ?_;refine .av rfl rfl ?_;refine .av rfl rfl ?_;refine .av rfl rfl ?_;refine .re ?_;refine .prune [(6, _), (7, _), (8, _)] ⟨rfl, rfl, rfl, trivial⟩ ?_;refine .own_nil 3 1 ?_;refine .own_nil 3 1 ?_
   cases r36
   refine .drop 1 0 [] _ rfl rfl ?_;refine .pullS 1 rfl [_, _, _] rfl ?_;refine .pullS 2 rfl [_, _, _] rfl ?_;refine .drop 0 1 _ [_, _] rfl rfl ?_
   refine .retS (c := ⟨176, none⟩) (.inr ⟨_, rfl⟩) [.tmp 6, .tmp 7, .tmp 8] [_, _, _] rfl Tryz.func176 Tryz.results176 ⟨RV.tmp rfl, RV.tmp rfl, RV.tmp rfl, trivial⟩ mcm ⟨none, 0, [], none, 0, [], rfl, rfl, rfl, (OL.nil (Rp' := (Rep.int .i64))), (OL.nil (Rp' := (Rep.int .i64)))⟩
  ·have r39 := ifF r29 c35; clear r29
   refine .skip ?_;refine .seq ?_;refine .region rfl ?_;refine .mv rfl rfl ?_;refine .q .ro (.len_sl rfl rfl sl22) rfl ?_;refine .mv rfl rfl ?_;refine .q .ro (.subw rfl rfl) rfl ?_;refine .q .ro (.addw rfl rfl) rfl ?_;refine .q .ro (.max2 rfl rfl) rfl ?_
   obtain ⟨u40, hu40, r41⟩ := bind_some r39; clear r39
   refine .makeR (G := G5) (Q := (Rep.int .i64)) .ro sl22 ty3 rfl rfl rfl ((Rep.intI .i64 0) :) rfl rfl hu40 rfl rfl (fun b42 cs43 hb42 o44 => ?_)
   refine .av rfl rfl ?_;refine .re ?_;refine .prune [(2, _), (9, _), (11, _), (12, _), (13, _)] ⟨rfl, rfl, rfl, rfl, rfl, trivial⟩ ?_;refine .seq ?_;refine .region rfl ?_;refine .mv rfl rfl ?_;refine .mv rfl rfl ?_;refine .mv rfl rfl ?_;refine .q .ro (.subw rfl rfl) rfl ?_
   obtain ⟨u46, hu46, r47⟩ := bind_some r41; clear r41
   obtain ⟨c48, p49, h50⟩ := SlR.get s34 hu46
   obtain rfl := h50
   refine .q .ro (.idxR s34 rfl rfl hu46 sl22 ty3.sz) rfl ?_;refine .q .ro (.load_rp p49 List.mem_cons_self rfl ty3 rfl) rfl ?_
   obtain ⟨u51, hu51, r52⟩ := bind_some r47; clear r47
   refine .callS (b1 := []) (b2 := [_]) (s1 := []) [_, _] [] .ro rfl rfl Tryz.call197 rfl rfl (residue_Field_Inverse_c (G := G5) List.mem_cons_self  hu51) rfl (fun v54 bo so h53 => ?_)
   obtain ⟨rfl, rfl, rfl⟩ := h53
   refine .same (bl' := [_]) (sl' := [_, _]) rfl rfl rfl ?_;refine .av rfl rfl ?_;refine .re ?_;refine .seq ?_;refine .cutB (β := List Int × Option Addr × Nat × List Value × Int × Int × Value × List Int × Option Addr × Nat × List Value) (fun y => [(11, y.2.2.2.2.2.2.1), (13, .slice y.2.2.2.2.2.2.2.2.1 y.2.2.2.2.2.2.2.1.length y.2.2.2.2.2.2.2.2.2.1)]) [] (fun y => G5 :: Fs) (fun y => []) [_] (fun y => [.s (.slice y.2.1 y.1.length y.2.2.1) 3 1 y.1.length y.2.2.2.1, .s (.slice y.2.2.2.2.2.2.2.2.1 y.2.2.2.2.2.2.2.1.length y.2.2.2.2.2.2.2.2.2.1) 3 1 y.2.2.2.2.2.2.2.1.length y.2.2.2.2.2.2.2.2.2.2]) [] (fun y => OL (Rep.int .i64) G5 y.2.2.2.1 y.1 ∧ PartV y.2.1 1 y.2.2.2.2.2.2.1 y.2.2.2.2.1.toNat (y.2.2.2.2.2.1 - y.2.2.2.2.1).toNat ∧ OL (Rep.int .i64) G5 y.2.2.2.2.2.2.2.2.2.2 y.2.2.2.2.2.2.2.1 ∧ poly_Divide_J1 y.1 y.2.2.2.2.1 y.2.2.2.2.2.1 y.2.2.2.2.2.2.2.1 = some r) trivial [0] rfl [] rfl ?_ ?_
   ·intro y hI
    obtain ⟨v16, a17, k23, cs37, v38, v55, vv56, v57, a58, k59, cs60⟩ := y
    obtain ⟨o61, pv62, o63, r65⟩ := hI
    try dsimp only at o61 pv62 o63 r65
    refine .prune [(11, vv56), (13, .slice a58 v57.length k59)] ⟨rfl, rfl, trivial⟩ ?_;refine .same (bl' := [_]) (sl' := [.s (.slice a17 v16.length k23) 3 1 v16.length cs37, .s (.slice a58 v57.length k59) 3 1 v57.length cs60]) (Fs' := G5 :: Fs) rfl rfl rfl ?_
    unfold poly_Divide_J1 at r65
    try dsimp only at r65
    refine .seq ?_;refine .region rfl ?_;refine .mv rfl rfl ?_
    refine .freezeR 1 rfl rfl o63 [_] rfl B7 (fun G66 e68 B69 s70 => ?_)
    obtain ⟨u71, hu71, r72⟩ := bind_some r65; clear r65
    refine .callS (b1 := []) (b2 := [_]) (s1 := []) [_] [] .ro rfl rfl Tryz.call195 rfl rfl (poly_own_c (G := G66) List.mem_cons_self s70 hu71) rfl (fun v73 bo so h74 => ?_)
    obtain ⟨a75, k76, cs78, rfl, rfl, rfl, o79⟩ := h74
    refine .same (bl' := [_]) (sl' := [_, _]) rfl rfl rfl ?_;refine .mv rfl rfl ?_
    refine .freezeR 1 rfl rfl (OL.mono e68 o61) [_] rfl B69 (fun G80 e81 B82 s83 => ?_)
    obtain ⟨u84, hu84, r85⟩ := bind_some r72; clear r72
    obtain ⟨a86, k87, h88, s89⟩ := SlR.part s83 pv62 hu84
    refine .revalV 91 h88.symm rfl ?_
    obtain ⟨u90, hu90, r91⟩ := bind_some r85; clear r85
    refine .callS (b1 := []) (b2 := [_]) (s1 := []) [_] [] .ro rfl rfl Tryz.call195 rfl rfl (poly_own_c (G := G80) List.mem_cons_self s89 hu90) rfl (fun v92 bo so h93 => ?_)
    obtain ⟨a94, k95, cs96, rfl, rfl, rfl, o97⟩ := h93
    refine .same (bl' := [_]) (sl' := [_, _]) rfl rfl rfl ?_;refine .av rfl rfl ?_;refine .av rfl rfl ?_;refine .av rfl rfl ?_;refine .re ?_
    cases r91
    refine .drop 1 0 [] _ rfl rfl ?_;refine .pullS 1 rfl [_, _] rfl ?_
    refine .retS (c := ⟨176, none⟩) (.inr ⟨_, rfl⟩) [.tmp 6, .tmp 7, .tmp 8] [_, _, _] rfl Tryz.func176 Tryz.results176 ⟨RV.tmp rfl, RV.tmp rfl, RV.tmp rfl, trivial⟩ mcm ⟨a75, k76, cs78, a94, k95, cs96, rfl, rfl, rfl, (OL.flat (Rep.flat_int _) o79), (OL.flat (Rep.flat_int _) o97)⟩
   ·intro hb98
    refine .block ?_
    refine .owncap 1 rfl (fun h99 => ?_)
    refine .pullS 1 rfl [_, _] rfl ?_
    refine .loop2 (α := Nat × List Int × List Value × Int × Int × Value × List Int × Option Addr × Nat × List Value) (fun y => [(11, y.2.2.2.2.2.1), (13, .slice y.2.2.2.2.2.2.2.1 y.2.2.2.2.2.2.1.length y.2.2.2.2.2.2.2.2.1)]) [(2, _), (9, _), (12, _), (14, _)] (fun y => []) (fun y => []) [_] (fun y => [.s (.slice a24 y.2.1.length k25) 3 1 y.2.1.length y.2.2.1, .s (.slice y.2.2.2.2.2.2.2.1 y.2.2.2.2.2.2.1.length y.2.2.2.2.2.2.2.2.1) 3 1 y.2.2.2.2.2.2.1.length y.2.2.2.2.2.2.2.2.2]) [] (fun y => OL (Rep.int .i64) G5 y.2.2.1 y.2.1 ∧ y.2.1.length = u19.length ∧ PartV a24 1 y.2.2.2.2.2.1 y.2.2.2.1.toNat (y.2.2.2.2.1 - y.2.2.2.1).toNat ∧ OL (Rep.int .i64) G5 y.2.2.2.2.2.2.2.2.2 y.2.2.2.2.2.2.1 ∧ poly_Divide_L3 poly_Divide_J1 u28 u10.1 (u28.length : Int) u51 y.1 y.2.1 y.2.2.2.1 y.2.2.2.2.1 y.2.2.2.2.2.2.1 = some r) (fun y => y.1) (big, u19, cs26, 0, (u19.length : Int), _, u40, (some ⟨b42, 0, none⟩), u40.length, cs43) ⟨o27, rfl, (PartV.all h99), o44, r52⟩ ⟨rfl, rfl, rfl, rfl, rfl, rfl, trivial⟩ rfl rfl rfl (fun y hI hb100 => ?_)
    obtain ⟨n101, v102, cs103, v104, v105, vv106, v107, a108, k109, cs110⟩ := y
    obtain ⟨o111, hl112, pv113, o114, r115⟩ := hI
    try dsimp only at o111 hl112 pv113 o114 r115
    refine .prune [(11, vv106), (13, .slice a108 v107.length k109), (2, _), (9, _), (12, _), (14, _)] ⟨rfl, rfl, rfl, rfl, rfl, rfl, trivial⟩ ?_;refine .same (bl' := [_]) (sl' := [.s (.slice a24 v102.length k25) 3 1 v102.length cs103, .s (.slice a108 v107.length k109) 3 1 v107.length cs110]) (Fs' := G5 :: Fs) rfl rfl rfl ?_
    obtain ⟨m116, rfl⟩ : ∃ m, n101 = m + 1 := by cases n101 with | zero => exact absurd (show (none : Option _) = some _ from r115) (by simp) | succ m => exact ⟨m, rfl⟩
    have r117 : poly_Divide_B3 poly_Divide_J1 u28 u10.1 (u28.length : Int) u51 (poly_Divide_L3 poly_Divide_J1 u28 u10.1 (u28.length : Int) u51 m116) v102 v104 v105 v107 = some r := r115; clear r115; unfold poly_Divide_B3 at r117; try dsimp only at r117
    refine .seq ?_;refine .seq ?_;refine .region rfl ?_;refine .mv rfl rfl ?_;refine .q .ro (.len_p rfl pv113 sl22) rfl ?_;refine .mv rfl rfl ?_;refine .q .ro (.geq rfl rfl) rfl ?_;refine .re ?_
    refine .cond_dec rfl (fun c118 => ?_) (fun c118 => ?_)
    ·have r119 := ifT r117 c118; clear r117
     refine .skip ?_;refine .block ?_;refine .seq ?_;refine .region rfl ?_;refine .mv rfl rfl ?_;refine .q .ro (.len_p rfl pv113 sl22) rfl ?_;refine .mv rfl rfl ?_;refine .q .ro (.subw rfl rfl) rfl ?_;refine .av rfl rfl ?_
     refine .re ?_;refine .seq ?_;refine .region rfl ?_;refine .mv rfl rfl ?_;refine .mv rfl rfl ?_;refine .mv rfl rfl ?_;refine .q .ro (.len_p rfl pv113 sl22) rfl ?_;refine .q .ro (.subw rfl rfl) rfl ?_
     obtain ⟨u120, hu120, r121⟩ := bind_some r119; clear r119
     obtain ⟨u122, hu122, r123⟩ := bind_some r121; clear r121
     obtain ⟨c124, p125, h126⟩ := OL.get o111 hu122
     obtain rfl := h126
     refine .q .ro (.idxP 0 rfl rfl pv113 rfl hu120 hu122 sl22 ty3.sz) rfl ?_;refine .q .ro (.loadO 0 0 rfl hu122 p125 rfl (.inl ⟨rfl, rfl⟩) ty3 rfl) rfl ?_;refine .mv rfl rfl ?_
     obtain ⟨u127, hu127, r128⟩ := bind_some r123; clear r123
     refine .callS (b1 := []) (b2 := [_]) (s1 := []) [_, _, _] [] .ro rfl rfl Tryz.call77 rfl rfl (residue_Field_Mul_c (G := G5) List.mem_cons_self  hu127) rfl (fun v129 bo so h130 => ?_)
     obtain ⟨rfl, rfl, rfl⟩ := h130
     refine .same (bl' := [_]) (sl' := [_, _]) rfl rfl rfl ?_;refine .av rfl rfl ?_;refine .re ?_;refine .prune [(11, _), (13, _), (2, _), (9, _), (12, _), (14, _), (15, _), (16, _)] ⟨rfl, rfl, rfl, rfl, rfl, rfl, rfl, rfl, trivial⟩ ?_;refine .seq ?_;refine .region rfl ?_;refine .mv rfl rfl ?_;refine .mv rfl rfl ?_;refine .mv rfl rfl ?_
     obtain ⟨u131, hu131, r132⟩ := bind_some r128; clear r128
     obtain ⟨c133, p134, h135⟩ := OL.get o114 hu131
     obtain rfl := h135
     refine .q .ro (.idxO 1 rfl rfl rfl hu131 sl22 ty3.sz) rfl ?_
     obtain ⟨u136, hu136, r137⟩ := bind_some r132; clear r132
     refine .storeR 1 0 (Q := (Rep.int .i64)) .ro rfl rfl o114 hu136 rfl (.inl ⟨rfl, rfl⟩) rfl ty3 p134 ((Rep.intI .i64 u127) :) rfl rfl (fun cs138 hlcs138 o139 => ?_)
     refine .reval 13 hlcs138 rfl ?_;refine .reval 67 hlcs138 rfl ?_;refine .re ?_;refine .seq ?_;refine .cutG (β := List Int × List Value) (fun y => []) [(11, _), (13, _), (2, _), (9, _), (12, _), (14, _)] (fun y => G5 :: Fs) (fun y => []) [_] (fun y => [.s (.slice a24 y.1.length k25) 3 1 y.1.length y.2]) [_] (fun y => OL (Rep.int .i64) G5 y.2 y.1 ∧ y.1.length = u19.length ∧ (poly_Divide_J2 (poly_Divide_L3 poly_Divide_J1 u28 u10.1 (u28.length : Int) u51 m116) v104 v105 u136) y.1 = some r) ⟨rfl, rfl, rfl, rfl, rfl, rfl, trivial⟩ [0] rfl [1] rfl ?_ ?_
     ·intro y hI
      obtain ⟨v140, cs141⟩ := y
      obtain ⟨o142, hl143, r144⟩ := hI
      try dsimp only at o142 hl143 r144
      refine .prune [(11, _), (13, _), (2, _), (9, _), (12, _), (14, _)] ⟨rfl, rfl, rfl, rfl, rfl, rfl, trivial⟩ ?_;refine .same (bl' := [_]) (sl' := [.s (.slice a24 v140.length k25) 3 1 v140.length cs141, _]) (Fs' := G5 :: Fs) rfl rfl rfl ?_
      unfold poly_Divide_J2 at r144
      try dsimp only at r144
      refine .region rfl ?_;refine .mv rfl rfl ?_;refine .mv rfl rfl ?_;refine .q .ro (.len_p rfl pv113 sl22) rfl ?_;refine .q .ro (.subw rfl rfl) rfl ?_;refine .mv rfl rfl ?_;refine .q .ro (.len_p rfl pv113 sl22) rfl ?_;refine .q .ro (.subw rfl rfl) rfl ?_
      obtain ⟨u145, hu145, r146⟩ := bind_some r144; clear r144
      refine .q .ro (.sliceP3 rfl pv113 hu145 sl22 ty3.sz rfl rfl) rfl ?_
      refine .toV 0 rfl (fun vb147 po148 va149 vb150 => ?_)
      obtain ⟨u151, hu151, r152⟩ := bind_some r146; clear r146
      refine .lendP 0 87 rfl va149 o142 (PartV.psub3 pv113 hu145) rfl hu151 rfl (fun a153 k154 h155 o156 va157 => ?_)
      obtain ⟨u158, hu158, r159⟩ := bind_some r152; clear r152
      refine .callS (b1 := []) (b2 := [_]) (s1 := [_]) [_] [] .ro rfl rfl Tryz.call196 rfl rfl (residue_Trim_p_c (G := G5) List.mem_cons_self va157 o156 hu158) rfl (fun v160 bo so h161 => ?_)
      obtain ⟨vv162, cs163, rfl, rfl, rfl, pv164, o165, hl166⟩ := h161
      refine .same (bl' := [_]) (sl' := [_, _]) rfl rfl rfl ?_
      refine .backP 0 rfl va149 o142 rfl hu151 o165 hl166 (fun cs167 hl168 o169 va170 => ?_)
      refine .ofV 0 rfl vb150 hl168 o169 rfl ?_
      obtain ⟨u171, hu171, r172⟩ := bind_some r159; clear r159
      refine .av rfl rfl ?_;refine .re ?_;refine .inBlock ?_
      refine .prune _ ?_ (Cov.same rfl rfl rfl (hb100 (m116, (lcpy v140 u145.1 u151.length u158.2), cs167, u171.1, u171.2, _, u136, a108, k109, cs138) ⟨o169, (hl168.trans hl143), (PartV.comp (PartV.psub3 pv113 hu145) h155 pv164 hu171), o139, r172⟩ (Nat.lt_succ_self _)))
      exact ⟨rfl, rfl, rfl, rfl, rfl, rfl, trivial⟩
     ·intro hb173
      refine .drawL (.q 0 (.q 1 (.q 2 (.q 4 (.q 5 (.q 7 (.alt (.e 3 1 (.e 6 1 (.e 8 2 .nil))) (.e 6 1 (.e 3 1 (.e 8 2 .nil)))))))))) [_] (by kernel_rfl) (by kernel_rfl) (pick_mem [0] rfl) ?_
      obtain ⟨u174, hu174, r175⟩ := bind_some r137; clear r137
      obtain ⟨u177, hu177, r178⟩ := bind_some r175; clear r175
      obtain ⟨u179, hu179, r180⟩ := bind_some r178; clear r178
      obtain ⟨u181, hu181, r182⟩ := bind_some r180; clear r180
      refine .dq (.move rfl) rfl ?_;refine .dq (.move rfl) rfl ?_;refine .dq (.move rfl) rfl ?_;refine .dq (.move rfl) rfl ?_;refine .dq (.move rfl) rfl ?_;refine .dq (.move rfl) rfl ?_;refine .alt ?_ ?_
      ·refine .q .d1 (.sliceP rfl pv113 hu174 sl22 ty3.sz (fun h => .yes' rfl h) (fun _ => .no)) rfl ?_
       refine .clsL (HpLe.refl _) (pick_mem [0] rfl) ?_
       refine .callS (b1 := []) (b2 := [_]) (s1 := []) [_, _, _] [] .d1 rfl rfl Tryz.call190 rfl rfl (residue_Field_Sub_c (G := G5) List.mem_cons_self  hu177) rfl (fun v183 bo so h184 => ?_)
       obtain ⟨rfl, rfl, rfl⟩ := h184
       refine .same (bl' := [_]) (sl' := [_, _]) rfl rfl rfl ?_;refine .clsL (HpLe.refl _) (pick_mem [0] rfl) ?_
       refine .toV 0 rfl (fun vb185 po186 va187 vb188 => ?_)
       refine .lendP 0 74 rfl va187 o111 (PartV.psub pv113 hu174) rfl hu179 rfl (fun a189 k191 h192 o193 va198 => ?_)
       refine .callS (b1 := []) (b2 := [_]) (s1 := [_]) [_, _, _, _] [] .d2 rfl rfl Tryz.call67 rfl rfl (residue_Field_AddTimes_c (G := G5) List.mem_cons_self va198 o193 s34 hu181) rfl (fun v199 bo so h200 => ?_)
       obtain ⟨cs201, rfl, rfl, rfl, o202, hl203⟩ := h200
       refine .same (bl' := [_]) (sl' := [_, _]) rfl rfl rfl ?_
       refine .backP 0 rfl va187 o111 rfl hu179 o202 hl203 (fun cs204 hl205 o206 va207 => ?_)
       refine .ofV 0 rfl vb188 hl205 o206 rfl ?_;refine .draw_end ?_;refine .prune [(11, _), (13, _), (2, _), (9, _), (12, _), (14, _)] ⟨rfl, rfl, rfl, rfl, rfl, rfl, trivial⟩ ?_
       refine .prune _ ?_ (Cov.same rfl rfl rfl (hb173 ((lcpy v102 u174.1 u179.length u181), cs204) ⟨o206, (hl205.trans hl112), r182⟩))
       exact ⟨rfl, rfl, rfl, rfl, rfl, rfl, trivial⟩
      ·refine .callS (b1 := []) (b2 := [_]) (s1 := []) [_, _, _] [] .d1 rfl rfl Tryz.call190 rfl rfl (residue_Field_Sub_c (G := G5) List.mem_cons_self  hu177) rfl (fun v208 bo so h209 => ?_)
       obtain ⟨rfl, rfl, rfl⟩ := h209
       refine .same (bl' := [_]) (sl' := [_, _]) rfl rfl rfl ?_;refine .clsL (HpLe.refl _) (pick_mem [0] rfl) ?_;refine .q .d1 (.sliceP rfl pv113 hu174 sl22 ty3.sz (fun h => .yes' rfl h) (fun _ => .no)) rfl ?_;refine .clsL (HpLe.refl _) (pick_mem [0] rfl) ?_
       refine .toV 0 rfl (fun vb210 po211 va212 vb213 => ?_)
       refine .lendP 0 74 rfl va212 o111 (PartV.psub pv113 hu174) rfl hu179 rfl (fun a214 k215 h216 o217 va218 => ?_)
       refine .callS (b1 := []) (b2 := [_]) (s1 := [_]) [_, _, _, _] [] .d2 rfl rfl Tryz.call67 rfl rfl (residue_Field_AddTimes_c (G := G5) List.mem_cons_self va218 o217 s34 hu181) rfl (fun v219 bo so h220 => ?_)
       obtain ⟨cs221, rfl, rfl, rfl, o222, hl223⟩ := h220
       refine .same (bl' := [_]) (sl' := [_, _]) rfl rfl rfl ?_
       refine .backP 0 rfl va212 o111 rfl hu179 o222 hl223 (fun cs224 hl225 o226 va227 => ?_)
       refine .ofV 0 rfl vb213 hl225 o226 rfl ?_;refine .draw_end ?_;refine .prune [(11, _), (13, _), (2, _), (9, _), (12, _), (14, _)] ⟨rfl, rfl, rfl, rfl, rfl, rfl, trivial⟩ ?_
       refine .prune _ ?_ (Cov.same rfl rfl rfl (hb173 ((lcpy v102 u174.1 u179.length u181), cs224) ⟨o226, (hl225.trans hl112), r182⟩))
       exact ⟨rfl, rfl, rfl, rfl, rfl, rfl, trivial⟩
    ·have r228 := ifF r117 c118; clear r117
     refine .exit rfl ?_
     refine .prune _ ?_ (Cov.same rfl rfl rfl (hb98 (v102, a24, k25, cs103, v104, v105, _, v107, a108, k109, cs110) ⟨o111, pv113, o114, r228⟩))
     exact ⟨rfl, rfl, trivial⟩
theorem unique_wrongs_c {Fs : List Hp} {G : Hp} {x0 : Int} {a1 : Option Addr} {k1 : Nat} {x1 : List (Int × Bool)} {a2 : Option Addr} {k2 : Nat} {x2 : List Int} {r : (List Int)} (hG : G ∈ Fs) (s1 : SlR (Rep.pair (Rep.int .i64) Rep.bool) G a1 k1 x1) (s2 : SlR (Rep.int .i64) G a2 k2 x2) (h : unique_wrongs x0 x1 x2 = some r) : RetS Tryz.prog 177 #[.int .i64 x0, .slice a1 x1.length k1, .slice a2 x2.length k2] Fs [] [] (fun v bo so => ∃ (oa0 : Option Addr) (ok0 : Nat) (oc0 : List Value), v = .slice oa0 r.length ok0 ∧ bo = [] ∧ so = [.s (.slice oa0 r.length ok0) 3 1 r.length oc0] ∧ OL (Rep.int .i64) G oc0 r) := by
 unfold unique_wrongs at h
 try dsimp only at h
 refine RetS.of (vs := [_, _, _]) Tryz.func177 rfl Tryz.ntmps177 [(0, _), (1, _), (2, _)] ⟨rfl, rfl, rfl, trivial⟩ rfl hG fun w0 S0 hS0 B0 => ?_
 refine .seq ?_;refine .region rfl ?_;refine .av rfl rfl ?_;refine .re ?_;refine .seq ?_;refine .region rfl ?_;refine .av rfl rfl ?_;refine .re ?_;refine .seq ?_
 refine .seq ?_;refine .region rfl ?_;refine .mv rfl rfl ?_;refine .q .ro (.len_sl rfl rfl sl218) rfl ?_;refine .mv rfl rfl ?_;refine .re ?_;refine .block ?_;refine .own_nil 3 1 ?_
 refine .loop2 (α := Nat × (List (Int × Bool)) × List Int × Option Addr × Nat × List Value) (fun y => [(7, .slice y.2.2.2.1 y.2.2.1.length y.2.2.2.2.1), (12, .int .i64 (y.1 : Int))]) [(0, _), (2, _), (10, _), (11, _)] (fun y => []) (fun y => []) [] (fun y => [.s (.slice y.2.2.2.1 y.2.2.1.length y.2.2.2.2.1) 3 1 y.2.2.1.length y.2.2.2.2.2]) [] (fun y => OL (Rep.int .i64) G y.2.2.2.2.2 y.2.2.1 ∧ List.drop y.1 x1 = y.2.1 ∧ unique_wrongs_L1 x0 x2 y.2.1 y.1 y.2.2.1 = some r) (fun y => y.2.1.length) (0, x1, ([] : List Int), none, 0, []) ⟨(OL.nil (Rp' := (Rep.int .i64))), rfl, h⟩ ⟨rfl, rfl, rfl, rfl, rfl, rfl, trivial⟩ rfl rfl rfl (fun y hI hb99 => ?_)
 obtain ⟨i89, w90, v92, a93, k94, cs95⟩ := y
 obtain ⟨o96, g91, r98⟩ := hI
 try dsimp only at o96 g91 r98
 refine .prune [(7, .slice a93 v92.length k94), (12, .int .i64 (i89 : Int)), (0, _), (2, _), (10, _), (11, _)] ⟨rfl, rfl, rfl, rfl, rfl, rfl, trivial⟩ ?_;refine .same (bl' := []) (sl' := [.s (.slice a93 v92.length k94) 3 1 v92.length cs95]) (Fs' := G :: Fs) rfl rfl rfl ?_
 cases w90 with
 | nil =>
  rw [unique_wrongs_L1] at r98; try dsimp only at r98
  refine .seq ?_;refine .region rfl ?_;refine .q .ro (.lss rfl rfl) rfl ?_;refine .re ?_;refine .seq ?_
  refine .cond_dec rfl (fun c => absurd c (drop_nil g91)) (fun _ => ?_)
  refine .exit rfl ?_;refine .seq ?_;refine .region rfl ?_;refine .mv rfl rfl ?_;refine .av rfl rfl ?_;refine .re ?_
  cases r98
  refine .retS (c := ⟨177, none⟩) (.inr ⟨_, rfl⟩) [.tmp 6] [_] rfl Tryz.func177 Tryz.results177 ⟨RV.tmp rfl, trivial⟩ mcm ⟨a93, k94, cs95, rfl, rfl, rfl, o96⟩
 | cons x10 xs11 =>
  have r12 : unique_wrongs_B1 x0 x2 (unique_wrongs_L1 x0 x2 xs11 (i89 + 1)) x10 i89 v92 = some r := r98; clear r98; unfold unique_wrongs_B1 at r12; try dsimp only at r12
  refine .seq ?_;refine .region rfl ?_;refine .q .ro (.lss rfl rfl) rfl ?_;refine .re ?_;refine .seq ?_
  refine .cond_dec rfl (fun _ => ?_) (fun c => absurd (drop_lt g91) c)
  refine .skip ?_;refine .seq ?_;refine .block ?_;refine .seq ?_;refine .region rfl ?_;refine .mv rfl rfl ?_
  obtain ⟨c13, p14, h15⟩ := SlR.get s1 (drop_idx g91)
  obtain ⟨_, _, rfl, rfl, rfl⟩ := h15
  refine .q .ro (.idxR s1 rfl rfl (drop_idx g91) sl218 ty220.sz) rfl ?_;refine .q .ro (.load_rp_a [_, _] p14 List.mem_cons_self rfl ty220 rfl) rfl ?_
  refine .alloc .ro ty220 rfl (fun b16 hb16 => ?_)
  refine .av rfl rfl ?_;refine .store 0 [_, _] [_] .ro rfl rfl rfl ty220 rfl rfl rfl rfl ?_;refine .re ?_;refine .seq ?_;refine .drawL (.q 0 (.q 1 (.q 2 (.q 3 (.q 4 (.q 5 (.q 6 (.q 8 (.q 9 (.e 7 1 (.q 10 (.q 11 .nil)))))))))))) [_] (by kernel_rfl) (by kernel_rfl) (pick_mem [0] rfl) ?_;refine .dq (.fieldAddr 1 rfl fl220_1 ty4.sz rfl) rfl ?_;refine .dq (.load_own 0 rfl rfl ty4 rfl) rfl ?_;refine .dq (.move rfl) rfl ?_
  obtain ⟨u17, h18, r19⟩ := bind_some r12; clear r12
  refine .cutD 9 (β := Unit) (fun y => [(28, .bool u17)]) [(7, _), (12, _), (0, _), (2, _), (10, _), (11, _), (8, _)] (fun y => G :: Fs) (fun y => []) [_] (fun y => []) [_] (fun y => True) ⟨rfl, rfl, rfl, rfl, rfl, rfl, rfl, trivial⟩ [0] rfl [0] rfl ?_ ?_
  ·rintro _ _
   refine .prune [(28, .bool u17), (7, _), (12, _), (0, _), (2, _), (10, _), (11, _), (8, _)] ⟨rfl, rfl, rfl, rfl, rfl, rfl, rfl, rfl, trivial⟩ ?_;refine .same (bl' := [_]) (sl' := [_]) (Fs' := G :: Fs) rfl rfl rfl ?_;refine .draw_end ?_
   refine .cond rfl (fun c20 => ?_) (fun c20 => ?_)
   ·have r21 := ifT r19 c20; clear r19
    refine .region rfl ?_;refine .mv rfl rfl ?_;refine .mv rfl rfl ?_;refine .q .ro (.addw rfl rfl) rfl ?_
    refine .lit [_] [(0, _)] .ro sl22 ty3 rfl rfl rfl rfl rfl rfl (fun b23 hb23 => ?_)
    have o24 : OL (Rep.int .i64) G [.int .i64 (w64 ((i89 : Int) + 1))] ([(w64 ((i89 : Int) + 1))] : List Int) := ((OL.cons rfl (Rep.intI .i64 (w64 ((i89 : Int) + 1))) (OL.nil (Rp' := (Rep.int .i64)))) :)
    refine .reval 32 (n' := ([(w64 ((i89 : Int) + 1))] : List Int).length) rfl rfl ?_
    obtain ⟨u25, hu25, r26⟩ := bind_some r21; clear r21
    refine .appO (Q := (Rep.int .i64)) 0 .ro sl22 ty3 rfl rfl rfl rfl rfl rfl o96 o24 rfl rfl rfl B0 hu25 rfl (fun a27 k28 cs29 o30 => ?_)
    refine .av rfl rfl ?_;refine .re ?_;refine .inBlock ?_;refine .region rfl ?_;refine .q .ro (.addw rfl rfl) rfl ?_;refine .mv rfl rfl ?_;refine .re ?_;refine .drop 1 0 [] _ rfl rfl ?_
    refine .prune _ ?_ (Cov.same rfl rfl rfl (hb99 ((i89 + 1), xs11, u25, a27, k28, cs29) ⟨o30, (drop_succ g91), r26⟩ (Nat.lt_succ_self _)))
    exact ⟨rfl, (congrArg (fun z => some (Value.int .i64 z)) (idx_wrap (SlR.len s1) g91)), rfl, rfl, rfl, rfl, trivial⟩
   ·have r31 := ifBF r19 c20; clear r19
    refine .skip ?_;refine .inBlock ?_;refine .region rfl ?_;refine .q .ro (.addw rfl rfl) rfl ?_;refine .mv rfl rfl ?_;refine .re ?_;refine .drop 1 0 [] _ rfl rfl ?_
    refine .prune _ ?_ (Cov.same rfl rfl rfl (hb99 ((i89 + 1), xs11, v92, a93, k94, cs95) ⟨o96, (drop_succ g91), r31⟩ (Nat.lt_succ_self _)))
    exact ⟨rfl, (congrArg (fun z => some (Value.int .i64 z)) (idx_wrap (SlR.len s1) g91)), rfl, rfl, rfl, rfl, trivial⟩
  ·intro hb32
   refine .split_b 19 rfl (fun c33 => ?_) (fun c33 => ?_)
   ·have r34 := ifT h18 c33
    refine .dgq_on rfl ?_;refine .dq (.move rfl) rfl ?_;refine .dgq_on rfl ?_;refine .dq (.move rfl) rfl ?_;refine .dgq_on rfl ?_;refine .dq (.move rfl) rfl ?_;refine .dgq_on rfl ?_;refine .dq (.addw rfl rfl) rfl ?_;refine .dgq_on rfl ?_
    refine .dq (.fieldAddr 0 rfl fl220_0 ty3.sz rfl) rfl ?_;refine .dgq_on rfl ?_;refine .dq (.load_own 0 rfl rfl ty3 rfl) rfl ?_;refine .dge_on rfl ?_
    obtain ⟨u35, hu35, r36⟩ := bind_some r34; clear r34
    refine .callS (b1 := []) (b2 := [_]) (s1 := []) [_, _, _] [] .d1 rfl rfl Tryz.call79 rfl rfl (residue_Field_Value_c (G := G) List.mem_cons_self s2 hu35) rfl (fun v37 bo so h38 => ?_)
    obtain ⟨rfl, rfl, rfl⟩ := h38
    refine .same (bl' := [_]) (sl' := [_]) rfl rfl rfl ?_;refine .clsL (HpLe.refl _) (pick_mem [0] rfl) ?_;refine .dgq_on rfl ?_;refine .dq (.neq rfl rfl) rfl ?_;refine .dq (.pick_t rfl rfl) rfl ?_
    refine .prune _ ?_ (Cov.same rfl rfl rfl (hb32 () trivial))
    exact ⟨sval r36, rfl, rfl, rfl, rfl, rfl, rfl, rfl, trivial⟩
   ·have r39 := ifBF h18 c33
    refine .dgq_off rfl rfl rfl ?_;refine .dgq_off rfl rfl rfl ?_;refine .dgq_off rfl rfl rfl ?_;refine .dgq_off rfl rfl rfl ?_;refine .dgq_off rfl rfl rfl ?_;refine .dgq_off rfl rfl rfl ?_;refine .dge_offL rfl rfl rfl (HpLe.refl _) (pick_mem [0] rfl) ?_;refine .dgq_off rfl rfl rfl ?_;refine .dq (.pick_f rfl rfl) rfl ?_
    refine .prune _ ?_ (Cov.same rfl rfl rfl (hb32 () trivial))
    exact ⟨sval r39, rfl, rfl, rfl, rfl, rfl, rfl, rfl, trivial⟩
end Go.Proofs.YtfcicopgdahmcaaGreatDoor
end

section
set_option maxHeartbeats 4000000
set_option maxRecDepth 100000
namespace Go.Proofs.YtfcicopgdahmcaaGreatDoor
open Go.RowKit
set_option linter.unusedSimpArgs false
set_option linter.unusedVariables false
set_option synthInstance.maxSize 2000
set_option synthInstance.maxHeartbeats 400000
theorem unique_decode_c {Fs : List Hp} {G : Hp} {x0_0 : Int} {a1 : Option Addr} {k1 : Nat} {x1 : List (Int × Bool)} {x2 : Int} {r : (((List Int) × (List Int)) × (Option Int))} (hG : G ∈ Fs) (hg0 : Rp G (.pointer (some ⟨0, 0, none⟩)) [ifc233 (some 12)]) (s1 : SlR (Rep.pair (Rep.int .i64) Rep.bool) G a1 k1 x1) (h : unique_decode x0_0 x1 x2 = some r) : RetW Tryz.prog 152 #[.agg #[.int .i64 x0_0], .slice a1 x1.length k1, .int .i64 x2] Fs [] [] (fun v bo so G => ∃ a0 : Option Addr, ∃ k0 : Nat, ∃ a1 : Option Addr, ∃ k1 : Nat, v = .tuple #[.agg #[.slice a0 r.1.1.length k0, .slice a1 r.1.2.length k1], (ifc233 r.2)] ∧ bo = [] ∧ so = [] ∧ SlR (Rep.int .i64) G a0 k0 r.1.1 ∧ SlR (Rep.int .i64) G a1 k1 r.1.2) := by
 unfold unique_decode at h
 try dsimp only at h
 refine RetW.of (vs := [_, _, _]) Tryz.func152 rfl Tryz.ntmps152 [(0, _), (1, _), (2, _)] ⟨rfl, rfl, rfl, trivial⟩ rfl hG fun w0 S0 hS0 B0 => ?_
 refine .seq ?_;refine .region rfl ?_
 refine .box [_] .ro rfl rfl rfl (fun b1 hb1 => ?_)
 refine .alloc .ro ty215 rfl (fun b2 hb2 => ?_)
 refine .av rfl rfl ?_;refine .re ?_;refine .seq ?_;refine .seq ?_;refine .region rfl ?_;refine .q .ro (.load_own_a 1 [_] rfl rfl ty45 rfl) rfl ?_;refine .mv rfl rfl ?_;refine .mv rfl rfl ?_
 obtain ⟨u3, hu3, r4⟩ := bind_some h; clear h
 refine .callS (b1 := []) (b2 := [_, _]) (s1 := []) [_, _, _] [] .ro rfl rfl Tryz.call170 rfl rfl (code_Fill_c (G := G) List.mem_cons_self s1 hu3) rfl (fun v6 bo so h5 => ?_)
 obtain ⟨a8, k9, cs10, rfl, rfl, rfl, o11⟩ := h5
 refine .same (bl' := [_, _]) (sl' := [_]) rfl rfl rfl ?_;refine .mv rfl rfl ?_;refine .q .ro (.extract rfl rfl) rfl ?_;refine .q .ro (.extract rfl rfl) rfl ?_;refine .av rfl rfl ?_;refine .av rfl rfl ?_;refine .re ?_;refine .seq ?_;refine .region rfl ?_
 refine .mv rfl rfl ?_;refine .q .ro (.neq rfl rfl) rfl ?_;refine .re ?_
 refine .cond_dec rfl (fun c12 => ?_) (fun c12 => ?_)
 ·have r13 := ifT r4 c12; clear r4
  refine .seq ?_;refine .region rfl ?_;refine .q .ro (.build [_, _] [] ty215 pl215 rfl rfl) rfl ?_;refine .mv rfl rfl ?_
  obtain ⟨u14, hu14, r15⟩ := bind_some r13; clear r13
  refine .callS (b1 := []) (b2 := [_, _]) (s1 := []) [_] [] .ro rfl rfl Tryz.call171 rfl rfl (unique_of_c (G := G) List.mem_cons_self  hu14) rfl (fun v17 bo so h16 => ?_)
  obtain ⟨rfl, rfl, rfl⟩ := h16
  refine .same (bl' := [_, _]) (sl' := [_]) rfl rfl rfl ?_;refine .store 0 [_, _] [_, _] .ro rfl rfl rfl ty215 rfl rfl rfl rfl ?_;refine .av rfl rfl ?_;refine .re ?_;refine .prune [(6, _), (7, _)] ⟨rfl, rfl, trivial⟩ ?_
  cases r15
  refine .drop 0 1 _ [] rfl rfl ?_
  refine .retWD 2 (c := ⟨152, none⟩) (.inr ⟨_, rfl⟩) [.cell 6 215, .tmp 7] [_, _] rfl Tryz.func152 Tryz.results152 ⟨RV.cell_a 0 [_, _] rfl rfl ty215 rfl, RV.tmp rfl, trivial⟩ mcm List.mem_cons_self B0 (by subst hS0; simp [blks]) (fun G' hg => ⟨none, 0, none, 0, rfl, rfl, rfl, (SlR.mono hg (SlR.nil (Rp' := (Rep.int .i64)))), (SlR.mono hg (SlR.nil (Rp' := (Rep.int .i64))))⟩)
 ·have r18 := ifF r4 c12; clear r4
  refine .skip ?_;refine .seq ?_;refine .region rfl ?_;refine .mv rfl rfl ?_
  obtain ⟨u19, hu19, r20⟩ := bind_some r18; clear r18
  refine .callS (b1 := []) (b2 := [_, _]) (s1 := []) [_] [] .ro rfl rfl Tryz.call173 rfl rfl (unique_count_c (G := G) List.mem_cons_self s1 hu19) rfl (fun v22 bo so h21 => ?_)
  obtain ⟨rfl, rfl, rfl⟩ := h21
  refine .same (bl' := [_, _]) (sl' := [_]) rfl rfl rfl ?_;refine .mv rfl rfl ?_
  obtain ⟨u23, hu23, r24⟩ := bind_some r20; clear r20
  refine .callS (b1 := []) (b2 := [_, _]) (s1 := []) [_, _] [] .ro rfl rfl Tryz.call172 rfl rfl (unique_Radius_c (G := G) List.mem_cons_self  hu23) rfl (fun v26 bo so h25 => ?_)
  obtain ⟨rfl, rfl, rfl⟩ := h25
  refine .same (bl' := [_, _]) (sl' := [_]) rfl rfl rfl ?_;refine .mv rfl rfl ?_;refine .q .ro (.extract rfl rfl) rfl ?_;refine .q .ro (.extract rfl rfl) rfl ?_;refine .av rfl rfl ?_;refine .av rfl rfl ?_;refine .re ?_;refine .prune [(1, _), (2, _), (3, _), (6, _), (10, _)] ⟨rfl, rfl, rfl, rfl, rfl, trivial⟩ ?_;refine .seq ?_
  refine .region rfl ?_;refine .q .ro (.load_own_a 1 [_] rfl rfl ty45 rfl) rfl ?_;refine .mv rfl rfl ?_;refine .mv rfl rfl ?_;refine .mv rfl rfl ?_
  obtain ⟨u27, hu27, r28⟩ := bind_some r24; clear r24
  refine .callW (b1 := []) (b2 := [_, _]) (s1 := []) [_, _, _, _] [] .ro rfl rfl Tryz.call174 rfl rfl (unique_Key_c (G := G) List.mem_cons_self s1 hu27) rfl B0 (fun v30 bo so G31 e32 B33 h29 => ?_)
  obtain ⟨a35, k36, a38, k39, rfl, rfl, rfl, s37, s40⟩ := h29
  refine .same (bl' := [_, _]) (sl' := [_]) rfl rfl rfl ?_;refine .mv rfl rfl ?_;refine .q .ro (.extract rfl rfl) rfl ?_;refine .q .ro (.extract rfl rfl) rfl ?_
  refine .alloc .ro ty256 rfl (fun b41 hb41 => ?_)
  refine .store 0 [_, _, _, _, _] [_, _, _] .ro rfl rfl rfl ty256 rfl rfl rfl rfl ?_;refine .av rfl rfl ?_;refine .re ?_;refine .seq ?_;refine .seq ?_;refine .region rfl ?_;refine .mv rfl rfl ?_;refine .q .ro (.neq rfl rfl) rfl ?_;refine .re ?_
  refine .cond_dec rfl (fun c42 => ?_) (fun c42 => ?_)
  ·have r43 := ifT r28 c42; clear r28
   refine .seq ?_;refine .region rfl ?_;refine .q .ro (.build [_, _] [] ty215 pl215 rfl rfl) rfl ?_;refine .mv rfl rfl ?_
   obtain ⟨u44, hu44, r45⟩ := bind_some r43; clear r43
   refine .callS (b1 := []) (b2 := [_, _, _]) (s1 := []) [_] [] .ro rfl rfl Tryz.call171 rfl rfl (unique_of_c (G := G31) List.mem_cons_self  hu44) rfl (fun v47 bo so h46 => ?_)
   obtain ⟨rfl, rfl, rfl⟩ := h46
   refine .same (bl' := [_, _, _]) (sl' := [_]) rfl rfl rfl ?_;refine .store 1 [_, _] [_, _, _] .ro rfl rfl rfl ty215 rfl rfl rfl rfl ?_;refine .av rfl rfl ?_;refine .re ?_;refine .prune [(6, _), (7, _)] ⟨rfl, rfl, trivial⟩ ?_
   cases r45
   refine .drop 0 1 _ [] rfl rfl ?_
   refine .retWD 3 (c := ⟨152, none⟩) (.inr ⟨_, rfl⟩) [.cell 6 215, .tmp 7] [_, _] rfl Tryz.func152 Tryz.results152 ⟨RV.cell_a 1 [_, _] rfl rfl ty215 rfl, RV.tmp rfl, trivial⟩ mcm List.mem_cons_self B33 (by subst hS0; simp [blks]) (fun G' hg => ⟨none, 0, none, 0, rfl, rfl, rfl, (SlR.mono hg (SlR.nil (Rp' := (Rep.int .i64)))), (SlR.mono hg (SlR.nil (Rp' := (Rep.int .i64))))⟩)
  ·have r48 := ifF r28 c42; clear r28
   refine .skip ?_;refine .seq ?_;refine .region rfl ?_;refine .q .ro (.load_own_a 0 [_, _, _, _, _] rfl rfl ty256 rfl) rfl ?_
   obtain ⟨u49, hu49, r50⟩ := bind_some r48; clear r48
   refine .callS (b1 := []) (b2 := [_, _, _]) (s1 := []) [_] [] .ro rfl rfl Tryz.call175 rfl rfl (solve_Solve_c (G := G31) List.mem_cons_self s37 s40 hu49) rfl (fun v52 bo so h51 => ?_)
   obtain ⟨a54, k55, cs56, rfl, rfl, rfl, o57⟩ := h51
   refine .same (bl' := [_, _, _]) (sl' := [_, _]) rfl rfl rfl ?_;refine .mv rfl rfl ?_;refine .q .ro (.extract rfl rfl) rfl ?_;refine .q .ro (.extract rfl rfl) rfl ?_;refine .av rfl rfl ?_;refine .av rfl rfl ?_;refine .re ?_;refine .prune [(1, _), (2, _), (3, _), (6, _), (10, _), (13, _), (14, _)] ⟨rfl, rfl, rfl, rfl, rfl, rfl, rfl, trivial⟩ ?_;refine .seq ?_
   refine .seq ?_;refine .region rfl ?_;refine .mv rfl rfl ?_;refine .q .ro (.neq rfl rfl) rfl ?_;refine .re ?_
   refine .cond_dec rfl (fun c58 => ?_) (fun c58 => ?_)
   ·have r59 := ifT r50 c58; clear r50
    refine .seq ?_;refine .drawL (.q 0 (.q 1 (.e 2 1 (.q 3 .nil)))) [_, _] (by kernel_rfl) (by kernel_rfl) (pick_mem [0, 2] rfl) ?_;refine .dq (.build [_, _] [] ty215 pl215 rfl rfl) rfl ?_;refine .dq (.load_rp (Rp.mono e32 hg0) List.mem_cons_self rfl ty233 rfl) rfl ?_;refine .store 1 [_, _] [_, _, _] .d1 rfl rfl rfl ty215 rfl rfl rfl rfl ?_;refine .clsL (HpLe.refl _) (pick_mem [0, 2] rfl) ?_;refine .dq (.assign rfl) rfl ?_;refine .draw_end ?_
    cases r59
    refine .drop 0 2 _ [] rfl rfl ?_
    refine .retWD 3 (c := ⟨152, none⟩) (.inr ⟨_, rfl⟩) [.cell 6 215, .tmp 7] [_, _] rfl Tryz.func152 Tryz.results152 ⟨RV.cell_a 1 [_, _] rfl rfl ty215 rfl, RV.tmp rfl, trivial⟩ mcm List.mem_cons_self B33 (by subst hS0; simp [blks]) (fun G' hg => ⟨none, 0, none, 0, rfl, rfl, rfl, (SlR.mono hg (SlR.nil (Rp' := (Rep.int .i64)))), (SlR.mono hg (SlR.nil (Rp' := (Rep.int .i64))))⟩)
   ·have r60 := ifF r50 c58; clear r50
    refine .skip ?_;refine .seq ?_;refine .cutG (β := Hp × List Int × Option Addr × Nat × List Int × Option Addr × Nat × List Value) (fun y => [(15, .slice y.2.2.1 y.2.1.length y.2.2.2.1), (16, .slice y.2.2.2.2.2.1 y.2.2.2.2.1.length y.2.2.2.2.2.2.1)]) [(1, _), (2, _), (3, _), (6, _), (10, _)] (fun y => y.1 :: Fs) (fun y => []) [_, _, _] (fun y => [.s (.slice y.2.2.2.2.2.1 y.2.2.2.2.1.length y.2.2.2.2.2.2.1) 3 1 y.2.2.2.2.1.length y.2.2.2.2.2.2.2]) [_] (fun y => HpLe G31 y.1 ∧ Bd w0 S0 Fs y.1 ∧ SlR (Rep.int .i64) y.1 y.2.2.1 y.2.2.2.1 y.2.1 ∧ OL (Rep.int .i64) y.1 y.2.2.2.2.2.2.2 y.2.2.2.2.1 ∧ (unique_decode_J1 x1 x2 u23.1 x0_0) y.2.1 y.2.2.2.2.1 = some r) ⟨rfl, rfl, rfl, rfl, rfl, trivial⟩ [0, 1, 2] rfl [1] rfl ?_ ?_
    ·intro y hI
     obtain ⟨G34, v53, a61, k62, v63, a65, k66, cs67⟩ := y
     obtain ⟨e68, B69, s70, o71, r72⟩ := hI
     try dsimp only at e68 B69 s70 o71 r72
     refine .prune [(15, .slice a61 v53.length k62), (16, .slice a65 v63.length k66), (1, _), (2, _), (3, _), (6, _), (10, _)] ⟨rfl, rfl, rfl, rfl, rfl, rfl, rfl, trivial⟩ ?_;refine .same (bl' := [_, _, _]) (sl' := [.s (.slice a65 v63.length k66) 3 1 v63.length cs67, _]) (Fs' := G34 :: Fs) rfl rfl rfl ?_
     unfold unique_decode_J1 at r72
     try dsimp only at r72
     refine .seq ?_;refine .region rfl ?_;refine .q .ro (.load_own_a 2 [_] rfl rfl ty45 rfl) rfl ?_;refine .mv rfl rfl ?_;refine .mv rfl rfl ?_
     refine .freezeR 0 rfl rfl o71 [_] rfl B69 (fun G73 e74 B75 s76 => ?_)
     obtain ⟨u77, hu77, r78⟩ := bind_some r72; clear r72
     refine .callS (b1 := []) (b2 := [_, _, _]) (s1 := []) [_, _, _] [] .ro rfl rfl Tryz.call176 rfl rfl (poly_Divide_c (G := G73) List.mem_cons_self (SlR.mono e74 s70) s76 hu77) rfl (fun v79 bo so h80 => ?_)
     obtain ⟨a81, k82, cs83, a84, k85, cs86, rfl, rfl, rfl, o87, o88⟩ := h80
     refine .same (bl' := [_, _, _]) (sl' := [_, _, _]) rfl rfl rfl ?_;refine .mv rfl rfl ?_;refine .q .ro (.extract rfl rfl) rfl ?_;refine .q .ro (.extract rfl rfl) rfl ?_;refine .q .ro (.extract rfl rfl) rfl ?_;refine .av rfl rfl ?_;refine .av rfl rfl ?_;refine .av rfl rfl ?_;refine .re ?_
     refine .seq ?_;refine .seq ?_;refine .region rfl ?_;refine .mv rfl rfl ?_;refine .q .ro (.neq rfl rfl) rfl ?_;refine .mv rfl rfl ?_;refine .cutR 4 (β := Unit) (fun y => [(88, .bool (decide ((u77.2.2 ≠ 0) ∨ (0 < (u77.2.1.length : Int)))))]) [(1, _), (2, _), (3, _), (6, _), (10, _), (17, _)] (fun y => G73 :: Fs) (fun y => []) [_, _, _] (fun y => []) [_, _, _] (fun y => True) ⟨rfl, rfl, rfl, rfl, rfl, rfl, trivial⟩ [0, 1, 2] rfl [0, 1, 2] rfl ?_ ?_
     ·rintro _ _
      refine .prune [(88, .bool (decide ((u77.2.2 ≠ 0) ∨ (0 < (u77.2.1.length : Int))))), (1, _), (2, _), (3, _), (6, _), (10, _), (17, _)] ⟨rfl, rfl, rfl, rfl, rfl, rfl, rfl, trivial⟩ ?_;refine .same (bl' := [_, _, _]) (sl' := [_, _, _]) (Fs' := G73 :: Fs) rfl rfl rfl ?_;refine .mv rfl rfl ?_;refine .cutR 5 (β := Unit) (fun y => [(94, .bool (decide (((u77.2.2 ≠ 0) ∨ (0 < (u77.2.1.length : Int))) ∨ (x2 < (u77.1.length : Int)))))]) [(1, _), (3, _), (6, _), (10, _), (17, _)] (fun y => G73 :: Fs) (fun y => []) [_, _, _] (fun y => []) [_, _, _] (fun y => True) ⟨rfl, rfl, rfl, rfl, rfl, trivial⟩ [0, 1, 2] rfl [0, 1, 2] rfl ?_ ?_
      ·rintro _ _
       refine .prune [(94, .bool (decide (((u77.2.2 ≠ 0) ∨ (0 < (u77.2.1.length : Int))) ∨ (x2 < (u77.1.length : Int))))), (1, _), (3, _), (6, _), (10, _), (17, _)] ⟨rfl, rfl, rfl, rfl, rfl, rfl, trivial⟩ ?_;refine .same (bl' := [_, _, _]) (sl' := [_, _, _]) (Fs' := G73 :: Fs) rfl rfl rfl ?_;refine .re ?_
       refine .cond_dec rfl (fun c89 => ?_) (fun c89 => ?_)
       ·have r90 := ifT r78 c89; clear r78
        refine .seq ?_;refine .drawL (.q 0 (.q 1 (.e 2 1 (.q 3 .nil)))) [_, _] (by kernel_rfl) (by kernel_rfl) (pick_mem [0, 2] rfl) ?_;refine .dq (.build [_, _] [] ty215 pl215 rfl rfl) rfl ?_;refine .dq (.load_rp (Rp.mono (HpLe.trans (HpLe.trans e32 e68) e74) hg0) List.mem_cons_self rfl ty233 rfl) rfl ?_;refine .store 1 [_, _] [_, _, _] .d1 rfl rfl rfl ty215 rfl rfl rfl rfl ?_;refine .clsL (HpLe.refl _) (pick_mem [0, 2] rfl) ?_;refine .dq (.assign rfl) rfl ?_;refine .draw_end ?_
        cases r90
        refine .drop 0 3 _ [] rfl rfl ?_
        refine .retWD 3 (c := ⟨152, none⟩) (.inr ⟨_, rfl⟩) [.cell 6 215, .tmp 7] [_, _] rfl Tryz.func152 Tryz.results152 ⟨RV.cell_a 1 [_, _] rfl rfl ty215 rfl, RV.tmp rfl, trivial⟩ mcm List.mem_cons_self B75 (by subst hS0; simp [blks]) (fun G' hg => ⟨none, 0, none, 0, rfl, rfl, rfl, (SlR.mono hg (SlR.nil (Rp' := (Rep.int .i64)))), (SlR.mono hg (SlR.nil (Rp' := (Rep.int .i64))))⟩)
       ·have r91 := ifF r78 c89; clear r78
        refine .skip ?_;refine .seq ?_;refine .region rfl ?_;refine .mv rfl rfl ?_;refine .q .ro (.fieldAddr 0 rfl fl45_0 ty3.sz rfl) rfl ?_;refine .q .ro (.load_own 2 rfl rfl ty3 rfl) rfl ?_;refine .mv rfl rfl ?_;refine .mv rfl rfl ?_
        refine .freezeR 0 rfl rfl o87 [_, _] rfl B75 (fun G92 e93 B94 s95 => ?_)
        obtain ⟨u96, hu96, r97⟩ := bind_some r91; clear r91
        refine .callS (b1 := []) (b2 := [_, _, _]) (s1 := []) [_, _, _] [] .ro rfl rfl Tryz.call177 rfl rfl (unique_wrongs_c (G := G92) List.mem_cons_self (SlR.mono (HpLe.trans (HpLe.trans (HpLe.trans e32 e68) e74) e93) s1) s95 hu96) rfl (fun v98 bo so h99 => ?_)
        obtain ⟨a101, k102, cs103, rfl, rfl, rfl, o104⟩ := h99
        refine .same (bl' := [_, _, _]) (sl' := [_, _, _]) rfl rfl rfl ?_;refine .q .ro (.build [_, _] [(0, _), (1, _)] ty215 pl215 rfl rfl) rfl ?_
        refine .alloc .ro ty215 rfl (fun b105 hb105 => ?_)
        refine .store 0 [_, _] [_, _, _, _] .ro rfl rfl rfl ty215 rfl rfl rfl rfl ?_;refine .re ?_;refine .seq ?_;refine .seq ?_;refine .region rfl ?_;refine .q .ro (.fieldAddr 1 rfl fl215_1 ty22.sz rfl) rfl ?_;refine .q .ro (.load_own 0 rfl rfl ty22 rfl) rfl ?_;refine .q .ro (.len_sl rfl rfl sl22) rfl ?_;refine .mv rfl rfl ?_
        refine .q .ro (.gtr rfl rfl) rfl ?_;refine .re ?_;refine .prune [(6, _), (19, _), (108, _)] ⟨rfl, rfl, rfl, trivial⟩ ?_
        refine .cond_dec rfl (fun c106 => ?_) (fun c106 => ?_)
        ·have r107 := ifT r97 c106; clear r97
         refine .seq ?_;refine .drawL (.q 0 (.q 1 (.e 2 1 (.q 3 .nil)))) [_, _, _] (by kernel_rfl) (by kernel_rfl) (pick_mem [0, 1, 3] rfl) ?_;refine .dq (.build [_, _] [] ty215 pl215 rfl rfl) rfl ?_;refine .dq (.load_rp (Rp.mono (HpLe.trans (HpLe.trans (HpLe.trans e32 e68) e74) e93) hg0) List.mem_cons_self rfl ty233 rfl) rfl ?_;refine .store 2 [_, _] [_, _, _, _] .d1 rfl rfl rfl ty215 rfl rfl rfl rfl ?_;refine .clsL (HpLe.refl _) (pick_mem [0, 1, 3] rfl) ?_;refine .dq (.assign rfl) rfl ?_;refine .draw_end ?_
         cases r107
         refine .drop 0 3 _ [] rfl rfl ?_
         refine .retWD 4 (c := ⟨152, none⟩) (.inr ⟨_, rfl⟩) [.cell 6 215, .tmp 7] [_, _] rfl Tryz.func152 Tryz.results152 ⟨RV.cell_a 2 [_, _] rfl rfl ty215 rfl, RV.tmp rfl, trivial⟩ mcm List.mem_cons_self B94 (by subst hS0; simp [blks]) (fun G' hg => ⟨none, 0, none, 0, rfl, rfl, rfl, (SlR.mono hg (SlR.nil (Rp' := (Rep.int .i64)))), (SlR.mono hg (SlR.nil (Rp' := (Rep.int .i64))))⟩)
        ·have r108 := ifF r97 c106; clear r97
         refine .skip ?_;refine .seq ?_;refine .region rfl ?_;refine .q .ro (.load_own_a 0 [_, _] rfl rfl ty215 rfl) rfl ?_;refine .store 2 [_, _] [_, _, _, _] .ro rfl rfl rfl ty215 rfl rfl rfl rfl ?_;refine .av rfl rfl ?_;refine .re ?_
         refine .freezeR 0 rfl rfl o104 [_, _] rfl B94 (fun G109 e110 B111 s112 => ?_)
         cases r108
         refine .drop 0 2 _ [] rfl rfl ?_
         refine .retWD 4 (c := ⟨152, none⟩) (.inr ⟨_, rfl⟩) [.cell 6 215, .tmp 7] [_, _] rfl Tryz.func152 Tryz.results152 ⟨RV.cell_a 2 [_, _] rfl rfl ty215 rfl, RV.tmp rfl, trivial⟩ mcm List.mem_cons_self B111 (by subst hS0; simp [blks]) (fun G' hg => ⟨a81, k82, a101, k102, rfl, rfl, rfl, (SlR.mono hg (SlR.mono e110 s95)), (SlR.mono hg s112)⟩)
      ·intro hb113
       refine .split 89 rfl (fun c114 => ?_) (fun c114 => ?_)
       ·refine .g_off rfl rfl rfl ?_
        refine .g_off rfl rfl rfl ?_;refine .g_off rfl rfl rfl ?_;refine .g_off rfl rfl rfl ?_;refine .q .ro (.pick_t rfl rfl) rfl ?_
        refine .prune _ ?_ (Cov.same rfl rfl rfl (hb113 () trivial))
        exact ⟨dor_t c114, rfl, rfl, rfl, rfl, rfl, trivial⟩
       ·refine .g_on rfl ?_
        refine .mv rfl rfl ?_;refine .g_on rfl ?_;refine .q .ro (.len_sl rfl rfl sl22) rfl ?_;refine .g_on rfl ?_;refine .mv rfl rfl ?_;refine .g_on rfl ?_;refine .q .ro (.gtr rfl rfl) rfl ?_;refine .q .ro (.pick_f rfl rfl) rfl ?_
        refine .prune _ ?_ (Cov.same rfl rfl rfl (hb113 () trivial))
        exact ⟨dor_f c114, rfl, rfl, rfl, rfl, rfl, trivial⟩
     ·intro hb115
      refine .split 84 rfl (fun c116 => ?_) (fun c116 => ?_)
      ·refine .g_off rfl rfl rfl ?_
       refine .g_off rfl rfl rfl ?_;refine .g_off rfl rfl rfl ?_;refine .q .ro (.pick_t rfl rfl) rfl ?_
       refine .prune _ ?_ (Cov.same rfl rfl rfl (hb115 () trivial))
       exact ⟨dor_t c116, rfl, rfl, rfl, rfl, rfl, rfl, trivial⟩
      ·refine .g_on rfl ?_
       refine .mv rfl rfl ?_;refine .g_on rfl ?_;refine .q .ro (.len_sl rfl rfl sl22) rfl ?_;refine .g_on rfl ?_;refine .q .ro (.gtr rfl rfl) rfl ?_;refine .q .ro (.pick_f rfl rfl) rfl ?_
       refine .prune _ ?_ (Cov.same rfl rfl rfl (hb115 () trivial))
       exact ⟨dor_f c116, rfl, rfl, rfl, rfl, rfl, rfl, trivial⟩
    ·intro hb117
     refine .freezeR 0 rfl rfl o57 [_] rfl B33 (fun G118 e119 B120 s121 => ?_)
     refine .drawL (.q 0 (.q 1 (.q 2 (.q 3 (.q 4 (.q 5 (.q 6 (.q 7 (.q 8 (.q 9 (.alt (.e 10 1 (.e 11 1 (.e 12 1 (.q 13 (.q 14 .nil))))) (.e 11 1 (.e 10 1 (.e 12 1 (.q 13 (.q 14 .nil)))))))))))))))) [_, _, _] (by kernel_rfl) (by kernel_rfl) (pick_mem [0, 1, 2] rfl) ?_
     obtain ⟨u122, hu122, r123⟩ := bind_some r60; clear r60
     obtain ⟨u124, hu124, r125⟩ := bind_some r123; clear r123
     obtain ⟨u126, hu126, r127⟩ := bind_some r125; clear r125
     obtain ⟨u128, hu128, r129⟩ := bind_some r127; clear r127
     refine .dq (.move rfl) rfl ?_;refine .dq (.move rfl) rfl ?_;refine .dq (.move rfl) rfl ?_;refine .dq (.addw rfl rfl) rfl ?_
     obtain ⟨a130, k131, h132, s133⟩ := SlR.sub s121 hu122
     refine .dq (.sliceR s121 rfl hu122 sl22 ty3.sz (fun _ => .no) (fun h => .yes' rfl h) h132) rfl ?_;refine .dq (.move rfl) rfl ?_;refine .dq (.move rfl) rfl ?_;refine .dq (.move rfl) rfl ?_;refine .dq (.addw rfl rfl) rfl ?_
     obtain ⟨a134, k135, h136, s137⟩ := SlR.sub s121 hu124
     refine .dq (.sliceR s121 rfl hu124 sl22 ty3.sz (fun h => .yes' rfl h) (fun _ => .no) h136) rfl ?_;refine .alt ?_ ?_
     ·refine .callS (b1 := []) (b2 := [_, _, _]) (s1 := []) [_] [] .d1 rfl rfl Tryz.call100 rfl rfl (slices_Clone_Lintint_c (G := G118) List.mem_cons_self s137 hu126) rfl (fun v138 bo so h139 => ?_)
      obtain ⟨a140, k141, cs142, rfl, rfl, rfl, o143⟩ := h139
      refine .same (bl' := [_, _, _]) (sl' := [_, _]) rfl rfl rfl ?_;refine .clsL (HpLe.refl _) (pick_mem [0, 1, 2] rfl) ?_
      refine .lit [_] [(0, _)] .d1 sl22 ty3 rfl rfl rfl rfl rfl rfl (fun b144 hb144 => ?_)
      have o145 : OL (Rep.int .i64) G118 [.int .i64 1] ([1] : List Int) := ((OL.cons rfl (Rep.intI .i64 1) (OL.nil (Rp' := (Rep.int .i64)))) :)
      refine .reval 72 (n' := ([1] : List Int).length) rfl rfl ?_;refine .clsL (HpLe.refl _) (pick_mem [0, 1, 2] rfl) ?_
      refine .appO (Q := (Rep.int .i64)) 0 .d1 sl22 ty3 rfl rfl rfl rfl rfl rfl o143 o145 rfl rfl rfl B120 hu128 rfl (fun a146 k147 cs148 o149 => ?_)
      refine .clsL (HpLe.refl _) (pick_mem [0, 1, 2] rfl) ?_;refine .dq (.assign rfl) rfl ?_;refine .dq (.assign rfl) rfl ?_;refine .draw_end ?_;refine .prune [(1, _), (2, _), (3, _), (6, _), (10, _), (15, _), (16, _)] ⟨rfl, rfl, rfl, rfl, rfl, rfl, rfl, trivial⟩ ?_
      refine .prune _ ?_ (Cov.same rfl rfl rfl (hb117 (G118, u122, a130, k131, u128, a146, k147, cs148) ⟨e119, B120, s133, o149, r129⟩))
      exact ⟨rfl, rfl, rfl, rfl, rfl, rfl, rfl, trivial⟩
     ·refine .lit [_] [(0, _)] .d1 sl22 ty3 rfl rfl rfl rfl rfl rfl (fun b150 hb150 => ?_)
      have o151 : OL (Rep.int .i64) G118 [.int .i64 1] ([1] : List Int) := ((OL.cons rfl (Rep.intI .i64 1) (OL.nil (Rp' := (Rep.int .i64)))) :)
      refine .reval 72 (n' := ([1] : List Int).length) rfl rfl ?_;refine .clsL (HpLe.refl _) (pick_mem [0, 1, 2] rfl) ?_
      refine .callS (b1 := []) (b2 := [_, _, _]) (s1 := []) [_] [] .d1 rfl rfl Tryz.call100 rfl rfl (slices_Clone_Lintint_c (G := G118) List.mem_cons_self s137 hu126) rfl (fun v153 bo so h154 => ?_)
      obtain ⟨a155, k156, cs157, rfl, rfl, rfl, o158⟩ := h154
      refine .same (bl' := [_, _, _]) (sl' := [_, _, _]) rfl rfl rfl ?_;refine .clsL (HpLe.refl _) (pick_mem [0, 1, 2] rfl) ?_;refine .pullS 1 rfl [_, _, _] rfl ?_
      refine .appO (Q := (Rep.int .i64)) 0 .d1 sl22 ty3 rfl rfl rfl rfl rfl rfl o158 o151 rfl rfl rfl B120 hu128 rfl (fun a159 k160 cs161 o162 => ?_)
      refine .clsL (HpLe.refl _) (pick_mem [0, 1, 2] rfl) ?_;refine .dq (.assign rfl) rfl ?_;refine .dq (.assign rfl) rfl ?_;refine .draw_end ?_;refine .prune [(1, _), (2, _), (3, _), (6, _), (10, _), (15, _), (16, _)] ⟨rfl, rfl, rfl, rfl, rfl, rfl, rfl, trivial⟩ ?_
      refine .prune _ ?_ (Cov.same rfl rfl rfl (hb117 (G118, u122, a130, k131, u128, a159, k160, cs161) ⟨e119, B120, s133, o162, r129⟩))
      exact ⟨rfl, rfl, rfl, rfl, rfl, rfl, rfl, trivial⟩
theorem unique_Decode_c {Fs : List Hp} {G : Hp} {x0_0 : Int} {a1 : Option Addr} {k1 : Nat} {x1 : List (Int × Bool)} {x2 : Int} {r : (((List Int) × (List Int)) × Int)} (hG : G ∈ Fs) (hg0 : Rp G (.pointer (some ⟨0, 0, none⟩)) [ifc233 (some 12)]) (s1 : SlR (Rep.pair (Rep.int .i64) Rep.bool) G a1 k1 x1) (h : unique_Decode x0_0 x1 x2 = some r) : RetW Tryz.prog 131 #[.agg #[.int .i64 x0_0], .slice a1 x1.length k1, .int .i64 x2] Fs [] [] (fun v bo so G => ∃ a0 : Option Addr, ∃ k0 : Nat, ∃ a1 : Option Addr, ∃ k1 : Nat, v = .tuple #[.agg #[.slice a0 r.1.1.length k0, .slice a1 r.1.2.length k1], .int .i64 r.2] ∧ bo = [] ∧ so = [] ∧ SlR (Rep.int .i64) G a0 k0 r.1.1 ∧ SlR (Rep.int .i64) G a1 k1 r.1.2) := by
 unfold unique_Decode at h
 try dsimp only at h
 refine RetW.of (vs := [_, _, _]) Tryz.func131 rfl Tryz.ntmps131 [(0, _), (1, _), (2, _)] ⟨rfl, rfl, rfl, trivial⟩ rfl hG fun w0 S0 hS0 B0 => ?_
 refine .seq ?_;refine .region rfl ?_
 refine .box [_] .ro rfl rfl rfl (fun b1 hb1 => ?_)
 refine .alloc .ro ty215 rfl (fun b2 hb2 => ?_)
 refine .av rfl rfl ?_;refine .re ?_;refine .seq ?_;refine .region rfl ?_;refine .q .ro (.load_own_a 1 [_] rfl rfl ty45 rfl) rfl ?_;refine .mv rfl rfl ?_;refine .mv rfl rfl ?_
 obtain ⟨u3, hu3, r4⟩ := bind_some h; clear h
 refine .callW (b1 := []) (b2 := [_, _]) (s1 := []) [_, _, _] [] .ro rfl rfl Tryz.call152 rfl rfl (unique_decode_c (G := G) List.mem_cons_self hg0 s1 hu3) rfl B0 (fun v6 bo so G7 e8 B9 h5 => ?_)
 obtain ⟨a11, k12, a14, k15, rfl, rfl, rfl, s13, s16⟩ := h5
 refine .same (bl' := [_, _]) (sl' := []) rfl rfl rfl ?_;refine .mv rfl rfl ?_;refine .q .ro (.extract rfl rfl) rfl ?_;refine .q .ro (.extract rfl rfl) rfl ?_
 refine .alloc .ro ty215 rfl (fun b17 hb17 => ?_)
 refine .store 0 [_, _] [_, _, _] .ro rfl rfl rfl ty215 rfl rfl rfl rfl ?_;refine .av rfl rfl ?_;refine .re ?_;refine .seq ?_;refine .seq ?_;refine .region rfl ?_;refine .mv rfl rfl ?_;refine .q .ro (.load_rp (Rp.mono e8 hg0) List.mem_cons_self rfl ty233 rfl) rfl ?_
 obtain ⟨u18, hu18, r19⟩ := bind_some r4; clear r4
 refine .callS (b1 := []) (b2 := [_, _, _]) (s1 := []) [_, _] [] .ro rfl rfl Tryz.call153 rfl rfl (errors_Is_c (G := G7) List.mem_cons_self  hu18) rfl (fun v21 bo so h20 => ?_)
 obtain ⟨rfl, rfl, rfl⟩ := h20
 refine .same (bl' := [_, _, _]) (sl' := []) rfl rfl rfl ?_;refine .re ?_;refine .prune [(6, _), (8, _), (9, _), (19, _)] ⟨rfl, rfl, rfl, rfl, trivial⟩ ?_
 refine .cond rfl (fun c22 => ?_) (fun c22 => ?_)
 ·have r23 := ifT r19 c22; clear r19
  refine .seq ?_;refine .region rfl ?_;refine .q .ro (.build [_, _] [] ty215 pl215 rfl rfl) rfl ?_;refine .store 1 [_, _] [_, _, _] .ro rfl rfl rfl ty215 rfl rfl rfl rfl ?_;refine .av rfl rfl ?_;refine .re ?_
  cases r23
  refine .retWD 3 (c := ⟨131, none⟩) (.inr ⟨_, rfl⟩) [.cell 6 215, .tmp 7] [_, _] rfl Tryz.func131 Tryz.results131 ⟨RV.cell_a 1 [_, _] rfl rfl ty215 rfl, RV.tmp rfl, trivial⟩ mcm List.mem_cons_self B9 (by subst hS0; simp [blks]) (fun G' hg => ⟨none, 0, none, 0, rfl, rfl, rfl, (SlR.mono hg (SlR.nil (Rp' := (Rep.int .i64)))), (SlR.mono hg (SlR.nil (Rp' := (Rep.int .i64))))⟩)
 ·have r24 := ifBF r19 c22; clear r19
  refine .skip ?_;refine .seq ?_;refine .drawL (.q 0 (.q 1 (.e 2 1 (.e 3 1 (.q 4 .nil))))) [_, _] (by kernel_rfl) (by kernel_rfl) (pick_mem [0, 2] rfl) ?_;refine .dq (.load_own_a 0 [_, _] rfl rfl ty215 rfl) rfl ?_;refine .dq (.move rfl) rfl ?_
  obtain ⟨u25, hu25, r26⟩ := bind_some r24; clear r24
  refine .callS (b1 := []) (b2 := [_, _, _]) (s1 := []) [_] [] .d1 rfl rfl Tryz.call154 rfl rfl (unique_number_c (G := G7) List.mem_cons_self  hu25) rfl (fun v28 bo so h27 => ?_)
  obtain ⟨rfl, rfl, rfl⟩ := h27
  refine .same (bl' := [_, _, _]) (sl' := []) rfl rfl rfl ?_;refine .clsL (HpLe.refl _) (pick_mem [0, 2] rfl) ?_;refine .store 1 [_, _] [_, _, _] .d1 rfl rfl rfl ty215 rfl rfl rfl rfl ?_;refine .clsL (HpLe.refl _) (pick_mem [0, 2] rfl) ?_;refine .dq (.assign rfl) rfl ?_;refine .draw_end ?_
  cases r26
  refine .retWD 3 (c := ⟨131, none⟩) (.inr ⟨_, rfl⟩) [.cell 6 215, .tmp 7] [_, _] rfl Tryz.func131 Tryz.results131 ⟨RV.cell_a 1 [_, _] rfl rfl ty215 rfl, RV.tmp rfl, trivial⟩ mcm List.mem_cons_self B9 (by subst hS0; simp [blks]) (fun G' hg => ⟨a11, k12, a14, k15, rfl, rfl, rfl, (SlR.mono hg s13), (SlR.mono hg s16)⟩)
theorem columns_Columns_Decode_c {Fs : List Hp} {G : Hp} {x0_0 : Int} {x0_1 : Int} {a0_2 : Option Addr} {k0_2 : Nat} {x0_2 : List (Bool × (List Int))} {x1 : Int} {r : (((List Int) × (List Int)) × Int)} (hG : G ∈ Fs) (hg0 : Rp G (.pointer (some ⟨0, 0, none⟩)) [ifc233 (some 12)]) (s0_2 : SlR (Rep.pair Rep.bool (Rep.sl (Rep.int .i64))) G a0_2 k0_2 x0_2) (h : columns_Columns_Decode (x0_0, x0_1, x0_2) x1 = some r) : RetW Tryz.prog 86 #[.agg #[.int .i64 x0_0, .int .i64 x0_1, .slice a0_2 x0_2.length k0_2], .int .i64 x1] Fs [] [] (fun v bo so G => ∃ a0 : Option Addr, ∃ k0 : Nat, ∃ a1 : Option Addr, ∃ k1 : Nat, v = .tuple #[.agg #[.slice a0 r.1.1.length k0, .slice a1 r.1.2.length k1], .int .i64 r.2] ∧ bo = [] ∧ so = [] ∧ SlR (Rep.int .i64) G a0 k0 r.1.1 ∧ SlR (Rep.int .i64) G a1 k1 r.1.2) := by
 unfold columns_Columns_Decode at h
 try dsimp only at h
 refine RetW.of (vs := [_, _]) Tryz.func86 rfl Tryz.ntmps86 [(0, _), (1, _)] ⟨rfl, rfl, trivial⟩ rfl hG fun w0 S0 hS0 B0 => ?_
 refine .seq ?_;refine .region rfl ?_
 refine .box [_, _, _] .ro rfl rfl rfl (fun b1 hb1 => ?_)
 refine .alloc .ro ty215 rfl (fun b2 hb2 => ?_)
 refine .av rfl rfl ?_;refine .re ?_;refine .seq ?_;refine .region rfl ?_;refine .av rfl rfl ?_;refine .re ?_;refine .seq ?_;refine .seq ?_;refine .region rfl ?_
 refine .q .ro (.fieldAddr 2 rfl fl162_2 ty60.sz rfl) rfl ?_;refine .q .ro (.load_own 1 rfl rfl ty60 rfl) rfl ?_;refine .q .ro (.len_sl rfl rfl sl60) rfl ?_;refine .mv rfl rfl ?_;refine .re ?_;refine .cutB (β := (List (Int × Bool)) × Option Addr × Nat × List Value × Int × Int) (fun y => [(6, .slice y.2.1 y.1.length y.2.2.1)]) [(2, _), (4, _)] (fun y => G :: Fs) (fun y => [(b1, .cells #[.int .i64 y.2.2.2.2.1, .int .i64 y.2.2.2.2.2, .slice a0_2 x0_2.length k0_2] 162 (0, 0))]) [_] (fun y => [.s (.slice y.2.1 y.1.length y.2.2.1) 220 2 y.1.length y.2.2.2.1]) [] (fun y => OL (Rep.pair (Rep.int .i64) Rep.bool) G y.2.2.2.1 y.1 ∧ columns_Columns_Decode_J1 y.1 y.2.2.2.2.1 y.2.2.2.2.2 = some r) ⟨rfl, rfl, trivial⟩ [0] rfl [] rfl ?_ ?_
 ·intro y hI
  obtain ⟨v10, a11, k12, cs13, v14, v15⟩ := y
  obtain ⟨o16, r17⟩ := hI
  try dsimp only at o16 r17
  refine .prune [(6, .slice a11 v10.length k12), (2, _), (4, _)] ⟨rfl, rfl, rfl, trivial⟩ ?_;refine .same (bl' := [(b1, .cells #[.int .i64 v14, .int .i64 v15, .slice a0_2 x0_2.length k0_2] 162 (0, 0)), _]) (sl' := [.s (.slice a11 v10.length k12) 220 2 v10.length cs13]) (Fs' := G :: Fs) rfl rfl rfl ?_
  unfold columns_Columns_Decode_J1 at r17
  try dsimp only at r17
  refine .seq ?_;refine .region rfl ?_;refine .q .ro (.fieldAddr 0 rfl fl162_0 ty45.sz rfl) rfl ?_;refine .q .ro (.load_own_a 0 [_] rfl rfl ty45 rfl) rfl ?_;refine .mv rfl rfl ?_;refine .q .ro (.fieldAddr 1 rfl fl162_1 ty3.sz rfl) rfl ?_;refine .q .ro (.load_own 0 rfl rfl ty3 rfl) rfl ?_
  refine .freezeR 0 rfl rfl o16 [] rfl B0 (fun G18 e19 B20 s21 => ?_)
  obtain ⟨u23, hu23, r24⟩ := bind_some r17; clear r17
  refine .callW (b1 := []) (b2 := [_, _]) (s1 := []) [_, _, _] [] .ro rfl rfl Tryz.call131 rfl rfl (unique_Decode_c (G := G18) List.mem_cons_self (Rp.mono e19 hg0) s21 hu23) rfl B20 (fun v25 bo so G26 e27 B28 h29 => ?_)
  obtain ⟨a30, k31, a32, k33, rfl, rfl, rfl, s34, s35⟩ := h29
  refine .same (bl' := [_, _]) (sl' := []) rfl rfl rfl ?_;refine .q .ro (.extract rfl rfl) rfl ?_;refine .q .ro (.extract rfl rfl) rfl ?_;refine .store 1 [_, _] [_, _] .ro rfl rfl rfl ty215 rfl rfl rfl rfl ?_;refine .av rfl rfl ?_;refine .re ?_
  cases r24
  refine .retWD 2 (c := ⟨86, none⟩) (.inr ⟨_, rfl⟩) [.cell 4 215, .tmp 5] [_, _] rfl Tryz.func86 Tryz.results86 ⟨RV.cell_a 1 [_, _] rfl rfl ty215 rfl, RV.tmp rfl, trivial⟩ mcm List.mem_cons_self B28 (by subst hS0; simp [blks]) (fun G' hg => ⟨a30, k31, a32, k33, rfl, rfl, rfl, (SlR.mono hg s34), (SlR.mono hg s35)⟩)
 ·intro hb36
  refine .block ?_;refine .own_nil 220 2 ?_
  refine .loop2 (α := Nat × (List (Bool × (List Int))) × (List (Int × Bool)) × Option Addr × Nat × List Value) (fun y => [(6, .slice y.2.2.2.1 y.2.2.1.length y.2.2.2.2.1), (13, .int .i64 (y.1 : Int))]) [(1, _), (2, _), (4, _), (11, _), (12, _)] (fun y => []) (fun y => []) [_, _] (fun y => [.s (.slice y.2.2.2.1 y.2.2.1.length y.2.2.2.2.1) 220 2 y.2.2.1.length y.2.2.2.2.2]) [] (fun y => OL (Rep.pair (Rep.int .i64) Rep.bool) G y.2.2.2.2.2 y.2.2.1 ∧ List.drop y.1 x0_2 = y.2.1 ∧ columns_Columns_Decode_L3 columns_Columns_Decode_J1 x1 x0_0 x0_1 y.2.1 y.2.2.1 = some r) (fun y => y.2.1.length) (0, x0_2, ([] : List (Int × Bool)), none, 0, []) ⟨(OL.nil (Rp' := (Rep.pair (Rep.int .i64) Rep.bool))), rfl, h⟩ ⟨rfl, rfl, rfl, rfl, rfl, rfl, rfl, trivial⟩ rfl rfl rfl (fun y hI hb37 => ?_)
  obtain ⟨i38, w39, v40, a41, k42, cs43⟩ := y
  obtain ⟨o44, g46, r47⟩ := hI
  try dsimp only at o44 g46 r47
  refine .prune [(6, .slice a41 v40.length k42), (13, .int .i64 (i38 : Int)), (1, _), (2, _), (4, _), (11, _), (12, _)] ⟨rfl, rfl, rfl, rfl, rfl, rfl, rfl, trivial⟩ ?_;refine .same (bl' := [_, _]) (sl' := [.s (.slice a41 v40.length k42) 220 2 v40.length cs43]) (Fs' := G :: Fs) rfl rfl rfl ?_
  cases w39 with
  | nil =>
   rw [columns_Columns_Decode_L3] at r47; try dsimp only at r47
   refine .seq ?_;refine .region rfl ?_;refine .q .ro (.lss rfl rfl) rfl ?_;refine .re ?_;refine .seq ?_
   refine .cond_dec rfl (fun c => absurd c (drop_nil g46)) (fun _ => ?_)
   refine .exit rfl ?_;refine .pull 1 rfl [_, _] rfl ?_
   refine .prune _ ?_ (Cov.same rfl rfl rfl (hb36 (v40, a41, k42, cs43, x0_0, x0_1) ⟨o44, r47⟩))
   exact ⟨rfl, rfl, rfl, trivial⟩
  | cons x48 xs49 =>
   have r50 : columns_Columns_Decode_B3 columns_Columns_Decode_J1 x1 x0_0 x0_1 (columns_Columns_Decode_L3 columns_Columns_Decode_J1 x1 x0_0 x0_1 xs49) x48 v40 = some r := r47; clear r47; unfold columns_Columns_Decode_B3 at r50; try dsimp only at r50
   refine .seq ?_;refine .region rfl ?_;refine .q .ro (.lss rfl rfl) rfl ?_;refine .re ?_;refine .seq ?_
   refine .cond_dec rfl (fun _ => ?_) (fun c => absurd (drop_lt g46) c)
   refine .skip ?_;refine .seq ?_;refine .block ?_;refine .seq ?_;refine .region rfl ?_
   obtain ⟨c51, p52, h53⟩ := SlR.get s0_2 (drop_idx g46)
   obtain ⟨_, _, rfl, rfl, a54, k55, rfl, s56⟩ := h53
   refine .q .ro (.idxR s0_2 rfl rfl (drop_idx g46) sl60 ty63.sz) rfl ?_;refine .q .ro (.load_rp_a [_, _] p52 List.mem_cons_self rfl ty63 rfl) rfl ?_
   refine .alloc .ro ty63 rfl (fun b57 hb57 => ?_)
   refine .store 0 [_, _] [_, _, _] .ro rfl rfl rfl ty63 rfl rfl rfl rfl ?_;refine .re ?_;refine .seq ?_;refine .region rfl ?_;refine .q .ro (.fieldAddr 0 rfl fl63_0 ty4.sz rfl) rfl ?_;refine .q .ro (.load_own 0 rfl rfl ty4 rfl) rfl ?_;refine .q .ro (.build [_, _] [(1, _)] ty220 pl220 rfl rfl) rfl ?_
   refine .alloc .ro ty220 rfl (fun b58 hb58 => ?_)
   refine .store 0 [_, _] [_, _, _, _] .ro rfl rfl rfl ty220 rfl rfl rfl rfl ?_;refine .re ?_;refine .seq ?_;refine .seq ?_;refine .region rfl ?_;refine .q .ro (.fieldAddr 0 rfl fl63_0 ty4.sz rfl) rfl ?_;refine .q .ro (.load_own 1 rfl rfl ty4 rfl) rfl ?_;refine .re ?_;refine .cutI (β := Int) (fun y => []) [(6, _), (13, _), (1, _), (2, _), (4, _), (11, _), (12, _), (9, _)] (fun y => G :: Fs) (fun y => [(b58, .cells #[.int .i64 y, .bool x48.1] 220 (0, 0))]) [_, _, _] (fun y => []) [_] (fun y => (columns_Columns_Decode_J2 (columns_Columns_Decode_L3 columns_Columns_Decode_J1 x1 x0_0 x0_1 xs49) x48.1 v40) y = some r) ⟨rfl, rfl, rfl, rfl, rfl, rfl, rfl, rfl, trivial⟩ [1, 2, 3] rfl [0] rfl ?_ ?_
   ·intro v59 hI
    have r61 := hI; clear hI
    refine .prune [(6, _), (13, _), (1, _), (2, _), (4, _), (11, _), (12, _), (9, _)] ⟨rfl, rfl, rfl, rfl, rfl, rfl, rfl, rfl, trivial⟩ ?_;refine .same (bl' := [(b58, .cells #[.int .i64 v59, .bool x48.1] 220 (0, 0)), _, _, _]) (sl' := [_]) (Fs' := G :: Fs) rfl rfl rfl ?_
    unfold columns_Columns_Decode_J2 at r61
    try dsimp only at r61
    refine .region rfl ?_;refine .mv rfl rfl ?_;refine .q .ro (.load_own_a 0 [_, _] rfl rfl ty220 rfl) rfl ?_
    refine .lit [_, _] [(0, _)] .ro sl218 ty220 rfl rfl rfl rfl rfl rfl (fun b62 hb62 => ?_)
    have o65 : OL (Rep.pair (Rep.int .i64) Rep.bool) G [.int .i64 v59, .bool x48.1] ([(v59, x48.1)] : List (Int × Bool)) := ((OL.cons rfl (Rep.pairI (Rep.intI .i64 v59) (Rep.boolI x48.1)) (OL.nil (Rp' := (Rep.pair (Rep.int .i64) Rep.bool)))) :)
    refine .reval 30 (n' := ([(v59, x48.1)] : List (Int × Bool)).length) rfl rfl ?_
    obtain ⟨u66, hu66, r67⟩ := bind_some r61; clear r61
    refine .appO (Q := (Rep.pair (Rep.int .i64) Rep.bool)) 0 .ro sl218 ty220 rfl rfl rfl rfl rfl rfl o44 o65 rfl rfl rfl B0 hu66 rfl (fun a68 k69 cs70 o71 => ?_)
    refine .av rfl rfl ?_;refine .re ?_;refine .inBlock ?_;refine .region rfl ?_;refine .q .ro (.addw rfl rfl) rfl ?_;refine .mv rfl rfl ?_;refine .re ?_;refine .drop 2 0 [_, _] _ rfl rfl ?_
    refine .prune _ ?_ (Cov.same rfl rfl rfl (hb37 ((i38 + 1), xs49, u66, a68, k69, cs70) ⟨o71, (drop_succ g46), r67⟩ (Nat.lt_succ_self _)))
    exact ⟨rfl, (congrArg (fun z => some (Value.int .i64 z)) (idx_wrap (SlR.len s0_2) g46)), rfl, rfl, rfl, rfl, rfl, trivial⟩
   ·intro hb72
    refine .cond rfl (fun c73 => ?_) (fun c73 => ?_)
    ·have r74 := ifT r50 c73; clear r50
     refine .region rfl ?_;refine .q .ro (.fieldAddr 1 rfl fl63_1 ty22.sz rfl) rfl ?_;refine .q .ro (.load_own 1 rfl rfl ty22 rfl) rfl ?_;refine .mv rfl rfl ?_
     obtain ⟨u75, hu75, r76⟩ := bind_some r74; clear r74
     obtain ⟨c77, p78, h79⟩ := SlR.get s56 hu75
     obtain rfl := h79
     refine .q .ro (.idxR s56 rfl rfl hu75 sl22 ty3.sz) rfl ?_;refine .q .ro (.load_rp p78 List.mem_cons_self rfl ty3 rfl) rfl ?_;refine .q .ro (.fieldAddr 0 rfl fl220_0 ty3.sz rfl) rfl ?_;refine .store 0 [_, _] [_, _, _, _] .ro rfl rfl rfl ty3 rfl rfl rfl rfl ?_;refine .re ?_;refine .prune [(6, _), (13, _), (1, _), (2, _), (4, _), (11, _), (12, _), (9, _)] ⟨rfl, rfl, rfl, rfl, rfl, rfl, rfl, rfl, trivial⟩ ?_
     refine .prune _ ?_ (Cov.same rfl rfl rfl (hb72 (u75) r76))
     exact ⟨rfl, rfl, rfl, rfl, rfl, rfl, rfl, rfl, trivial⟩
    ·have r80 := ifBF r50 c73; clear r50
     refine .skip ?_
     refine .prune _ ?_ (Cov.same rfl rfl rfl (hb72 (0) r80))
     exact ⟨rfl, rfl, rfl, rfl, rfl, rfl, rfl, rfl, trivial⟩
theorem cmp_isNaN_int_c {Fs : List Hp} {G : Hp} {x0 : Int} {r : Bool} (hG : G ∈ Fs)  (h : cmp_isNaN_int x0 = some r) : RetS Tryz.prog 186 #[.int .i64 x0] Fs [] [] (fun v bo so => v = .bool r ∧ bo = [] ∧ so = []) := by
 unfold cmp_isNaN_int at h
 try dsimp only at h
 refine RetS.of (vs := [_]) Tryz.func186 rfl Tryz.ntmps186 [(0, _)] ⟨rfl, trivial⟩ rfl hG fun w0 S0 hS0 B0 => ?_
 refine .seq ?_;refine .region rfl ?_;refine .av rfl rfl ?_;refine .re ?_;refine .seq ?_;refine .region rfl ?_;refine .mv rfl rfl ?_;refine .mv rfl rfl ?_;refine .q .ro (.neq rfl rfl) rfl ?_
 refine .av rfl rfl ?_;refine .re ?_
 cases h
 refine .retS (c := ⟨186, none⟩) (.inr ⟨_, rfl⟩) [.tmp 2] [_] rfl Tryz.func186 Tryz.results186 ⟨RV.tmp rfl, trivial⟩ mcm ⟨rfl, rfl, rfl⟩
theorem cmp_Less_int_c {Fs : List Hp} {G : Hp} {x0 : Int} {x1 : Int} {r : Bool} (hG : G ∈ Fs)  (h : cmp_Less_int x0 x1 = some r) : RetS Tryz.prog 165 #[.int .i64 x0, .int .i64 x1] Fs [] [] (fun v bo so => v = .bool r ∧ bo = [] ∧ so = []) := by
 unfold cmp_Less_int at h
 try dsimp only at h
 refine RetS.of (vs := [_, _]) Tryz.func165 rfl Tryz.ntmps165 [(0, _), (1, _)] ⟨rfl, rfl, trivial⟩ rfl hG fun w0 S0 hS0 B0 => ?_
 refine .seq ?_;refine .region rfl ?_;refine .av rfl rfl ?_;refine .re ?_;refine .seq ?_;refine .region rfl ?_;refine .mv rfl rfl ?_
 obtain ⟨u1, hu1, r2⟩ := bind_some h; clear h
 refine .callS (b1 := []) (b2 := []) (s1 := []) [_] [] .ro rfl rfl Tryz.call186 rfl rfl (cmp_isNaN_int_c (G := G) List.mem_cons_self  hu1) rfl (fun v4 bo so h3 => ?_)
 obtain ⟨rfl, rfl, rfl⟩ := h3
 refine .same (bl' := []) (sl' := []) rfl rfl rfl ?_;refine .mv rfl rfl ?_
 obtain ⟨u11, h12, r13⟩ := bind_some r2; clear r2
 refine .cutR 4 (β := Unit) (fun y => [(11, .bool u11)]) [(0, _), (1, _), (4, _)] (fun y => G :: Fs) (fun y => []) [] (fun y => []) [] (fun y => True) ⟨rfl, rfl, rfl, trivial⟩ [] rfl [] rfl ?_ ?_
 ·rintro _ _
  refine .prune [(11, .bool u11), (0, _), (1, _), (4, _)] ⟨rfl, rfl, rfl, rfl, trivial⟩ ?_;refine .same (bl' := []) (sl' := []) (Fs' := G :: Fs) rfl rfl rfl ?_;refine .mv rfl rfl ?_;refine .cutR 4 (β := Unit) (fun y => [(16, .bool (decide ((u11 = true) ∨ (x0 < x1))))]) [(4, _)] (fun y => G :: Fs) (fun y => []) [] (fun y => []) [] (fun y => True) ⟨rfl, trivial⟩ [] rfl [] rfl ?_ ?_
  ·rintro _ _
   refine .prune [(16, .bool (decide ((u11 = true) ∨ (x0 < x1)))), (4, _)] ⟨rfl, rfl, trivial⟩ ?_;refine .same (bl' := []) (sl' := []) (Fs' := G :: Fs) rfl rfl rfl ?_;refine .av rfl rfl ?_;refine .re ?_
   cases r13
   refine .retS (c := ⟨165, none⟩) (.inr ⟨_, rfl⟩) [.tmp 4] [_] rfl Tryz.func165 Tryz.results165 ⟨RV.tmp rfl, trivial⟩ mcm ⟨rfl, rfl, rfl⟩
  ·intro hb17
   refine .split_b 12 rfl (fun c16 => ?_) (fun c16 => ?_)
   ·refine .g_off rfl rfl rfl ?_
    refine .g_off rfl rfl rfl ?_;refine .g_off rfl rfl rfl ?_;refine .q .ro (.pick_t rfl rfl) rfl ?_
    refine .prune _ ?_ (Cov.same rfl rfl rfl (hb17 () trivial))
    exact ⟨dor_t c16, rfl, trivial⟩
   ·refine .g_on rfl ?_
    refine .mv rfl rfl ?_;refine .g_on rfl ?_;refine .mv rfl rfl ?_;refine .g_on rfl ?_;refine .q .ro (.lss rfl rfl) rfl ?_;refine .q .ro (.pick_f rfl rfl) rfl ?_
    refine .prune _ ?_ (Cov.same rfl rfl rfl (hb17 () trivial))
    exact ⟨dor_f (bne_of c16), rfl, trivial⟩
 ·intro hb10
  refine .split_b 7 rfl (fun c9 => ?_) (fun c9 => ?_)
  ·have r20 := ifT h12 c9
   refine .g_on rfl ?_;refine .mv rfl rfl ?_;refine .g_on rfl ?_
   obtain ⟨u21, hu21, r22⟩ := bind_some r20; clear r20
   refine .callS (b1 := []) (b2 := []) (s1 := []) [_] [] .ro rfl rfl Tryz.call186 rfl rfl (cmp_isNaN_int_c (G := G) List.mem_cons_self  hu21) rfl (fun v24 bo so h23 => ?_)
   obtain ⟨rfl, rfl, rfl⟩ := h23
   refine .same (bl' := []) (sl' := []) rfl rfl rfl ?_;refine .g_on rfl ?_;refine .q .ro (.not rfl) rfl ?_;refine .q .ro (.pick_t rfl rfl) rfl ?_
   refine .prune _ ?_ (Cov.same rfl rfl rfl (hb10 () trivial))
   exact ⟨sval r22, rfl, rfl, rfl, trivial⟩
  ·have r25 := ifBF h12 c9
   refine .g_off rfl rfl rfl ?_;refine .g_off rfl rfl rfl ?_;refine .g_off rfl rfl rfl ?_;refine .q .ro (.pick_f rfl rfl) rfl ?_
   refine .prune _ ?_ (Cov.same rfl rfl rfl (hb10 () trivial))
   exact ⟨sval r25, rfl, rfl, rfl, trivial⟩
theorem slices_insertionSortOrdered_int_c {Fs : List Hp} {G : Hp} {a0 : Option Addr} {k0 : Nat} {x0 : List Int} {cc0 : List Value} {bb0 : Option Nat} {pre0 post0 : List Value} {x1 : Int} {x2 : Int} {r : (List Int)} (hG : G ∈ Fs) (vva0 : VA a0 bb0 x0.length k0 pre0 cc0) (oo0 : OL (Rep.int .i64) G cc0 x0) (h : slices_insertionSortOrdered_int x0 x1 x2 = some r) : RetS Tryz.prog 159 #[.slice a0 x0.length k0, .int .i64 x1, .int .i64 x2] Fs [] [.g (viewG bb0 3 pre0 cc0 post0)] (fun v bo so => ∃ lc0 : List Value, v = .tuple #[] ∧ bo = [] ∧ so = [.g (viewG bb0 3 pre0 lc0 post0)] ∧ OL (Rep.int .i64) G lc0 r ∧ r.length = x0.length) := by
 unfold slices_insertionSortOrdered_int at h
 try dsimp only at h
 refine RetS.of (vs := [_, _, _]) Tryz.func159 rfl Tryz.ntmps159 [(0, _), (1, _), (2, _)] ⟨rfl, rfl, rfl, trivial⟩ rfl hG fun w0 S0 hS0 B0 => ?_
 refine .seq ?_;refine .region rfl ?_;refine .mv rfl rfl ?_;refine .q .ro (.addw rfl rfl) rfl ?_;refine .av rfl rfl ?_;refine .re ?_;refine .block ?_
 refine .loop2 (α := Nat × Int × List Int × List Value) (fun y => [(6, .int .i64 y.2.1), (0, .slice a0 y.2.2.1.length k0)]) [(1, _), (2, _)] (fun y => []) (fun y => []) [] (fun y => [.g (viewG bb0 3 pre0 y.2.2.2 post0)]) [] (fun y => OL (Rep.int .i64) G y.2.2.2 y.2.2.1 ∧ VA a0 bb0 y.2.2.1.length k0 pre0 y.2.2.2 ∧ y.2.2.1.length = x0.length ∧ slices_insertionSortOrdered_int_L3 x1 x2 y.1 y.2.1 y.2.2.1 = some r) (fun y => y.1) (big, (w64 (x1 + 1)), x0, cc0) ⟨oo0, vva0, rfl, h⟩ ⟨rfl, rfl, rfl, rfl, trivial⟩ rfl rfl rfl (fun y hI hb10 => ?_)
 obtain ⟨n11, v12, v13, cs14⟩ := y
 obtain ⟨o15, va16, hl17, r18⟩ := hI
 try dsimp only at o15 va16 hl17 r18
 refine .prune [(6, .int .i64 v12), (0, .slice a0 v13.length k0), (1, _), (2, _)] ⟨rfl, rfl, rfl, rfl, trivial⟩ ?_;refine .same (bl' := []) (sl' := [.g (viewG bb0 3 pre0 cs14 post0)]) (Fs' := G :: Fs) rfl rfl rfl ?_
 obtain ⟨m19, rfl⟩ : ∃ m, n11 = m + 1 := by cases n11 with | zero => exact absurd (show (none : Option _) = some _ from r18) (by simp) | succ m => exact ⟨m, rfl⟩
 have r20 : slices_insertionSortOrdered_int_B3 x1 x2 (slices_insertionSortOrdered_int_L3 x1 x2 m19) v12 v13 = some r := r18; clear r18; unfold slices_insertionSortOrdered_int_B3 at r20; try dsimp only at r20
 refine .seq ?_;refine .seq ?_;refine .region rfl ?_;refine .mv rfl rfl ?_;refine .mv rfl rfl ?_;refine .q .ro (.lss rfl rfl) rfl ?_;refine .re ?_
 refine .cond_dec rfl (fun c21 => ?_) (fun c21 => ?_)
 ·have r23 := ifT r20 c21; clear r20
  refine .skip ?_;refine .seq ?_;refine .block ?_;refine .seq ?_;refine .region rfl ?_;refine .mv rfl rfl ?_;refine .av rfl rfl ?_;refine .re ?_;refine .block ?_
  refine .loop2 (α := Nat × Int × List Int × List Value) (fun y => [(7, .int .i64 y.2.1), (0, .slice a0 y.2.2.1.length k0)]) [(6, _), (1, _), (2, _)] (fun y => []) (fun y => []) [] (fun y => [.g (viewG bb0 3 pre0 y.2.2.2 post0)]) [] (fun y => OL (Rep.int .i64) G y.2.2.2 y.2.2.1 ∧ VA a0 bb0 y.2.2.1.length k0 pre0 y.2.2.2 ∧ y.2.2.1.length = x0.length ∧ slices_insertionSortOrdered_int_L2 (slices_insertionSortOrdered_int_L3 x1 x2 m19) v12 x1 y.1 y.2.1 y.2.2.1 = some r) (fun y => y.1) (big, v12, v13, cs14) ⟨o15, va16, hl17, r23⟩ ⟨rfl, rfl, rfl, rfl, rfl, trivial⟩ rfl rfl rfl (fun y hI hb24 => ?_)
  obtain ⟨n25, v26, v27, cs28⟩ := y
  obtain ⟨o29, va30, hl31, r32⟩ := hI
  try dsimp only at o29 va30 hl31 r32
  refine .prune [(7, .int .i64 v26), (0, .slice a0 v27.length k0), (6, _), (1, _), (2, _)] ⟨rfl, rfl, rfl, rfl, rfl, trivial⟩ ?_;refine .same (bl' := []) (sl' := [.g (viewG bb0 3 pre0 cs28 post0)]) (Fs' := G :: Fs) rfl rfl rfl ?_
  obtain ⟨m33, rfl⟩ : ∃ m, n25 = m + 1 := by cases n25 with | zero => exact absurd (show (none : Option _) = some _ from r32) (by simp) | succ m => exact ⟨m, rfl⟩
  have r34 : slices_insertionSortOrdered_int_B2 (slices_insertionSortOrdered_int_L3 x1 x2 m19) v12 x1 (slices_insertionSortOrdered_int_L2 (slices_insertionSortOrdered_int_L3 x1 x2 m19) v12 x1 m33) v26 v27 = some r := r32; clear r32; unfold slices_insertionSortOrdered_int_B2 at r34; try dsimp only at r34
  refine .seq ?_;refine .seq ?_;refine .cutG (β := Bool) (fun y => [(30, .bool y)]) [(7, _), (0, _), (6, _), (1, _), (2, _)] (fun y => G :: Fs) (fun y => []) [] (fun y => []) [_] (fun y => (slices_insertionSortOrdered_int_J1 (slices_insertionSortOrdered_int_L2 (slices_insertionSortOrdered_int_L3 x1 x2 m19) v12 x1 m33) (slices_insertionSortOrdered_int_L3 x1 x2 m19) v26 v12 v27) y = some r) ⟨rfl, rfl, rfl, rfl, rfl, trivial⟩ [] rfl [0] rfl ?_ ?_
  ·intro v35 hI
   have r36 := hI; clear hI
   refine .prune [(30, .bool v35), (7, _), (0, _), (6, _), (1, _), (2, _)] ⟨rfl, rfl, rfl, rfl, rfl, rfl, trivial⟩ ?_;refine .same (bl' := []) (sl' := [_]) (Fs' := G :: Fs) rfl rfl rfl ?_
   unfold slices_insertionSortOrdered_int_J1 at r36
   try dsimp only at r36
   refine .cond rfl (fun c37 => ?_) (fun c37 => ?_)
   ·have r38 := ifT r36 c37; clear r36
    refine .skip ?_;refine .seq ?_;refine .block ?_;refine .drawL (.q 0 (.q 1 (.q 2 (.q 3 (.q 4 (.q 5 (.q 6 (.q 7 (.q 10 (.q 11 (.alt (.e 8 1 (.alt (.e 9 1 (.e 12 1 (.e 13 1 (.e 14 1 (.e 15 1 (.e 16 2 (.e 17 2 .nil))))))) (.e 12 1 (.alt (.e 9 1 (.e 13 1 (.e 14 1 (.e 15 1 (.e 16 2 (.e 17 2 .nil)))))) (.e 13 1 (.e 9 1 (.e 14 1 (.e 15 1 (.e 16 2 (.e 17 2 .nil)))))))))) (.e 12 1 (.alt (.e 8 1 (.alt (.e 9 1 (.e 13 1 (.e 14 1 (.e 15 1 (.e 16 2 (.e 17 2 .nil)))))) (.e 13 1 (.e 9 1 (.e 14 1 (.e 15 1 (.e 16 2 (.e 17 2 .nil)))))))) (.e 13 1 (.e 8 1 (.e 9 1 (.e 14 1 (.e 15 1 (.e 16 2 (.e 17 2 .nil)))))))))))))))))))) [] (by kernel_rfl) (by kernel_rfl) (pick_mem [] rfl) ?_
    obtain ⟨u39, hu39, r40⟩ := bind_some r38; clear r38
    obtain ⟨u41, hu41, r42⟩ := bind_some r40; clear r40
    obtain ⟨u43, hu43, r44⟩ := bind_some r42; clear r42
    obtain ⟨u45, hu45, r46⟩ := bind_some r44; clear r44
    obtain ⟨u47, hu47, r48⟩ := bind_some r46; clear r46
    obtain ⟨u49, hu49, r50⟩ := bind_some r48; clear r48
    refine .dq (.move rfl) rfl ?_;refine .dq (.move rfl) rfl ?_;refine .dq (.move rfl) rfl ?_;refine .dq (.move rfl) rfl ?_;refine .dq (.subw rfl rfl) rfl ?_;refine .dq (.move rfl) rfl ?_;refine .dq (.move rfl) rfl ?_;refine .dq (.subw rfl rfl) rfl ?_;refine .dq (.move rfl) rfl ?_
    refine .dq (.move rfl) rfl ?_;refine .alt ?_ ?_
    ·obtain ⟨c51, p52, h53⟩ := OL.get o29 hu39
     obtain rfl := h53
     refine .q .d1 (.idxV 0 rfl va30 o29 rfl rfl hu39 sl22 ty3.sz rfl rfl) rfl ?_;refine .clsL (HpLe.refl _) (pick_mem [] rfl) ?_;refine .alt ?_ ?_
     ·refine .q .d1 (.loadV 0 0 rfl va30 o29 rfl rfl hu39 p52 rfl (.inl ⟨rfl, rfl⟩) ty3 rfl) rfl ?_
      refine .clsL (HpLe.refl _) (pick_mem [] rfl) ?_
      obtain ⟨c54, p55, h56⟩ := OL.get o29 hu41
      obtain rfl := h56
      refine .q .d1 (.idxV 0 rfl va30 o29 rfl rfl hu41 sl22 ty3.sz rfl rfl) rfl ?_;refine .clsL (HpLe.refl _) (pick_mem [] rfl) ?_;refine .q .d1 (.loadV 0 0 rfl va30 o29 rfl rfl hu41 p55 rfl (.inl ⟨rfl, rfl⟩) ty3 rfl) rfl ?_;refine .clsL (HpLe.refl _) (pick_mem [] rfl) ?_
      obtain ⟨c57, p58, h59⟩ := OL.get o29 hu43
      obtain rfl := h59
      refine .q .d1 (.idxV 0 rfl va30 o29 rfl rfl hu43 sl22 ty3.sz rfl rfl) rfl ?_;refine .clsL (HpLe.refl _) (pick_mem [] rfl) ?_
      refine .storeV 0 0 (Q := (Rep.int .i64)) .d1 rfl va30 rfl rfl o29 hu45 rfl (.inl ⟨rfl, rfl⟩) rfl ty3 p58 ((Rep.intI .i64 u39) :) rfl rfl (fun cs60 hlcs60 o61 va62 => ?_)
      refine .reval 0 hlcs60 rfl ?_;refine .reval 33 hlcs60 rfl ?_;refine .reval 35 hlcs60 rfl ?_;refine .reval 38 hlcs60 rfl ?_;refine .reval 43 hlcs60 rfl ?_;refine .clsL (HpLe.refl _) (pick_mem [] rfl) ?_
      obtain ⟨c63, p65, h66⟩ := OL.get o61 hu47
      obtain rfl := h66
      refine .q .d2 (.idxV 0 rfl va62 o61 rfl rfl hu47 sl22 ty3.sz rfl rfl) rfl ?_
      refine .storeV 0 0 (Q := (Rep.int .i64)) .d2 rfl va62 rfl rfl o61 hu49 rfl (.inl ⟨rfl, rfl⟩) rfl ty3 p65 ((Rep.intI .i64 u41) :) rfl rfl (fun cs67 hlcs67 o68 va69 => ?_)
      refine .reval 0 hlcs67 rfl ?_;refine .reval 33 hlcs67 rfl ?_;refine .reval 35 hlcs67 rfl ?_;refine .reval 38 hlcs67 rfl ?_;refine .reval 43 hlcs67 rfl ?_;refine .draw_end ?_;refine .prune [(7, _), (0, _), (6, _), (1, _), (2, _)] ⟨rfl, rfl, rfl, rfl, rfl, trivial⟩ ?_;refine .inBlock ?_;refine .region rfl ?_
      refine .mv rfl rfl ?_;refine .q .ro (.subw rfl rfl) rfl ?_;refine .av rfl rfl ?_;refine .re ?_
      refine .prune _ ?_ (Cov.same rfl rfl rfl (hb24 (m33, (w64 (v26 - 1)), u49, cs67) ⟨o68, va69, (hlcs67.trans (hlcs60.trans hl31)), r50⟩ (Nat.lt_succ_self _)))
      exact ⟨rfl, rfl, rfl, rfl, rfl, trivial⟩
     ·obtain ⟨c70, p71, h72⟩ := OL.get o29 hu41
      obtain rfl := h72
      refine .q .d1 (.idxV 0 rfl va30 o29 rfl rfl hu41 sl22 ty3.sz rfl rfl) rfl ?_;refine .clsL (HpLe.refl _) (pick_mem [] rfl) ?_;refine .alt ?_ ?_
      ·refine .q .d1 (.loadV 0 0 rfl va30 o29 rfl rfl hu39 p52 rfl (.inl ⟨rfl, rfl⟩) ty3 rfl) rfl ?_
       refine .clsL (HpLe.refl _) (pick_mem [] rfl) ?_;refine .q .d1 (.loadV 0 0 rfl va30 o29 rfl rfl hu41 p71 rfl (.inl ⟨rfl, rfl⟩) ty3 rfl) rfl ?_;refine .clsL (HpLe.refl _) (pick_mem [] rfl) ?_
       obtain ⟨c73, p74, h75⟩ := OL.get o29 hu43
       obtain rfl := h75
       refine .q .d1 (.idxV 0 rfl va30 o29 rfl rfl hu43 sl22 ty3.sz rfl rfl) rfl ?_;refine .clsL (HpLe.refl _) (pick_mem [] rfl) ?_
       refine .storeV 0 0 (Q := (Rep.int .i64)) .d1 rfl va30 rfl rfl o29 hu45 rfl (.inl ⟨rfl, rfl⟩) rfl ty3 p74 ((Rep.intI .i64 u39) :) rfl rfl (fun cs76 hlcs76 o77 va78 => ?_)
       refine .reval 0 hlcs76 rfl ?_;refine .reval 33 hlcs76 rfl ?_;refine .reval 35 hlcs76 rfl ?_;refine .reval 38 hlcs76 rfl ?_;refine .reval 43 hlcs76 rfl ?_;refine .clsL (HpLe.refl _) (pick_mem [] rfl) ?_
       obtain ⟨c79, p80, h81⟩ := OL.get o77 hu47
       obtain rfl := h81
       refine .q .d2 (.idxV 0 rfl va78 o77 rfl rfl hu47 sl22 ty3.sz rfl rfl) rfl ?_
       refine .storeV 0 0 (Q := (Rep.int .i64)) .d2 rfl va78 rfl rfl o77 hu49 rfl (.inl ⟨rfl, rfl⟩) rfl ty3 p80 ((Rep.intI .i64 u41) :) rfl rfl (fun cs82 hlcs82 o83 va84 => ?_)
       refine .reval 0 hlcs82 rfl ?_;refine .reval 33 hlcs82 rfl ?_;refine .reval 35 hlcs82 rfl ?_;refine .reval 38 hlcs82 rfl ?_;refine .reval 43 hlcs82 rfl ?_;refine .draw_end ?_;refine .prune [(7, _), (0, _), (6, _), (1, _), (2, _)] ⟨rfl, rfl, rfl, rfl, rfl, trivial⟩ ?_;refine .inBlock ?_;refine .region rfl ?_
       refine .mv rfl rfl ?_;refine .q .ro (.subw rfl rfl) rfl ?_;refine .av rfl rfl ?_;refine .re ?_
       refine .prune _ ?_ (Cov.same rfl rfl rfl (hb24 (m33, (w64 (v26 - 1)), u49, cs82) ⟨o83, va84, (hlcs82.trans (hlcs76.trans hl31)), r50⟩ (Nat.lt_succ_self _)))
       exact ⟨rfl, rfl, rfl, rfl, rfl, trivial⟩
      ·refine .q .d1 (.loadV 0 0 rfl va30 o29 rfl rfl hu41 p71 rfl (.inl ⟨rfl, rfl⟩) ty3 rfl) rfl ?_
       refine .clsL (HpLe.refl _) (pick_mem [] rfl) ?_;refine .q .d1 (.loadV 0 0 rfl va30 o29 rfl rfl hu39 p52 rfl (.inl ⟨rfl, rfl⟩) ty3 rfl) rfl ?_;refine .clsL (HpLe.refl _) (pick_mem [] rfl) ?_
       obtain ⟨c85, p86, h87⟩ := OL.get o29 hu43
       obtain rfl := h87
       refine .q .d1 (.idxV 0 rfl va30 o29 rfl rfl hu43 sl22 ty3.sz rfl rfl) rfl ?_;refine .clsL (HpLe.refl _) (pick_mem [] rfl) ?_
       refine .storeV 0 0 (Q := (Rep.int .i64)) .d1 rfl va30 rfl rfl o29 hu45 rfl (.inl ⟨rfl, rfl⟩) rfl ty3 p86 ((Rep.intI .i64 u39) :) rfl rfl (fun cs88 hlcs88 o89 va90 => ?_)
       refine .reval 0 hlcs88 rfl ?_;refine .reval 33 hlcs88 rfl ?_;refine .reval 35 hlcs88 rfl ?_;refine .reval 38 hlcs88 rfl ?_;refine .reval 43 hlcs88 rfl ?_;refine .clsL (HpLe.refl _) (pick_mem [] rfl) ?_
       obtain ⟨c91, p92, h93⟩ := OL.get o89 hu47
       obtain rfl := h93
       refine .q .d2 (.idxV 0 rfl va90 o89 rfl rfl hu47 sl22 ty3.sz rfl rfl) rfl ?_
       refine .storeV 0 0 (Q := (Rep.int .i64)) .d2 rfl va90 rfl rfl o89 hu49 rfl (.inl ⟨rfl, rfl⟩) rfl ty3 p92 ((Rep.intI .i64 u41) :) rfl rfl (fun cs94 hlcs94 o95 va96 => ?_)
       refine .reval 0 hlcs94 rfl ?_;refine .reval 33 hlcs94 rfl ?_;refine .reval 35 hlcs94 rfl ?_;refine .reval 38 hlcs94 rfl ?_;refine .reval 43 hlcs94 rfl ?_;refine .draw_end ?_;refine .prune [(7, _), (0, _), (6, _), (1, _), (2, _)] ⟨rfl, rfl, rfl, rfl, rfl, trivial⟩ ?_;refine .inBlock ?_;refine .region rfl ?_
       refine .mv rfl rfl ?_;refine .q .ro (.subw rfl rfl) rfl ?_;refine .av rfl rfl ?_;refine .re ?_
       refine .prune _ ?_ (Cov.same rfl rfl rfl (hb24 (m33, (w64 (v26 - 1)), u49, cs94) ⟨o95, va96, (hlcs94.trans (hlcs88.trans hl31)), r50⟩ (Nat.lt_succ_self _)))
       exact ⟨rfl, rfl, rfl, rfl, rfl, trivial⟩
    ·obtain ⟨c97, p98, h99⟩ := OL.get o29 hu41
     obtain rfl := h99
     refine .q .d1 (.idxV 0 rfl va30 o29 rfl rfl hu41 sl22 ty3.sz rfl rfl) rfl ?_;refine .clsL (HpLe.refl _) (pick_mem [] rfl) ?_;refine .alt ?_ ?_
     ·obtain ⟨c100, p101, h102⟩ := OL.get o29 hu39
      obtain rfl := h102
      refine .q .d1 (.idxV 0 rfl va30 o29 rfl rfl hu39 sl22 ty3.sz rfl rfl) rfl ?_;refine .clsL (HpLe.refl _) (pick_mem [] rfl) ?_;refine .alt ?_ ?_
      ·refine .q .d1 (.loadV 0 0 rfl va30 o29 rfl rfl hu39 p101 rfl (.inl ⟨rfl, rfl⟩) ty3 rfl) rfl ?_
       refine .clsL (HpLe.refl _) (pick_mem [] rfl) ?_;refine .q .d1 (.loadV 0 0 rfl va30 o29 rfl rfl hu41 p98 rfl (.inl ⟨rfl, rfl⟩) ty3 rfl) rfl ?_;refine .clsL (HpLe.refl _) (pick_mem [] rfl) ?_
       obtain ⟨c103, p104, h105⟩ := OL.get o29 hu43
       obtain rfl := h105
       refine .q .d1 (.idxV 0 rfl va30 o29 rfl rfl hu43 sl22 ty3.sz rfl rfl) rfl ?_;refine .clsL (HpLe.refl _) (pick_mem [] rfl) ?_
       refine .storeV 0 0 (Q := (Rep.int .i64)) .d1 rfl va30 rfl rfl o29 hu45 rfl (.inl ⟨rfl, rfl⟩) rfl ty3 p104 ((Rep.intI .i64 u39) :) rfl rfl (fun cs106 hlcs106 o107 va108 => ?_)
       refine .reval 0 hlcs106 rfl ?_;refine .reval 33 hlcs106 rfl ?_;refine .reval 35 hlcs106 rfl ?_;refine .reval 38 hlcs106 rfl ?_;refine .reval 43 hlcs106 rfl ?_;refine .clsL (HpLe.refl _) (pick_mem [] rfl) ?_
       obtain ⟨c109, p110, h111⟩ := OL.get o107 hu47
       obtain rfl := h111
       refine .q .d2 (.idxV 0 rfl va108 o107 rfl rfl hu47 sl22 ty3.sz rfl rfl) rfl ?_
       refine .storeV 0 0 (Q := (Rep.int .i64)) .d2 rfl va108 rfl rfl o107 hu49 rfl (.inl ⟨rfl, rfl⟩) rfl ty3 p110 ((Rep.intI .i64 u41) :) rfl rfl (fun cs112 hlcs112 o113 va114 => ?_)
       refine .reval 0 hlcs112 rfl ?_;refine .reval 33 hlcs112 rfl ?_;refine .reval 35 hlcs112 rfl ?_;refine .reval 38 hlcs112 rfl ?_;refine .reval 43 hlcs112 rfl ?_;refine .draw_end ?_;refine .prune [(7, _), (0, _), (6, _), (1, _), (2, _)] ⟨rfl, rfl, rfl, rfl, rfl, trivial⟩ ?_;refine .inBlock ?_;refine .region rfl ?_
       refine .mv rfl rfl ?_;refine .q .ro (.subw rfl rfl) rfl ?_;refine .av rfl rfl ?_;refine .re ?_
       refine .prune _ ?_ (Cov.same rfl rfl rfl (hb24 (m33, (w64 (v26 - 1)), u49, cs112) ⟨o113, va114, (hlcs112.trans (hlcs106.trans hl31)), r50⟩ (Nat.lt_succ_self _)))
       exact ⟨rfl, rfl, rfl, rfl, rfl, trivial⟩
      ·refine .q .d1 (.loadV 0 0 rfl va30 o29 rfl rfl hu41 p98 rfl (.inl ⟨rfl, rfl⟩) ty3 rfl) rfl ?_
       refine .clsL (HpLe.refl _) (pick_mem [] rfl) ?_;refine .q .d1 (.loadV 0 0 rfl va30 o29 rfl rfl hu39 p101 rfl (.inl ⟨rfl, rfl⟩) ty3 rfl) rfl ?_;refine .clsL (HpLe.refl _) (pick_mem [] rfl) ?_
       obtain ⟨c115, p116, h117⟩ := OL.get o29 hu43
       obtain rfl := h117
       refine .q .d1 (.idxV 0 rfl va30 o29 rfl rfl hu43 sl22 ty3.sz rfl rfl) rfl ?_;refine .clsL (HpLe.refl _) (pick_mem [] rfl) ?_
       refine .storeV 0 0 (Q := (Rep.int .i64)) .d1 rfl va30 rfl rfl o29 hu45 rfl (.inl ⟨rfl, rfl⟩) rfl ty3 p116 ((Rep.intI .i64 u39) :) rfl rfl (fun cs118 hlcs118 o119 va120 => ?_)
       refine .reval 0 hlcs118 rfl ?_;refine .reval 33 hlcs118 rfl ?_;refine .reval 35 hlcs118 rfl ?_;refine .reval 38 hlcs118 rfl ?_;refine .reval 43 hlcs118 rfl ?_;refine .clsL (HpLe.refl _) (pick_mem [] rfl) ?_
       obtain ⟨c121, p122, h123⟩ := OL.get o119 hu47
       obtain rfl := h123
       refine .q .d2 (.idxV 0 rfl va120 o119 rfl rfl hu47 sl22 ty3.sz rfl rfl) rfl ?_
       refine .storeV 0 0 (Q := (Rep.int .i64)) .d2 rfl va120 rfl rfl o119 hu49 rfl (.inl ⟨rfl, rfl⟩) rfl ty3 p122 ((Rep.intI .i64 u41) :) rfl rfl (fun cs124 hlcs124 o125 va126 => ?_)
       refine .reval 0 hlcs124 rfl ?_;refine .reval 33 hlcs124 rfl ?_;refine .reval 35 hlcs124 rfl ?_;refine .reval 38 hlcs124 rfl ?_;refine .reval 43 hlcs124 rfl ?_;refine .draw_end ?_;refine .prune [(7, _), (0, _), (6, _), (1, _), (2, _)] ⟨rfl, rfl, rfl, rfl, rfl, trivial⟩ ?_;refine .inBlock ?_;refine .region rfl ?_
       refine .mv rfl rfl ?_;refine .q .ro (.subw rfl rfl) rfl ?_;refine .av rfl rfl ?_;refine .re ?_
       refine .prune _ ?_ (Cov.same rfl rfl rfl (hb24 (m33, (w64 (v26 - 1)), u49, cs124) ⟨o125, va126, (hlcs124.trans (hlcs118.trans hl31)), r50⟩ (Nat.lt_succ_self _)))
       exact ⟨rfl, rfl, rfl, rfl, rfl, trivial⟩
     ·refine .q .d1 (.loadV 0 0 rfl va30 o29 rfl rfl hu41 p98 rfl (.inl ⟨rfl, rfl⟩) ty3 rfl) rfl ?_
      refine .clsL (HpLe.refl _) (pick_mem [] rfl) ?_
      obtain ⟨c127, p128, h129⟩ := OL.get o29 hu39
      obtain rfl := h129
      refine .q .d1 (.idxV 0 rfl va30 o29 rfl rfl hu39 sl22 ty3.sz rfl rfl) rfl ?_;refine .clsL (HpLe.refl _) (pick_mem [] rfl) ?_;refine .q .d1 (.loadV 0 0 rfl va30 o29 rfl rfl hu39 p128 rfl (.inl ⟨rfl, rfl⟩) ty3 rfl) rfl ?_;refine .clsL (HpLe.refl _) (pick_mem [] rfl) ?_
      obtain ⟨c130, p131, h132⟩ := OL.get o29 hu43
      obtain rfl := h132
      refine .q .d1 (.idxV 0 rfl va30 o29 rfl rfl hu43 sl22 ty3.sz rfl rfl) rfl ?_;refine .clsL (HpLe.refl _) (pick_mem [] rfl) ?_
      refine .storeV 0 0 (Q := (Rep.int .i64)) .d1 rfl va30 rfl rfl o29 hu45 rfl (.inl ⟨rfl, rfl⟩) rfl ty3 p131 ((Rep.intI .i64 u39) :) rfl rfl (fun cs133 hlcs133 o134 va135 => ?_)
      refine .reval 0 hlcs133 rfl ?_;refine .reval 33 hlcs133 rfl ?_;refine .reval 35 hlcs133 rfl ?_;refine .reval 38 hlcs133 rfl ?_;refine .reval 43 hlcs133 rfl ?_;refine .clsL (HpLe.refl _) (pick_mem [] rfl) ?_
      obtain ⟨c136, p137, h138⟩ := OL.get o134 hu47
      obtain rfl := h138
      refine .q .d2 (.idxV 0 rfl va135 o134 rfl rfl hu47 sl22 ty3.sz rfl rfl) rfl ?_
      refine .storeV 0 0 (Q := (Rep.int .i64)) .d2 rfl va135 rfl rfl o134 hu49 rfl (.inl ⟨rfl, rfl⟩) rfl ty3 p137 ((Rep.intI .i64 u41) :) rfl rfl (fun cs139 hlcs139 o140 va141 => ?_)
      refine .reval 0 hlcs139 rfl ?_;refine .reval 33 hlcs139 rfl ?_;refine .reval 35 hlcs139 rfl ?_;refine .reval 38 hlcs139 rfl ?_;refine .reval 43 hlcs139 rfl ?_;refine .draw_end ?_;refine .prune [(7, _), (0, _), (6, _), (1, _), (2, _)] ⟨rfl, rfl, rfl, rfl, rfl, trivial⟩ ?_;refine .inBlock ?_;refine .region rfl ?_
      refine .mv rfl rfl ?_;refine .q .ro (.subw rfl rfl) rfl ?_;refine .av rfl rfl ?_;refine .re ?_
      refine .prune _ ?_ (Cov.same rfl rfl rfl (hb24 (m33, (w64 (v26 - 1)), u49, cs139) ⟨o140, va141, (hlcs139.trans (hlcs133.trans hl31)), r50⟩ (Nat.lt_succ_self _)))
      exact ⟨rfl, rfl, rfl, rfl, rfl, trivial⟩
   ·have r142 := ifBF r36 c37; clear r36
    refine .exit rfl ?_;refine .inBlock ?_;refine .region rfl ?_;refine .mv rfl rfl ?_;refine .q .ro (.addw rfl rfl) rfl ?_;refine .av rfl rfl ?_;refine .re ?_
    refine .prune _ ?_ (Cov.same rfl rfl rfl (hb10 (m19, (w64 (v12 + 1)), v27, cs28) ⟨o29, va30, hl31, r142⟩ (Nat.lt_succ_self _)))
    exact ⟨rfl, rfl, rfl, rfl, trivial⟩
  ·intro hb143
   refine .drawL (.q 0 (.q 1 (.q 2 (.q 3 (.q 4 (.q 5 (.q 8 (.q 9 (.q 10 (.alt (.e 6 1 (.alt (.e 7 1 (.e 11 1 (.e 12 1 (.e 13 1 (.q 14 .nil))))) (.e 11 1 (.alt (.e 7 1 (.e 12 1 (.e 13 1 (.q 14 .nil)))) (.e 12 1 (.e 7 1 (.e 13 1 (.q 14 .nil)))))))) (.e 11 1 (.alt (.e 6 1 (.alt (.e 7 1 (.e 12 1 (.e 13 1 (.q 14 .nil)))) (.e 12 1 (.e 7 1 (.e 13 1 (.q 14 .nil)))))) (.e 12 1 (.e 6 1 (.e 7 1 (.e 13 1 (.q 14 .nil))))))))))))))))) [] (by kernel_rfl) (by kernel_rfl) (pick_mem [] rfl) ?_;refine .dq (.move rfl) rfl ?_;refine .dq (.move rfl) rfl ?_;refine .dq (.gtr rfl rfl) rfl ?_;refine .dq (.move rfl) rfl ?_
   obtain ⟨u144, h145, r146⟩ := bind_some r34; clear r34
   refine .cutD 11 (β := Unit) (fun y => [(30, .bool u144)]) [(7, _), (0, _), (6, _), (1, _), (2, _)] (fun y => G :: Fs) (fun y => []) [] (fun y => []) [_] (fun y => True) ⟨rfl, rfl, rfl, rfl, rfl, trivial⟩ [] rfl [0] rfl ?_ ?_
   ·rintro _ _
    refine .prune [(30, .bool u144), (7, _), (0, _), (6, _), (1, _), (2, _)] ⟨rfl, rfl, rfl, rfl, rfl, rfl, trivial⟩ ?_;refine .same (bl' := []) (sl' := [_]) (Fs' := G :: Fs) rfl rfl rfl ?_;refine .draw_end ?_
    refine .prune _ ?_ (Cov.same rfl rfl rfl (hb143 (u144) r146))
    exact ⟨rfl, rfl, rfl, rfl, rfl, rfl, trivial⟩
   ·intro hb147
    refine .split 19 rfl (fun c148 => ?_) (fun c148 => ?_)
    ·have r149 := ifT h145 c148
     refine .dgq_on rfl ?_;refine .dq (.move rfl) rfl ?_;refine .dgq_on rfl ?_;refine .dq (.move rfl) rfl ?_;refine .dgq_on rfl ?_;refine .dq (.move rfl) rfl ?_;refine .dgq_on rfl ?_;refine .dq (.move rfl) rfl ?_;refine .dgq_on rfl ?_
     refine .dq (.subw rfl rfl) rfl ?_
     obtain ⟨u150, hu150, r151⟩ := bind_some r149; clear r149
     obtain ⟨u152, hu152, r153⟩ := bind_some r151; clear r151
     obtain ⟨u154, hu154, r155⟩ := bind_some r153; clear r153
     refine .alt ?_ ?_
     ·refine .dge_on rfl ?_
      obtain ⟨c156, p157, h158⟩ := OL.get o29 hu150
      obtain rfl := h158
      refine .q .d1 (.idxV 0 rfl va30 o29 rfl rfl hu150 sl22 ty3.sz rfl rfl) rfl ?_;refine .clsL (HpLe.refl _) (pick_mem [] rfl) ?_;refine .alt ?_ ?_
      ·refine .dge_on rfl ?_
       refine .q .d1 (.loadV 0 0 rfl va30 o29 rfl rfl hu150 p157 rfl (.inl ⟨rfl, rfl⟩) ty3 rfl) rfl ?_;refine .clsL (HpLe.refl _) (pick_mem [] rfl) ?_;refine .dge_on rfl ?_
       obtain ⟨c160, p161, h162⟩ := OL.get o29 hu152
       obtain rfl := h162
       refine .q .d1 (.idxV 0 rfl va30 o29 rfl rfl hu152 sl22 ty3.sz rfl rfl) rfl ?_;refine .clsL (HpLe.refl _) (pick_mem [] rfl) ?_;refine .dge_on rfl ?_;refine .q .d1 (.loadV 0 0 rfl va30 o29 rfl rfl hu152 p161 rfl (.inl ⟨rfl, rfl⟩) ty3 rfl) rfl ?_;refine .clsL (HpLe.refl _) (pick_mem [] rfl) ?_;refine .dge_on rfl ?_
       refine .callS (b1 := []) (b2 := []) (s1 := []) [_, _] [] .d1 rfl rfl Tryz.call165 rfl rfl (cmp_Less_int_c (G := G) List.mem_cons_self  hu154) rfl (fun v163 bo so h164 => ?_)
       obtain ⟨rfl, rfl, rfl⟩ := h164
       refine .same (bl' := []) (sl' := [_]) rfl rfl rfl ?_;refine .clsL (HpLe.refl _) (pick_mem [] rfl) ?_;refine .dq (.pick_t rfl rfl) rfl ?_
       refine .prune _ ?_ (Cov.same rfl rfl rfl (hb147 () trivial))
       exact ⟨sval r155, rfl, rfl, rfl, rfl, rfl, trivial⟩
      ·refine .dge_on rfl ?_
       obtain ⟨c166, p167, h168⟩ := OL.get o29 hu152
       obtain rfl := h168
       refine .q .d1 (.idxV 0 rfl va30 o29 rfl rfl hu152 sl22 ty3.sz rfl rfl) rfl ?_;refine .clsL (HpLe.refl _) (pick_mem [] rfl) ?_;refine .alt ?_ ?_
       ·refine .dge_on rfl ?_
        refine .q .d1 (.loadV 0 0 rfl va30 o29 rfl rfl hu150 p157 rfl (.inl ⟨rfl, rfl⟩) ty3 rfl) rfl ?_;refine .clsL (HpLe.refl _) (pick_mem [] rfl) ?_;refine .dge_on rfl ?_;refine .q .d1 (.loadV 0 0 rfl va30 o29 rfl rfl hu152 p167 rfl (.inl ⟨rfl, rfl⟩) ty3 rfl) rfl ?_;refine .clsL (HpLe.refl _) (pick_mem [] rfl) ?_;refine .dge_on rfl ?_
        refine .callS (b1 := []) (b2 := []) (s1 := []) [_, _] [] .d1 rfl rfl Tryz.call165 rfl rfl (cmp_Less_int_c (G := G) List.mem_cons_self  hu154) rfl (fun v169 bo so h170 => ?_)
        obtain ⟨rfl, rfl, rfl⟩ := h170
        refine .same (bl' := []) (sl' := [_]) rfl rfl rfl ?_;refine .clsL (HpLe.refl _) (pick_mem [] rfl) ?_;refine .dq (.pick_t rfl rfl) rfl ?_
        refine .prune _ ?_ (Cov.same rfl rfl rfl (hb147 () trivial))
        exact ⟨sval r155, rfl, rfl, rfl, rfl, rfl, trivial⟩
       ·refine .dge_on rfl ?_
        refine .q .d1 (.loadV 0 0 rfl va30 o29 rfl rfl hu152 p167 rfl (.inl ⟨rfl, rfl⟩) ty3 rfl) rfl ?_;refine .clsL (HpLe.refl _) (pick_mem [] rfl) ?_;refine .dge_on rfl ?_;refine .q .d1 (.loadV 0 0 rfl va30 o29 rfl rfl hu150 p157 rfl (.inl ⟨rfl, rfl⟩) ty3 rfl) rfl ?_;refine .clsL (HpLe.refl _) (pick_mem [] rfl) ?_;refine .dge_on rfl ?_
        refine .callS (b1 := []) (b2 := []) (s1 := []) [_, _] [] .d1 rfl rfl Tryz.call165 rfl rfl (cmp_Less_int_c (G := G) List.mem_cons_self  hu154) rfl (fun v171 bo so h172 => ?_)
        obtain ⟨rfl, rfl, rfl⟩ := h172
        refine .same (bl' := []) (sl' := [_]) rfl rfl rfl ?_;refine .clsL (HpLe.refl _) (pick_mem [] rfl) ?_;refine .dq (.pick_t rfl rfl) rfl ?_
        refine .prune _ ?_ (Cov.same rfl rfl rfl (hb147 () trivial))
        exact ⟨sval r155, rfl, rfl, rfl, rfl, rfl, trivial⟩
     ·refine .dge_on rfl ?_
      obtain ⟨c173, p174, h175⟩ := OL.get o29 hu152
      obtain rfl := h175
      refine .q .d1 (.idxV 0 rfl va30 o29 rfl rfl hu152 sl22 ty3.sz rfl rfl) rfl ?_;refine .clsL (HpLe.refl _) (pick_mem [] rfl) ?_;refine .alt ?_ ?_
      ·refine .dge_on rfl ?_
       obtain ⟨c176, p177, h178⟩ := OL.get o29 hu150
       obtain rfl := h178
       refine .q .d1 (.idxV 0 rfl va30 o29 rfl rfl hu150 sl22 ty3.sz rfl rfl) rfl ?_;refine .clsL (HpLe.refl _) (pick_mem [] rfl) ?_;refine .alt ?_ ?_
       ·refine .dge_on rfl ?_
        refine .q .d1 (.loadV 0 0 rfl va30 o29 rfl rfl hu150 p177 rfl (.inl ⟨rfl, rfl⟩) ty3 rfl) rfl ?_;refine .clsL (HpLe.refl _) (pick_mem [] rfl) ?_;refine .dge_on rfl ?_;refine .q .d1 (.loadV 0 0 rfl va30 o29 rfl rfl hu152 p174 rfl (.inl ⟨rfl, rfl⟩) ty3 rfl) rfl ?_;refine .clsL (HpLe.refl _) (pick_mem [] rfl) ?_;refine .dge_on rfl ?_
        refine .callS (b1 := []) (b2 := []) (s1 := []) [_, _] [] .d1 rfl rfl Tryz.call165 rfl rfl (cmp_Less_int_c (G := G) List.mem_cons_self  hu154) rfl (fun v179 bo so h180 => ?_)
        obtain ⟨rfl, rfl, rfl⟩ := h180
        refine .same (bl' := []) (sl' := [_]) rfl rfl rfl ?_;refine .clsL (HpLe.refl _) (pick_mem [] rfl) ?_;refine .dq (.pick_t rfl rfl) rfl ?_
        refine .prune _ ?_ (Cov.same rfl rfl rfl (hb147 () trivial))
        exact ⟨sval r155, rfl, rfl, rfl, rfl, rfl, trivial⟩
       ·refine .dge_on rfl ?_
        refine .q .d1 (.loadV 0 0 rfl va30 o29 rfl rfl hu152 p174 rfl (.inl ⟨rfl, rfl⟩) ty3 rfl) rfl ?_;refine .clsL (HpLe.refl _) (pick_mem [] rfl) ?_;refine .dge_on rfl ?_;refine .q .d1 (.loadV 0 0 rfl va30 o29 rfl rfl hu150 p177 rfl (.inl ⟨rfl, rfl⟩) ty3 rfl) rfl ?_;refine .clsL (HpLe.refl _) (pick_mem [] rfl) ?_;refine .dge_on rfl ?_
        refine .callS (b1 := []) (b2 := []) (s1 := []) [_, _] [] .d1 rfl rfl Tryz.call165 rfl rfl (cmp_Less_int_c (G := G) List.mem_cons_self  hu154) rfl (fun v181 bo so h182 => ?_)
        obtain ⟨rfl, rfl, rfl⟩ := h182
        refine .same (bl' := []) (sl' := [_]) rfl rfl rfl ?_;refine .clsL (HpLe.refl _) (pick_mem [] rfl) ?_;refine .dq (.pick_t rfl rfl) rfl ?_
        refine .prune _ ?_ (Cov.same rfl rfl rfl (hb147 () trivial))
        exact ⟨sval r155, rfl, rfl, rfl, rfl, rfl, trivial⟩
      ·refine .dge_on rfl ?_
       refine .q .d1 (.loadV 0 0 rfl va30 o29 rfl rfl hu152 p174 rfl (.inl ⟨rfl, rfl⟩) ty3 rfl) rfl ?_;refine .clsL (HpLe.refl _) (pick_mem [] rfl) ?_;refine .dge_on rfl ?_
       obtain ⟨c183, p184, h185⟩ := OL.get o29 hu150
       obtain rfl := h185
       refine .q .d1 (.idxV 0 rfl va30 o29 rfl rfl hu150 sl22 ty3.sz rfl rfl) rfl ?_;refine .clsL (HpLe.refl _) (pick_mem [] rfl) ?_;refine .dge_on rfl ?_;refine .q .d1 (.loadV 0 0 rfl va30 o29 rfl rfl hu150 p184 rfl (.inl ⟨rfl, rfl⟩) ty3 rfl) rfl ?_;refine .clsL (HpLe.refl _) (pick_mem [] rfl) ?_;refine .dge_on rfl ?_
       refine .callS (b1 := []) (b2 := []) (s1 := []) [_, _] [] .d1 rfl rfl Tryz.call165 rfl rfl (cmp_Less_int_c (G := G) List.mem_cons_self  hu154) rfl (fun v186 bo so h187 => ?_)
       obtain ⟨rfl, rfl, rfl⟩ := h187
       refine .same (bl' := []) (sl' := [_]) rfl rfl rfl ?_;refine .clsL (HpLe.refl _) (pick_mem [] rfl) ?_;refine .dq (.pick_t rfl rfl) rfl ?_
       refine .prune _ ?_ (Cov.same rfl rfl rfl (hb147 () trivial))
       exact ⟨sval r155, rfl, rfl, rfl, rfl, rfl, trivial⟩
    ·have r188 := ifF h145 c148
     refine .dgq_off rfl rfl rfl ?_;refine .dgq_off rfl rfl rfl ?_;refine .dgq_off rfl rfl rfl ?_;refine .dgq_off rfl rfl rfl ?_;refine .dgq_off rfl rfl rfl ?_;refine .alt ?_ ?_
     ·refine .dge_offL rfl rfl rfl (HpLe.refl _) (pick_mem [] rfl) ?_
      refine .alt ?_ ?_
      ·refine .dge_offL rfl rfl rfl (HpLe.refl _) (pick_mem [] rfl) ?_
       refine .dge_offL rfl rfl rfl (HpLe.refl _) (pick_mem [] rfl) ?_;refine .dge_offL rfl rfl rfl (HpLe.refl _) (pick_mem [] rfl) ?_;refine .dge_offL rfl rfl rfl (HpLe.refl _) (pick_mem [] rfl) ?_;refine .dq (.pick_f rfl rfl) rfl ?_
       refine .prune _ ?_ (Cov.same rfl rfl rfl (hb147 () trivial))
       exact ⟨sval r188, rfl, rfl, rfl, rfl, rfl, trivial⟩
      ·refine .dge_offL rfl rfl rfl (HpLe.refl _) (pick_mem [] rfl) ?_
       refine .alt ?_ ?_
       ·refine .dge_offL rfl rfl rfl (HpLe.refl _) (pick_mem [] rfl) ?_
        refine .dge_offL rfl rfl rfl (HpLe.refl _) (pick_mem [] rfl) ?_;refine .dge_offL rfl rfl rfl (HpLe.refl _) (pick_mem [] rfl) ?_;refine .dq (.pick_f rfl rfl) rfl ?_
        refine .prune _ ?_ (Cov.same rfl rfl rfl (hb147 () trivial))
        exact ⟨sval r188, rfl, rfl, rfl, rfl, rfl, trivial⟩
       ·refine .dge_offL rfl rfl rfl (HpLe.refl _) (pick_mem [] rfl) ?_
        refine .dge_offL rfl rfl rfl (HpLe.refl _) (pick_mem [] rfl) ?_;refine .dge_offL rfl rfl rfl (HpLe.refl _) (pick_mem [] rfl) ?_;refine .dq (.pick_f rfl rfl) rfl ?_
        refine .prune _ ?_ (Cov.same rfl rfl rfl (hb147 () trivial))
        exact ⟨sval r188, rfl, rfl, rfl, rfl, rfl, trivial⟩
     ·refine .dge_offL rfl rfl rfl (HpLe.refl _) (pick_mem [] rfl) ?_
      refine .alt ?_ ?_
      ·refine .dge_offL rfl rfl rfl (HpLe.refl _) (pick_mem [] rfl) ?_
       refine .alt ?_ ?_
       ·refine .dge_offL rfl rfl rfl (HpLe.refl _) (pick_mem [] rfl) ?_
        refine .dge_offL rfl rfl rfl (HpLe.refl _) (pick_mem [] rfl) ?_;refine .dge_offL rfl rfl rfl (HpLe.refl _) (pick_mem [] rfl) ?_;refine .dq (.pick_f rfl rfl) rfl ?_
        refine .prune _ ?_ (Cov.same rfl rfl rfl (hb147 () trivial))
        exact ⟨sval r188, rfl, rfl, rfl, rfl, rfl, trivial⟩
       ·refine .dge_offL rfl rfl rfl (HpLe.refl _) (pick_mem [] rfl) ?_
        refine .dge_offL rfl rfl rfl (HpLe.refl _) (pick_mem [] rfl) ?_;refine .dge_offL rfl rfl rfl (HpLe.refl _) (pick_mem [] rfl) ?_;refine .dq (.pick_f rfl rfl) rfl ?_
        refine .prune _ ?_ (Cov.same rfl rfl rfl (hb147 () trivial))
        exact ⟨sval r188, rfl, rfl, rfl, rfl, rfl, trivial⟩
      ·refine .dge_offL rfl rfl rfl (HpLe.refl _) (pick_mem [] rfl) ?_
       refine .dge_offL rfl rfl rfl (HpLe.refl _) (pick_mem [] rfl) ?_;refine .dge_offL rfl rfl rfl (HpLe.refl _) (pick_mem [] rfl) ?_;refine .dge_offL rfl rfl rfl (HpLe.refl _) (pick_mem [] rfl) ?_;refine .dq (.pick_f rfl rfl) rfl ?_
       refine .prune _ ?_ (Cov.same rfl rfl rfl (hb147 () trivial))
       exact ⟨sval r188, rfl, rfl, rfl, rfl, rfl, trivial⟩
 ·have r189 := ifF r20 c21; clear r20
  refine .exit rfl ?_
  cases r189
  refine .retS (c := ⟨159, none⟩) (.inl rfl) [] [] rfl Tryz.func159 Tryz.results159 trivial mcm ⟨cs14, rfl, rfl, rfl, o15, hl17⟩
theorem math_bits_Len64_c {Fs : List Hp} {G : Hp} {x0 : Int} {r : Int} (hG : G ∈ Fs)  (h : math_bits_Len64 x0 = some r) : RetS Tryz.prog 169 #[.int .u64 x0] Fs [] [] (fun v bo so => v = .int .i64 r ∧ bo = [] ∧ so = []) := by
 unfold math_bits_Len64 at h
 try dsimp only at h
 refine RetS.of (vs := [_]) Tryz.func169 rfl Tryz.ntmps169 [(0, _)] ⟨rfl, trivial⟩ rfl hG fun w0 S0 hS0 B0 => ?_
 refine .seq ?_;refine .region rfl ?_;refine .av rfl rfl ?_;refine .re ?_;refine .seq ?_;refine .seq ?_;refine .region rfl ?_;refine .mv rfl rfl ?_;refine .q .ro (.geq rfl rfl) rfl ?_
 refine .re ?_;refine .cutI (β := Int × Int) (fun y => [(0, .int .u64 y.1), (2, .int .i64 y.2)]) [] (fun y => G :: Fs) (fun y => []) [] (fun y => []) [] (fun y => math_bits_Len64_J3 y.1 y.2 = some r) trivial [] rfl [] rfl ?_ ?_
 ·intro y hI
  obtain ⟨v5, v6⟩ := y
  have r8 := hI; clear hI
  try dsimp only at r8
  refine .prune [(0, .int .u64 v5), (2, .int .i64 v6)] ⟨rfl, rfl, trivial⟩ ?_;refine .same (bl' := []) (sl' := []) (Fs' := G :: Fs) rfl rfl rfl ?_
  unfold math_bits_Len64_J3 at r8
  try dsimp only at r8
  refine .seq ?_;refine .seq ?_;refine .region rfl ?_;refine .mv rfl rfl ?_;refine .q .ro (.geq rfl rfl) rfl ?_;refine .re ?_;refine .cutI (β := Int × Int) (fun y => [(0, .int .u64 y.1), (2, .int .i64 y.2)]) [] (fun y => G :: Fs) (fun y => []) [] (fun y => []) [] (fun y => math_bits_Len64_J2 y.1 y.2 = some r) trivial [] rfl [] rfl ?_ ?_
  ·intro y hI
   obtain ⟨v13, v14⟩ := y
   have r16 := hI; clear hI
   try dsimp only at r16
   refine .prune [(0, .int .u64 v13), (2, .int .i64 v14)] ⟨rfl, rfl, trivial⟩ ?_;refine .same (bl' := []) (sl' := []) (Fs' := G :: Fs) rfl rfl rfl ?_
   unfold math_bits_Len64_J2 at r16
   try dsimp only at r16
   refine .seq ?_;refine .seq ?_;refine .region rfl ?_;refine .mv rfl rfl ?_;refine .q .ro (.geq rfl rfl) rfl ?_;refine .re ?_;refine .cutI (β := Int × Int) (fun y => [(0, .int .u64 y.1), (2, .int .i64 y.2)]) [] (fun y => G :: Fs) (fun y => []) [] (fun y => []) [] (fun y => math_bits_Len64_J1 y.1 y.2 = some r) trivial [] rfl [] rfl ?_ ?_
   ·intro y hI
    obtain ⟨v21, v22⟩ := y
    have r24 := hI; clear hI
    try dsimp only at r24
    refine .prune [(0, .int .u64 v21), (2, .int .i64 v22)] ⟨rfl, rfl, trivial⟩ ?_;refine .same (bl' := []) (sl' := []) (Fs' := G :: Fs) rfl rfl rfl ?_
    unfold math_bits_Len64_J1 at r24
    try dsimp only at r24
    refine .seq ?_;refine .region rfl ?_;refine .mv rfl rfl ?_;refine .mv rfl rfl ?_;refine .q .ro (.convw Tryz.underlying251 Tryz.underlying5 rfl) rfl ?_
    obtain ⟨u25, hu25, r26⟩ := bind_some r24; clear r24
    refine .q .ro (.sidx rfl rfl Tryz.underlying9 hu25) rfl ?_;refine .q .ro (.convw Tryz.underlying5 Tryz.underlying3 rfl) rfl ?_;refine .q .ro (.addw rfl rfl) rfl ?_;refine .av rfl rfl ?_;refine .re ?_
    cases r26
    refine .retS (c := ⟨169, none⟩) (.inr ⟨_, rfl⟩) [.tmp 2] [_] rfl Tryz.func169 Tryz.results169 ⟨RV.tmp rfl, trivial⟩ mcm ⟨rfl, rfl, rfl⟩
   ·intro hb27
    refine .cond_dec rfl (fun c28 => ?_) (fun c28 => ?_)
    ·have r29 := ifT r16 c28; clear r16
     refine .seq ?_;refine .region rfl ?_;refine .mv rfl rfl ?_;refine .q .ro (.shrw rfl rfl (by decide)) rfl ?_;refine .av rfl rfl ?_;refine .re ?_;refine .region rfl ?_;refine .mv rfl rfl ?_;refine .q .ro (.addw rfl rfl) rfl ?_
     refine .av rfl rfl ?_;refine .re ?_
     refine .prune _ ?_ (Cov.same rfl rfl rfl (hb27 ((shrI .u64 v13 8), (w64 (v14 + 8))) r29))
     exact ⟨rfl, rfl, trivial⟩
    ·have r30 := ifF r16 c28; clear r16
     refine .skip ?_
     refine .prune _ ?_ (Cov.same rfl rfl rfl (hb27 (v13, v14) r30))
     exact ⟨rfl, rfl, trivial⟩
  ·intro hb31
   refine .cond_dec rfl (fun c32 => ?_) (fun c32 => ?_)
   ·have r33 := ifT r8 c32; clear r8
    refine .seq ?_;refine .region rfl ?_;refine .mv rfl rfl ?_;refine .q .ro (.shrw rfl rfl (by decide)) rfl ?_;refine .av rfl rfl ?_;refine .re ?_;refine .region rfl ?_;refine .mv rfl rfl ?_;refine .q .ro (.addw rfl rfl) rfl ?_
    refine .av rfl rfl ?_;refine .re ?_
    refine .prune _ ?_ (Cov.same rfl rfl rfl (hb31 ((shrI .u64 v5 16), (w64 (v6 + 16))) r33))
    exact ⟨rfl, rfl, trivial⟩
   ·have r34 := ifF r8 c32; clear r8
    refine .skip ?_
    refine .prune _ ?_ (Cov.same rfl rfl rfl (hb31 (v5, v6) r34))
    exact ⟨rfl, rfl, trivial⟩
 ·intro hb35
  refine .cond_dec rfl (fun c36 => ?_) (fun c36 => ?_)
  ·have r37 := ifT h c36; clear h
   refine .seq ?_;refine .region rfl ?_;refine .mv rfl rfl ?_;refine .q .ro (.shrw rfl rfl (by decide)) rfl ?_;refine .av rfl rfl ?_;refine .re ?_;refine .region rfl ?_;refine .av rfl rfl ?_;refine .re ?_
   refine .prune _ ?_ (Cov.same rfl rfl rfl (hb35 ((shrI .u64 x0 32), 32) r37))
   exact ⟨rfl, rfl, trivial⟩
  ·have r38 := ifF h c36; clear h
   refine .skip ?_
   refine .prune _ ?_ (Cov.same rfl rfl rfl (hb35 (x0, 0) r38))
   exact ⟨rfl, rfl, trivial⟩
theorem math_bits_Len_c {Fs : List Hp} {G : Hp} {x0 : Int} {r : Int} (hG : G ∈ Fs)  (h : math_bits_Len x0 = some r) : RetS Tryz.prog 151 #[.int .u64 x0] Fs [] [] (fun v bo so => v = .int .i64 r ∧ bo = [] ∧ so = []) := by
 unfold math_bits_Len at h
 try dsimp only at h
 refine RetS.of (vs := [_]) Tryz.func151 rfl Tryz.ntmps151 [(0, _)] ⟨rfl, trivial⟩ rfl hG fun w0 S0 hS0 B0 => ?_
 refine .seq ?_;refine .region rfl ?_;refine .av rfl rfl ?_;refine .re ?_;refine .seq ?_;refine .cond_false rfl ?_;refine .skip ?_;refine .seq ?_;refine .region rfl ?_
 refine .mv rfl rfl ?_
 obtain ⟨u1, hu1, r2⟩ := bind_some h; clear h
 refine .callS (b1 := []) (b2 := []) (s1 := []) [_] [] .ro rfl rfl Tryz.call169 rfl rfl (math_bits_Len64_c (G := G) List.mem_cons_self  hu1) rfl (fun v4 bo so h3 => ?_)
 obtain ⟨rfl, rfl, rfl⟩ := h3
 refine .same (bl' := []) (sl' := []) rfl rfl rfl ?_;refine .av rfl rfl ?_;refine .re ?_
 cases r2
 refine .retS (c := ⟨151, none⟩) (.inr ⟨_, rfl⟩) [.tmp 2] [_] rfl Tryz.func151 Tryz.results151 ⟨RV.tmp rfl, trivial⟩ mcm ⟨rfl, rfl, rfl⟩
end Go.Proofs.YtfcicopgdahmcaaGreatDoor
end

section
set_option maxHeartbeats 4000000
set_option maxRecDepth 100000
namespace Go.Proofs.YtfcicopgdahmcaaGreatDoor
open Go.RowKit
set_option linter.unusedSimpArgs false
set_option linter.unusedVariables false
set_option synthInstance.maxSize 2000
set_option synthInstance.maxHeartbeats 400000
theorem slices_pdqsortOrdered_int_R_c (n : Nat) : ∀ {Fs : List Hp} {G : Hp} {a0 : Option Addr} {k0 : Nat} {x0 : List Int} {cc0 : List Value} {bb0 : Option Nat} {pre0 post0 : List Value} {x1 : Int} {x2 : Int} {x3 : Int} {r : (List Int)} (hG : G ∈ Fs) (vva0 : VA a0 bb0 x0.length k0 pre0 cc0) (oo0 : OL (Rep.int .i64) G cc0 x0) (h : slices_pdqsortOrdered_int_R n x0 x1 x2 x3 = some r), RetS Tryz.prog 150 #[.slice a0 x0.length k0, .int .i64 x1, .int .i64 x2, .int .i64 x3] Fs [] [.g (viewG bb0 3 pre0 cc0 post0)] (fun v bo so => ∃ lc0 : List Value, v = .tuple #[] ∧ bo = [] ∧ so = [.g (viewG bb0 3 pre0 lc0 post0)] ∧ OL (Rep.int .i64) G lc0 r ∧ r.length = x0.length) := by
 induction n with
 | zero => intro Fs G a0 k0 x0 cc0 bb0 pre0 post0 x1 x2 x3 r hG vva0 oo0 h; exact absurd h (by unfold slices_pdqsortOrdered_int_R; simp)
 | succ n ih =>
  intro Fs G a0 k0 x0 cc0 bb0 pre0 post0 x1 x2 x3 r hG vva0 oo0 h
  unfold slices_pdqsortOrdered_int_R at h
  unfold slices_pdqsortOrdered_int_B2 at h
  try dsimp only at h
  refine RetS.of (vs := [_, _, _, _]) Tryz.func150 rfl Tryz.ntmps150 [(0, _), (1, _), (2, _), (3, _)] ⟨rfl, rfl, rfl, rfl, trivial⟩ rfl hG fun w0 S0 hS0 B0 => ?_
  refine .seq ?_;refine .region rfl ?_;refine .av rfl rfl ?_;refine .re ?_;refine .seq ?_;refine .region rfl ?_;refine .av rfl rfl ?_;refine .re ?_;refine .block ?_
  refine .loop2 (α := Nat) (fun y => []) [(0, _), (1, _), (2, _), (3, _), (8, _), (9, _)] (fun y => []) (fun y => []) [] (fun y => []) [_] (fun y => slices_pdqsortOrdered_int_L1 x1 x2 x0 y  = some r) (fun y => y) (big) h ⟨rfl, rfl, rfl, rfl, rfl, rfl, trivial⟩ rfl rfl rfl (fun n20 hI hb23 => ?_)
  have r22 := hI; clear hI
  refine .prune [(0, _), (1, _), (2, _), (3, _), (8, _), (9, _)] ⟨rfl, rfl, rfl, rfl, rfl, rfl, trivial⟩ ?_;refine .same (bl' := []) (sl' := [_]) (Fs' := G :: Fs) rfl rfl rfl ?_
  obtain ⟨m29, rfl⟩ : ∃ m, n20 = m + 1 := by cases n20 with | zero => exact absurd (show (none : Option _) = some _ from r22) (by simp) | succ m => exact ⟨m, rfl⟩
  have r28 : slices_pdqsortOrdered_int_B1 x1 x2 x0 (slices_pdqsortOrdered_int_L1 x1 x2 x0 m29)  = some r := r22; clear r22; unfold slices_pdqsortOrdered_int_B1 at r28; try dsimp only at r28
  refine .block ?_;refine .seq ?_;refine .region rfl ?_;refine .mv rfl rfl ?_;refine .mv rfl rfl ?_;refine .q .ro (.subw rfl rfl) rfl ?_;refine .av rfl rfl ?_;refine .re ?_;refine .seq ?_
  refine .seq ?_;refine .region rfl ?_;refine .mv rfl rfl ?_;refine .q .ro (.leq rfl rfl) rfl ?_;refine .re ?_
  refine .cond_dec rfl (fun c30 => ?_) (fun c30 => ?_)
  ·have r31 := ifT r28 c30; clear r28
   refine .seq ?_;refine .region rfl ?_;refine .mv rfl rfl ?_;refine .mv rfl rfl ?_;refine .mv rfl rfl ?_
   obtain ⟨u32, hu32, r33⟩ := bind_some r31; clear r31
   refine .callS (b1 := []) (b2 := []) (s1 := [_]) [_, _, _] [] .ro rfl rfl Tryz.call159 rfl rfl (slices_insertionSortOrdered_int_c (G := G) List.mem_cons_self vva0 oo0 hu32) rfl (fun v35 bo so h34 => ?_)
   obtain ⟨cs36, rfl, rfl, rfl, o37, hl38⟩ := h34
   refine .same (bl' := []) (sl' := [_]) rfl rfl rfl ?_
   have va40 := VA.call vva0 oo0 o37 hl38
   refine .reval 0 hl38 rfl ?_;refine .reval 24 hl38 rfl ?_;refine .re ?_;refine .prune [] trivial ?_
   cases r33
   refine .retS (c := ⟨150, none⟩) (.inr ⟨_, rfl⟩) [] [] rfl Tryz.func150 Tryz.results150 trivial mcm ⟨cs36, rfl, rfl, rfl, o37, hl38⟩
  ·have r41 := ifF r28 c30; clear r28
   exact absurd r41 (by simp)
theorem slices_pdqsortOrdered_int_c {Fs : List Hp} {G : Hp} {a0 : Option Addr} {k0 : Nat} {x0 : List Int} {cc0 : List Value} {bb0 : Option Nat} {pre0 post0 : List Value} {x1 : Int} {x2 : Int} {x3 : Int} {r : (List Int)} (hG : G ∈ Fs) (vva0 : VA a0 bb0 x0.length k0 pre0 cc0) (oo0 : OL (Rep.int .i64) G cc0 x0) (h : slices_pdqsortOrdered_int x0 x1 x2 x3 = some r) : RetS Tryz.prog 150 #[.slice a0 x0.length k0, .int .i64 x1, .int .i64 x2, .int .i64 x3] Fs [] [.g (viewG bb0 3 pre0 cc0 post0)] (fun v bo so => ∃ lc0 : List Value, v = .tuple #[] ∧ bo = [] ∧ so = [.g (viewG bb0 3 pre0 lc0 post0)] ∧ OL (Rep.int .i64) G lc0 r ∧ r.length = x0.length) := by
 unfold slices_pdqsortOrdered_int at h
 exact slices_pdqsortOrdered_int_R_c big hG vva0 oo0 h
theorem slices_Sort_Lintint_c {Fs : List Hp} {G : Hp} {a0 : Option Addr} {k0 : Nat} {x0 : List Int} {cc0 : List Value} {bb0 : Option Nat} {pre0 post0 : List Value} {r : (List Int)} (hG : G ∈ Fs) (vva0 : VA a0 bb0 x0.length k0 pre0 cc0) (oo0 : OL (Rep.int .i64) G cc0 x0) (h : slices_Sort_Lintint x0 = some r) : RetS Tryz.prog 129 #[.slice a0 x0.length k0] Fs [] [.g (viewG bb0 3 pre0 cc0 post0)] (fun v bo so => ∃ lc0 : List Value, v = .tuple #[] ∧ bo = [] ∧ so = [.g (viewG bb0 3 pre0 lc0 post0)] ∧ OL (Rep.int .i64) G lc0 r ∧ r.length = x0.length) := by
 unfold slices_Sort_Lintint at h
 try dsimp only at h
 refine RetS.of (vs := [_]) Tryz.func129 rfl Tryz.ntmps129 [(0, _)] ⟨rfl, trivial⟩ rfl hG fun w0 S0 hS0 B0 => ?_
 refine .seq ?_;refine .region rfl ?_;refine .mv rfl rfl ?_;refine .q .ro (.len_sl rfl rfl sl22) rfl ?_;refine .av rfl rfl ?_;refine .re ?_;refine .region rfl ?_;refine .mv rfl rfl ?_;refine .mv rfl rfl ?_
 refine .mv rfl rfl ?_;refine .q .ro (.convw Tryz.underlying3 Tryz.underlying212 rfl) rfl ?_
 obtain ⟨u2, hu2, r3⟩ := bind_some h; clear h
 refine .callS (b1 := []) (b2 := []) (s1 := []) [_] [] .ro rfl rfl Tryz.call151 rfl rfl (math_bits_Len_c (G := G) List.mem_cons_self  hu2) rfl (fun v5 bo so h4 => ?_)
 obtain ⟨rfl, rfl, rfl⟩ := h4
 refine .same (bl' := []) (sl' := [_]) rfl rfl rfl ?_
 obtain ⟨u6, hu6, r7⟩ := bind_some r3; clear r3
 refine .callS (b1 := []) (b2 := []) (s1 := [_]) [_, _, _, _] [] .ro rfl rfl Tryz.call150 rfl rfl (slices_pdqsortOrdered_int_c (G := G) List.mem_cons_self vva0 oo0 hu6) rfl (fun v9 bo so h8 => ?_)
 obtain ⟨cs10, rfl, rfl, rfl, o11, hl12⟩ := h8
 refine .same (bl' := []) (sl' := [_]) rfl rfl rfl ?_
 have va14 := VA.call vva0 oo0 o11 hl12
 refine .reval 0 hl12 rfl ?_;refine .reval 3 hl12 rfl ?_;refine .reval 5 hl12 rfl ?_;refine .re ?_
 cases r7
 refine .retS (c := ⟨129, none⟩) (.inl rfl) [] [] rfl Tryz.func129 Tryz.results129 trivial mcm ⟨cs10, rfl, rfl, rfl, o11, hl12⟩
end Go.Proofs.YtfcicopgdahmcaaGreatDoor
end
