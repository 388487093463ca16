/- What the proof needs, gathered by wip/gen/shake.py. -/
import Derived.Calls
import Derived.Deep.Quiet
import Derived.Below
import Derived.Laws.AppendOwn
import Derived.WalkKit
import Derived.Laws.OwnMore
import Derived.Deep.Slices
import Derived.ChangeOld
import Derived.ArgAppend
import Derived.RangeFuncIn
import Derived.RangeFuncRecord
import Derived.RangeFuncLeaves
import Derived.Laws.MakeOwn
import Derived.IntWalk
import Derived.Laws.IdiomStrings
import Derived.Laws.Cover3
import Derived.Laws.CopyOwn
import Derived.MapKept
import Derived.RangeFuncNested
import Derived.Test.YtfcicopgdahmcaaGreatDoorRows
import Derived.LaidEql
import Derived.Stop.Asserts
import Derived.RowKitTokens
import Derived.Test.YtfcicopgdahmcaaGreatDoorCards
import Derived.LaidLaws
import Derived.Look8
import Derived.MakeChecks
import Derived.Test.YtfcicopgdahmcaaGreatDoorTie
import Derived.LaidMore
import Derived.Lay
import Derived.SevenTiedAt
import Derived.Stop.Joined
import Derived.ProofKit
import Derived.OpenShut
import Derived.ShutString
import Derived.Test.YtfcicopgdahmcaaGreatDoorTopRangesQ3

section
set_option maxHeartbeats 4000000
set_option maxRecDepth 100000
namespace Go.Proofs.YtfcicopgdahmcaaGreatDoor
open Go.RowKit
set_option linter.unusedSimpArgs false
set_option linter.unusedVariables false
set_option synthInstance.maxSize 2000
set_option synthInstance.maxHeartbeats 400000
theorem curve_Queries_c {Fs : List Hp} {G : Hp} {x0_0 : Int} {x1_0 : Int} {x1_1 : Int} {x2 : Int} {x3 : Int} {a4_0 : Option Addr} {k4_0 : Nat} {x4_0 : List Int} {x4_1 : Int} {r : ((List (List Int)) × ((List Int) × Int) × Int)} (hG : G ∈ Fs) (s4_0 : SlR (Rep.int .i64) G a4_0 k4_0 x4_0) (h : curve_Queries x0_0 (x1_0, x1_1) x2 x3 (x4_0, x4_1) = some r) : RetW Tryz.prog 49 #[.agg #[.int .i64 x0_0], .agg #[.int .i64 x1_0, .int .i64 x1_1], .int .i64 x2, .int .i64 x3, .agg #[.slice a4_0 x4_0.length k4_0, .int .i64 x4_1]] Fs [] [] (fun v bo so G => ∃ a0 : Option Addr, ∃ k0 : Nat, ∃ a1 : Option Addr, ∃ k1 : Nat, v = .tuple #[.slice a0 r.1.length k0, .agg #[.slice a1 r.2.1.1.length k1, .int .i64 r.2.1.2], .int .i64 r.2.2] ∧ bo = [] ∧ so = [] ∧ SlR (Rep.sl (Rep.int .i64)) G a0 k0 r.1 ∧ SlR (Rep.int .i64) G a1 k1 r.2.1.1) := by
 unfold curve_Queries at h
 try dsimp only at h
 refine RetW.of (vs := [_, _, _, _, _]) Tryz.func49 rfl Tryz.ntmps49 [(0, _), (1, _), (2, _), (3, _), (4, _)] ⟨rfl, rfl, rfl, rfl, rfl, trivial⟩ rfl hG fun w0 S0 hS0 B0 => ?_
 refine .seq ?_;refine .region rfl ?_
 refine .box [_] .ro rfl rfl rfl (fun b1 hb1 => ?_)
 refine .box [_, _] .ro rfl rfl rfl (fun b2 hb2 => ?_)
 refine .box [_, _] .ro rfl rfl rfl (fun b3 hb3 => ?_)
 refine .av rfl rfl ?_
 refine .alloc .ro ty56 rfl (fun b4 hb4 => ?_)
 refine .av rfl rfl ?_;refine .re ?_;refine .seq ?_;refine .seq ?_;refine .region rfl ?_;refine .q .ro (.load_own_a 3 [_] rfl rfl ty45 rfl) rfl ?_;refine .q .ro (.load_own_a 2 [_, _] rfl rfl ty69 rfl) rfl ?_;refine .mv rfl rfl ?_
 obtain ⟨u5, hu5, r6⟩ := bind_some h; clear h
 refine .callS (b1 := []) (b2 := [_, _, _, _]) (s1 := []) [_, _, _] [] .ro rfl rfl Tryz.call111 rfl rfl (curve_check_c (G := G) List.mem_cons_self  hu5) rfl (fun v8 bo so h7 => ?_)
 obtain ⟨rfl, rfl, rfl⟩ := h7
 refine .same (bl' := [_, _, _, _]) (sl' := []) rfl rfl rfl ?_;refine .av rfl rfl ?_;refine .re ?_;refine .seq ?_;refine .region rfl ?_;refine .mv rfl rfl ?_;refine .q .ro (.neq rfl rfl) rfl ?_;refine .re ?_
 refine .cond_dec rfl (fun c9 => ?_) (fun c9 => ?_)
 ·have r10 := ifT r6 c9; clear r6
  refine .seq ?_;refine .region rfl ?_;refine .q .ro (.build [_, _] [] ty56 pl56 rfl rfl) rfl ?_;refine .mv rfl rfl ?_;refine .av rfl rfl ?_;refine .store 0 [_, _] [_, _, _, _] .ro rfl rfl rfl ty56 rfl rfl rfl rfl ?_;refine .av rfl rfl ?_;refine .re ?_;refine .prune [(10, _), (11, _), (12, _)] ⟨rfl, rfl, rfl, trivial⟩ ?_
  cases r10
  refine .retWD 4 (c := ⟨49, none⟩) (.inr ⟨_, rfl⟩) [.tmp 10, .cell 11 56, .tmp 12] [_, _, _] rfl Tryz.func49 Tryz.results49 ⟨RV.tmp rfl, RV.cell_a 0 [_, _] rfl rfl ty56 rfl, RV.tmp rfl, trivial⟩ mcm List.mem_cons_self B0 (by subst hS0; simp [blks]) (fun G' hg => ⟨none, 0, none, 0, rfl, rfl, rfl, (SlR.mono hg (SlR.nil (Rp' := (Rep.sl (Rep.int .i64))))), (SlR.mono hg (SlR.nil (Rp' := (Rep.int .i64))))⟩)
 ·have r11 := ifF r6 c9; clear r6
  refine .skip ?_;refine .seq ?_;refine .seq ?_;refine .region rfl ?_;refine .mv rfl rfl ?_;refine .q .ro (.lss rfl rfl) rfl ?_;refine .mv rfl rfl ?_;refine .cutR 4 (β := Unit) (fun y => [(39, .bool (decide ((x3 < 0) ∨ (x2 ≤ x3))))]) [(2, _), (3, _), (5, _), (6, _), (9, _), (11, _)] (fun y => G :: Fs) (fun y => []) [_, _, _, _] (fun y => []) [] (fun y => True) ⟨rfl, rfl, rfl, rfl, rfl, rfl, trivial⟩ [0, 1, 2, 3] rfl [] rfl ?_ ?_
  ·rintro _ _
   refine .prune [(39, .bool (decide ((x3 < 0) ∨ (x2 ≤ x3)))), (2, _), (3, _), (5, _), (6, _), (9, _), (11, _)] ⟨rfl, rfl, rfl, rfl, rfl, rfl, rfl, trivial⟩ ?_;refine .same (bl' := [_, _, _, _]) (sl' := []) (Fs' := G :: Fs) rfl rfl rfl ?_;refine .re ?_
   refine .cond_dec rfl (fun c16 => ?_) (fun c16 => ?_)
   ·have r17 := ifT r11 c16; clear r11
    refine .seq ?_;refine .region rfl ?_;refine .q .ro (.build [_, _] [] ty56 pl56 rfl rfl) rfl ?_;refine .av rfl rfl ?_;refine .store 0 [_, _] [_, _, _, _] .ro rfl rfl rfl ty56 rfl rfl rfl rfl ?_;refine .av rfl rfl ?_;refine .re ?_
    cases r17
    refine .retWD 4 (c := ⟨49, none⟩) (.inr ⟨_, rfl⟩) [.tmp 10, .cell 11 56, .tmp 12] [_, _, _] rfl Tryz.func49 Tryz.results49 ⟨RV.tmp rfl, RV.cell_a 0 [_, _] rfl rfl ty56 rfl, RV.tmp rfl, trivial⟩ mcm List.mem_cons_self B0 (by subst hS0; simp [blks]) (fun G' hg => ⟨none, 0, none, 0, rfl, rfl, rfl, (SlR.mono hg (SlR.nil (Rp' := (Rep.sl (Rep.int .i64))))), (SlR.mono hg (SlR.nil (Rp' := (Rep.int .i64))))⟩)
   ·have r18 := ifF r11 c16; clear r11
    refine .skip ?_;refine .seq ?_;refine .region rfl ?_;refine .q .ro (.load_own_a 1 [_, _] rfl rfl ty56 rfl) rfl ?_;refine .q .ro (.fieldAddr 0 rfl fl45_0 ty3.sz rfl) rfl ?_;refine .q .ro (.load_own 3 rfl rfl ty3 rfl) rfl ?_;refine .mv rfl rfl ?_;refine .q .ro (.fieldAddr 1 rfl fl69_1 ty3.sz rfl) rfl ?_;refine .q .ro (.load_own 2 rfl rfl ty3 rfl) rfl ?_
    refine .q .ro (.mulw rfl rfl) rfl ?_
    obtain ⟨u19, hu19, r20⟩ := bind_some r18; clear r18
    refine .callW (b1 := []) (b2 := [_, _, _, _]) (s1 := []) [_, _, _] [] .ro rfl rfl Tryz.call65 rfl rfl (tape_Draws_c (G := G) List.mem_cons_self s4_0 hu19) rfl B0 (fun v22 bo so G23 e24 B25 h21 => ?_)
    obtain ⟨a27, k28, a31, k32, cs33, rfl, rfl, rfl, s29, o34⟩ := h21
    refine .same (bl' := [_, _, _, _]) (sl' := [_]) rfl rfl rfl ?_;refine .mv rfl rfl ?_;refine .q .ro (.extract rfl rfl) rfl ?_;refine .q .ro (.extract rfl rfl) rfl ?_;refine .q .ro (.extract rfl rfl) rfl ?_
    refine .alloc .ro ty56 rfl (fun b35 hb35 => ?_)
    refine .store 0 [_, _] [_, _, _, _, _] .ro rfl rfl rfl ty56 rfl rfl rfl rfl ?_;refine .av rfl rfl ?_;refine .av rfl rfl ?_;refine .re ?_;refine .prune [(2, _), (3, _), (5, _), (6, _), (9, _), (11, _), (15, _), (16, _)] ⟨rfl, rfl, rfl, rfl, rfl, rfl, rfl, rfl, trivial⟩ ?_;refine .seq ?_;refine .seq ?_;refine .region rfl ?_;refine .mv rfl rfl ?_
    refine .q .ro (.neq rfl rfl) rfl ?_;refine .re ?_
    refine .cond_dec rfl (fun c36 => ?_) (fun c36 => ?_)
    ·have r37 := ifT r20 c36; clear r20
     refine .seq ?_;refine .region rfl ?_;refine .q .ro (.build [_, _] [] ty56 pl56 rfl rfl) rfl ?_;refine .mv rfl rfl ?_;refine .av rfl rfl ?_;refine .store 1 [_, _] [_, _, _, _, _] .ro rfl rfl rfl ty56 rfl rfl rfl rfl ?_;refine .av rfl rfl ?_;refine .re ?_
     cases r37
     refine .drop 0 1 _ [] rfl rfl ?_
     refine .retWD 5 (c := ⟨49, none⟩) (.inr ⟨_, rfl⟩) [.tmp 10, .cell 11 56, .tmp 12] [_, _, _] rfl Tryz.func49 Tryz.results49 ⟨RV.tmp rfl, RV.cell_a 1 [_, _] rfl rfl ty56 rfl, RV.tmp rfl, trivial⟩ mcm List.mem_cons_self B25 (by subst hS0; simp [blks]) (fun G' hg => ⟨none, 0, none, 0, rfl, rfl, rfl, (SlR.mono hg (SlR.nil (Rp' := (Rep.sl (Rep.int .i64))))), (SlR.mono hg (SlR.nil (Rp' := (Rep.int .i64))))⟩)
    ·have r38 := ifF r20 c36; clear r20
     refine .skip ?_;refine .seq ?_;refine .region rfl ?_;refine .q .ro (.fieldAddr 0 rfl fl69_0 ty3.sz rfl) rfl ?_;refine .q .ro (.load_own 3 rfl rfl ty3 rfl) rfl ?_
     obtain ⟨u39, hu39, r40⟩ := bind_some r38; clear r38
     refine .makeN (G := G23) (Q := (Rep.int .i64)) 3 1 .ro sl51 ty22 rfl rfl hu39 rfl rfl (fun b41 es42 cs43 hb41 o44 => ?_)
     refine .av rfl rfl ?_;refine .re ?_;refine .seq ?_;refine .seq ?_;refine .region rfl ?_;refine .mv rfl rfl ?_;refine .mv rfl rfl ?_;refine .re ?_;refine .cutB (β := Hp × List Int × Option Addr × Nat × List (List Int) × List NE × List Value × Int × Int × Int × Int × Int × Int) (fun y => [(15, .slice y.2.2.1 y.2.1.length y.2.2.2.1), (17, .slice (some ⟨b41, 0, none⟩) y.2.2.2.2.1.length u39.length)]) [(9, _), (11, _)] (fun y => y.1 :: Fs) (fun y => [(b35, .cells #[.slice a27 u19.1.1.length k28, .int .i64 y.2.2.2.2.2.2.2.1] 56 (0, 0)), (b4, .cells #[.slice none 0 0, .int .i64 y.2.2.2.2.2.2.2.2.1] 56 (0, 0)), (b3, .cells #[.slice a4_0 x4_0.length k4_0, .int .i64 y.2.2.2.2.2.2.2.2.2.1] 56 (0, 0)), (b2, .cells #[.int .i64 y.2.2.2.2.2.2.2.2.2.2.1, .int .i64 y.2.2.2.2.2.2.2.2.2.2.2.1] 69 (0, 0)), (b1, .cells #[.int .i64 y.2.2.2.2.2.2.2.2.2.2.2.2] 45 (0, 0))]) [] (fun y => [.s (.slice (some ⟨b41, 0, none⟩) y.2.2.2.2.1.length u39.length) 22 1 y.2.2.2.2.1.length y.2.2.2.2.2.2.1, .g (packG 3 1 y.2.2.2.2.2.1)]) [] (fun y => HpLe G23 y.1 ∧ Bd w0 S0 Fs y.1 ∧ SlR (Rep.int .i64) y.1 y.2.2.1 y.2.2.2.1 y.2.1 ∧ NL (Rep.int .i64) y.1 y.2.2.2.2.2.1 y.2.2.2.2.2.2.1 y.2.2.2.2.1 ∧ y.2.2.2.2.1.length = u39.length ∧ (curve_Queries_J1 x4_0) y.2.1 y.2.2.2.2.1 y.2.2.2.2.2.2.2.1 y.2.2.2.2.2.2.2.2.1 y.2.2.2.2.2.2.2.2.2.1 y.2.2.2.2.2.2.2.2.2.2.1 y.2.2.2.2.2.2.2.2.2.2.2.1 y.2.2.2.2.2.2.2.2.2.2.2.2 = some r) ⟨rfl, rfl, trivial⟩ [] rfl [] rfl ?_ ?_
     ·intro y hI
      obtain ⟨G14, v15, a26, k30, v46, es47, cs48, v50, v52, v53, v54, v55, v57⟩ := y
      obtain ⟨e58, B59, s60, o61, hl62, r63⟩ := hI
      try dsimp only at e58 B59 s60 o61 hl62 r63
      refine .prune [(15, .slice a26 v15.length k30), (17, .slice (some ⟨b41, 0, none⟩) v46.length u39.length), (9, _), (11, _)] ⟨rfl, rfl, rfl, rfl, trivial⟩ ?_;refine .same (bl' := [(b35, .cells #[.slice a27 u19.1.1.length k28, .int .i64 v50] 56 (0, 0)), (b4, .cells #[.slice none 0 0, .int .i64 v52] 56 (0, 0)), (b3, .cells #[.slice a4_0 x4_0.length k4_0, .int .i64 v53] 56 (0, 0)), (b2, .cells #[.int .i64 v54, .int .i64 v55] 69 (0, 0)), (b1, .cells #[.int .i64 v57] 45 (0, 0))]) (sl' := [.s (.slice (some ⟨b41, 0, none⟩) v46.length u39.length) 22 1 v46.length cs48, .g (packG 3 1 es47)]) (Fs' := G14 :: Fs) rfl rfl rfl ?_
      unfold curve_Queries_J1 at r63
      try dsimp only at r63
      refine .seq ?_;refine .region rfl ?_;refine .q .ro (.fieldAddr 0 rfl fl56_0 ty22.sz rfl) rfl ?_;refine .q .ro (.load_own 2 rfl rfl ty22 rfl) rfl ?_;refine .own_nil 3 1 ?_
      obtain ⟨u66, hu66, r67⟩ := bind_some r63; clear r63
      refine .appR (Q := (Rep.int .i64)) 0 .ro sl22 ty3 rfl rfl rfl rfl rfl (OL.nil (Rp' := (Rep.int .i64))) rfl rfl (SlR.mono (HpLe.trans e24 e58) s4_0) rfl List.mem_cons_self hu66 rfl (fun a68 k70 cs71 o72 => ?_)
      refine .q .ro (.fieldAddr 0 rfl fl56_0 ty22.sz rfl) rfl ?_;refine .store 2 [_, _] [_, _, _, _, _] .ro rfl rfl rfl ty22 rfl rfl rfl rfl ?_;refine .re ?_;refine .seq ?_;refine .region rfl ?_;refine .q .ro (.fieldAddr 1 rfl fl56_1 ty3.sz rfl) rfl ?_;refine .q .ro (.load_own 2 rfl rfl ty3 rfl) rfl ?_;refine .mv rfl rfl ?_;refine .q .ro (.len_sl rfl rfl sl22) rfl ?_
      refine .q .ro (.addw rfl rfl) rfl ?_;refine .q .ro (.fieldAddr 1 rfl fl56_1 ty3.sz rfl) rfl ?_;refine .store 2 [_, _] [_, _, _, _, _] .ro rfl rfl rfl ty3 rfl rfl rfl rfl ?_;refine .re ?_;refine .seq ?_;refine .drawL (.q 0 (.q 1 (.q 2 (.e 3 1 (.q 4 .nil))))) [_, _, _, _] (by kernel_rfl) (by kernel_rfl) (pick_mem [0, 2, 3, 4] rfl) ?_;refine .dq (.move rfl) rfl ?_;refine .dq (.load_own_a 1 [_, _] rfl rfl ty56 rfl) rfl ?_;refine .dq (.assign rfl) rfl ?_
      refine .store 1 [_, _] [_, _, _, _, _] .d1 rfl rfl rfl ty56 rfl rfl rfl rfl ?_;refine .clsL (HpLe.refl _) (pick_mem [0, 2, 3, 4] rfl) ?_;refine .dq (.assign rfl) rfl ?_;refine .draw_end ?_;refine .prune [(11, _), (10, _), (12, _)] ⟨rfl, rfl, rfl, trivial⟩ ?_;refine .pullS 2 rfl [_, _, _] rfl ?_;refine .pullS 2 rfl [_, _, _] rfl ?_
      refine .freezeN (Q := (Rep.int .i64)) rfl o61 rfl B59 (fun G73 e74 B75 s76 => ?_)
      refine .freezeR 0 rfl rfl (OL.mono e74 o72) [] rfl B75 (fun G77 e78 B79 s80 => ?_)
      cases r67
      refine .retWD 5 (c := ⟨49, none⟩) (.inr ⟨_, rfl⟩) [.tmp 10, .cell 11 56, .tmp 12] [_, _, _] rfl Tryz.func49 Tryz.results49 ⟨RV.tmp rfl, RV.cell_a 1 [_, _] rfl rfl ty56 rfl, RV.tmp rfl, trivial⟩ mcm List.mem_cons_self B79 (by subst hS0; simp [blks]) (fun G' hg => ⟨(some ⟨b41, 0, none⟩), u39.length, a68, k70, rfl, rfl, rfl, (SlR.mono hg (SlR.mono e78 s76)), (SlR.mono hg s80)⟩)
     ·intro hb82
      refine .block ?_
      refine .freezeR 2 rfl rfl o34 [_, _] rfl B25 (fun G83 e84 B85 s86 => ?_)
      refine .pull 4 rfl [_, _, _, _, _] rfl ?_;refine .pull 4 rfl [_, _, _, _, _] rfl ?_;refine .pull 4 rfl [_, _, _, _, _] rfl ?_;refine .pull 4 rfl [_, _, _, _, _] rfl ?_;refine .pull 4 rfl [_, _, _, _, _] rfl ?_;refine .pullS 1 rfl [_, _] rfl ?_;refine .pullS 1 rfl [_, _] rfl ?_
      refine .loop2 (α := Nat × Hp × Int × List (List Int) × List NE × List Value × Int × Int × Int × Int × Int × Int) (fun y => [(61, .int .i64 y.2.2.1), (17, .slice (some ⟨b41, 0, none⟩) y.2.2.2.1.length u39.length)]) [(3, _), (5, _), (6, _), (9, _), (11, _), (15, _), (60, _)] (fun y => [y.2.1]) (fun y => [(b35, .cells #[.slice a27 u19.1.1.length k28, .int .i64 y.2.2.2.2.2.2.1] 56 (0, 0)), (b4, .cells #[.slice none 0 0, .int .i64 y.2.2.2.2.2.2.2.1] 56 (0, 0)), (b3, .cells #[.slice a4_0 x4_0.length k4_0, .int .i64 y.2.2.2.2.2.2.2.2.1] 56 (0, 0)), (b2, .cells #[.int .i64 y.2.2.2.2.2.2.2.2.2.1, .int .i64 y.2.2.2.2.2.2.2.2.2.2.1] 69 (0, 0)), (b1, .cells #[.int .i64 y.2.2.2.2.2.2.2.2.2.2.2] 45 (0, 0))]) [] (fun y => [.s (.slice (some ⟨b41, 0, none⟩) y.2.2.2.1.length u39.length) 22 1 y.2.2.2.1.length y.2.2.2.2.2.1, .g (packG 3 1 y.2.2.2.2.1)]) [] (fun y => HpLe G83 y.2.1 ∧ Bd w0 S0 Fs y.2.1 ∧ NL (Rep.int .i64) y.2.1 y.2.2.2.2.1 y.2.2.2.2.2.1 y.2.2.2.1 ∧ y.2.2.2.1.length = u39.length ∧ curve_Queries_L5 (curve_Queries_J1 x4_0) x3 u19.2.1 x2 y.1 y.2.2.1 y.2.2.2.1 y.2.2.2.2.2.2.1 y.2.2.2.2.2.2.2.1 y.2.2.2.2.2.2.2.2.1 y.2.2.2.2.2.2.2.2.2.1 y.2.2.2.2.2.2.2.2.2.2.1 y.2.2.2.2.2.2.2.2.2.2.2 = some r) (fun y => y.1) (big, G83, 0, u39, es42, cs43, u19.1.2, 0, x4_1, x1_0, x1_1, x0_0) ⟨(HpLe.refl _), B85, (NL.mono e84 o44), rfl, r40⟩ ⟨rfl, rfl, rfl, rfl, rfl, rfl, rfl, rfl, rfl, trivial⟩ rfl rfl rfl (fun y hI hb87 => ?_)
      obtain ⟨n88, G89, v90, v91, es92, cs93, v94, v95, v96, v97, v98, v99⟩ := y
      obtain ⟨e100, B101, o102, hl103, r104⟩ := hI
      try dsimp only at e100 B101 o102 hl103 r104
      refine .prune [(61, .int .i64 v90), (17, .slice (some ⟨b41, 0, none⟩) v91.length u39.length), (3, _), (5, _), (6, _), (9, _), (11, _), (15, _), (60, _)] ⟨rfl, rfl, rfl, rfl, rfl, rfl, rfl, rfl, rfl, trivial⟩ ?_;refine .same (bl' := [(b35, .cells #[.slice a27 u19.1.1.length k28, .int .i64 v94] 56 (0, 0)), (b4, .cells #[.slice none 0 0, .int .i64 v95] 56 (0, 0)), (b3, .cells #[.slice a4_0 x4_0.length k4_0, .int .i64 v96] 56 (0, 0)), (b2, .cells #[.int .i64 v97, .int .i64 v98] 69 (0, 0)), (b1, .cells #[.int .i64 v99] 45 (0, 0))]) (sl' := [.s (.slice (some ⟨b41, 0, none⟩) v91.length u39.length) 22 1 v91.length cs93, .g (packG 3 1 es92)]) (Fs' := G89 :: Fs) rfl rfl rfl ?_
      obtain ⟨m105, rfl⟩ : ∃ m, n88 = m + 1 := by cases n88 with | zero => exact absurd (show (none : Option _) = some _ from r104) (by simp) | succ m => exact ⟨m, rfl⟩
      have r106 : curve_Queries_B5 (curve_Queries_J1 x4_0) x3 u19.2.1 x2 (curve_Queries_L5 (curve_Queries_J1 x4_0) x3 u19.2.1 x2 m105) v90 v91 v94 v95 v96 v97 v98 v99 = some r := r104; clear r104; unfold curve_Queries_B5 at r106; try dsimp only at r106
      refine .seq ?_;refine .region rfl ?_;refine .q .ro (.lss rfl rfl) rfl ?_;refine .re ?_;refine .seq ?_
      refine .cond_dec rfl (fun c107 => ?_) (fun c107 => ?_)
      ·have r108 := ifT r106 c107; clear r106
       refine .skip ?_;refine .seq ?_;refine .block ?_;refine .seq ?_;refine .region rfl ?_;refine .mv rfl rfl ?_;refine .av rfl rfl ?_;refine .re ?_;refine .seq ?_
       refine .region rfl ?_;refine .av rfl rfl ?_;refine .re ?_;refine .seq ?_;refine .seq ?_;refine .region rfl ?_;refine .mv rfl rfl ?_;refine .mv rfl rfl ?_;refine .q .ro (.eql rfl rfl) rfl ?_
       refine .re ?_;refine .cutI (β := Int) (fun y => [(19, .int .i64 y)]) [(61, _), (17, _), (3, _), (5, _), (6, _), (9, _), (11, _), (15, _), (60, _), (18, _)] (fun y => G89 :: Fs) (fun y => []) [_, _, _, _, _] (fun y => []) [_, _] (fun y => (curve_Queries_J4 (curve_Queries_L5 (curve_Queries_J1 x4_0) x3 u19.2.1 x2 m105) v90 u19.2.1 v94 v95 v96 v97 v98 v99 v91) y = some r) ⟨rfl, rfl, rfl, rfl, rfl, rfl, rfl, rfl, rfl, rfl, trivial⟩ [0, 1, 2, 3, 4] rfl [0, 1] rfl ?_ ?_
       ·intro v109 hI
        have r110 := hI; clear hI
        refine .prune [(19, .int .i64 v109), (61, _), (17, _), (3, _), (5, _), (6, _), (9, _), (11, _), (15, _), (60, _), (18, _)] ⟨rfl, rfl, rfl, rfl, rfl, rfl, rfl, rfl, rfl, rfl, rfl, trivial⟩ ?_;refine .same (bl' := [_, _, _, _, _]) (sl' := [_, _]) (Fs' := G89 :: Fs) rfl rfl rfl ?_
        unfold curve_Queries_J4 at r110
        try dsimp only at r110
        refine .seq ?_;refine .cutG (β := Hp × (List (Int × Int)) × Option Addr × Nat × List Value × Int) (fun y => [(20, .slice y.2.2.1 y.2.1.length y.2.2.2.1), (22, .int .i64 y.2.2.2.2.2)]) [(61, _), (17, _), (3, _), (5, _), (6, _), (9, _), (11, _), (15, _), (60, _)] (fun y => y.1 :: Fs) (fun y => []) [_, _, _, _, _] (fun y => [.s (.slice y.2.2.1 y.2.1.length y.2.2.2.1) 168 2 y.2.1.length y.2.2.2.2.1]) [_, _] (fun y => HpLe G89 y.1 ∧ Bd w0 S0 Fs y.1 ∧ OL (Rep.pair (Rep.int .i64) (Rep.int .i64)) y.1 y.2.2.2.2.1 y.2.1 ∧ (curve_Queries_J3 (curve_Queries_L5 (curve_Queries_J1 x4_0) x3 u19.2.1 x2 m105) v90 v94 v95 v96 v97 v98 v99 v91) y.2.1 y.2.2.2.2.2 = some r) ⟨rfl, rfl, rfl, rfl, rfl, rfl, rfl, rfl, rfl, trivial⟩ [0, 1, 2, 3, 4] rfl [0, 1] rfl ?_ ?_
        ·intro y hI
         obtain ⟨G113, v114, a115, k116, cs117, v118⟩ := y
         obtain ⟨e119, B120, o121, r122⟩ := hI
         try dsimp only at e119 B120 o121 r122
         refine .prune [(20, .slice a115 v114.length k116), (22, .int .i64 v118), (61, _), (17, _), (3, _), (5, _), (6, _), (9, _), (11, _), (15, _), (60, _)] ⟨rfl, rfl, rfl, rfl, rfl, rfl, rfl, rfl, rfl, rfl, rfl, trivial⟩ ?_;refine .same (bl' := [_, _, _, _, _]) (sl' := [.s (.slice a115 v114.length k116) 168 2 v114.length cs117, _, _]) (Fs' := G113 :: Fs) rfl rfl rfl ?_
         unfold curve_Queries_J3 at r122
         try dsimp only at r122
         refine .seq ?_;refine .seq ?_;refine .region rfl ?_;refine .mv rfl rfl ?_;refine .q .ro (.neq rfl rfl) rfl ?_;refine .re ?_
         refine .cond_dec rfl (fun c123 => ?_) (fun c123 => ?_)
         ·have r124 := ifT r122 c123; clear r122
          refine .seq ?_;refine .region rfl ?_;refine .q .ro (.build [_, _] [] ty56 pl56 rfl rfl) rfl ?_;refine .mv rfl rfl ?_;refine .av rfl rfl ?_;refine .store 1 [_, _] [_, _, _, _, _] .ro rfl rfl rfl ty56 rfl rfl rfl rfl ?_;refine .av rfl rfl ?_;refine .re ?_;refine .prune [(11, _), (10, _), (12, _)] ⟨rfl, rfl, rfl, trivial⟩ ?_
          cases r124
          refine .drop 0 3 _ [] rfl rfl ?_
          refine .retWD 5 (c := ⟨49, none⟩) (.inr ⟨_, rfl⟩) [.tmp 10, .cell 11 56, .tmp 12] [_, _, _] rfl Tryz.func49 Tryz.results49 ⟨RV.tmp rfl, RV.cell_a 1 [_, _] rfl rfl ty56 rfl, RV.tmp rfl, trivial⟩ mcm List.mem_cons_self B120 (by subst hS0; simp [blks]) (fun G' hg => ⟨none, 0, none, 0, rfl, rfl, rfl, (SlR.mono hg (SlR.nil (Rp' := (Rep.sl (Rep.int .i64))))), (SlR.mono hg (SlR.nil (Rp' := (Rep.int .i64))))⟩)
         ·have r125 := ifF r122 c123; clear r122
          refine .skip ?_;refine .seq ?_;refine .region rfl ?_;refine .mv rfl rfl ?_;refine .q .ro (.len_sl rfl rfl sl81) rfl ?_;refine .mv rfl rfl ?_;refine .re ?_;refine .block ?_;refine .pullS 2 rfl [_, _, _] rfl ?_
          refine .pullS 2 rfl [_, _, _] rfl ?_
          refine .loop2 (α := Nat × (List (Int × Int)) × Hp × List (List Int) × List NE × List Value) (fun y => [(17, .slice (some ⟨b41, 0, none⟩) y.2.2.2.1.length u39.length), (96, .int .i64 (y.1 : Int))]) [(61, _), (3, _), (5, _), (6, _), (9, _), (11, _), (15, _), (60, _), (94, _), (95, _)] (fun y => [y.2.2.1]) (fun y => []) [_, _, _, _, _] (fun y => [.s (.slice (some ⟨b41, 0, none⟩) y.2.2.2.1.length u39.length) 22 1 y.2.2.2.1.length y.2.2.2.2.2, .g (packG 3 1 y.2.2.2.2.1)]) [_] (fun y => HpLe G113 y.2.2.1 ∧ Bd w0 S0 Fs y.2.2.1 ∧ NL (Rep.int .i64) y.2.2.1 y.2.2.2.2.1 y.2.2.2.2.2 y.2.2.2.1 ∧ y.2.2.2.1.length = u39.length ∧ List.drop y.1 v114 = y.2.1 ∧ curve_Queries_L2 (curve_Queries_L5 (curve_Queries_J1 x4_0) x3 u19.2.1 x2 m105) v90 v94 v95 v96 v97 v98 v99 y.2.1 y.1 y.2.2.2.1 = some r) (fun y => y.2.1.length) (0, v114, G113, v91, es92, cs93) ⟨(HpLe.refl _), B120, (NL.mono e119 o102), hl103, rfl, r125⟩ ⟨rfl, rfl, rfl, rfl, rfl, rfl, rfl, rfl, rfl, rfl, rfl, rfl, trivial⟩ rfl rfl rfl (fun y hI hb126 => ?_)
          obtain ⟨i127, w128, G129, v130, es131, cs132⟩ := y
          obtain ⟨e133, B134, o135, hl136, g137, r138⟩ := hI
          try dsimp only at e133 B134 o135 hl136 g137 r138
          refine .prune [(17, .slice (some ⟨b41, 0, none⟩) v130.length u39.length), (96, .int .i64 (i127 : Int)), (61, _), (3, _), (5, _), (6, _), (9, _), (11, _), (15, _), (60, _), (94, _), (95, _)] ⟨rfl, rfl, rfl, rfl, rfl, rfl, rfl, rfl, rfl, rfl, rfl, rfl, trivial⟩ ?_;refine .same (bl' := [_, _, _, _, _]) (sl' := [.s (.slice (some ⟨b41, 0, none⟩) v130.length u39.length) 22 1 v130.length cs132, .g (packG 3 1 es131), _]) (Fs' := G129 :: Fs) rfl rfl rfl ?_
          cases w128 with
          | nil =>
           rw [curve_Queries_L2] at r138; try dsimp only at r138
           refine .seq ?_;refine .region rfl ?_;refine .q .ro (.lss rfl rfl) rfl ?_;refine .re ?_;refine .seq ?_
           refine .cond_dec rfl (fun c => absurd c (drop_nil g137)) (fun _ => ?_)
           refine .exit rfl ?_;refine .inBlock ?_;refine .region rfl ?_;refine .q .ro (.addw rfl rfl) rfl ?_;refine .mv rfl rfl ?_;refine .re ?_;refine .pullS 1 rfl [_, _, _] rfl ?_;refine .pullS 1 rfl [_, _, _] rfl ?_;refine .pullS 2 rfl [_, _, _] rfl ?_
           refine .drop 0 1 _ [_, _] rfl rfl ?_
           refine .prune _ ?_ (Cov.same rfl rfl rfl (hb87 (m105, G129, (w64 (v90 + 1)), v130, es131, cs132, v94, v95, v96, v97, v98, v99) ⟨(HpLe.trans (HpLe.trans e100 e119) e133), B134, o135, hl136, r138⟩ (Nat.lt_succ_self _)))
           exact ⟨rfl, rfl, rfl, rfl, rfl, rfl, rfl, rfl, rfl, trivial⟩
          | cons x139 xs140 =>
           have r141 : curve_Queries_B2 (curve_Queries_L5 (curve_Queries_J1 x4_0) x3 u19.2.1 x2 m105) v90 v94 v95 v96 v97 v98 v99 (curve_Queries_L2 (curve_Queries_L5 (curve_Queries_J1 x4_0) x3 u19.2.1 x2 m105) v90 v94 v95 v96 v97 v98 v99 xs140 (i127 + 1)) x139 i127 v130 = some r := r138; clear r138; unfold curve_Queries_B2 at r141; try dsimp only at r141
           refine .seq ?_;refine .region rfl ?_;refine .q .ro (.lss rfl rfl) rfl ?_;refine .re ?_;refine .seq ?_
           refine .cond_dec rfl (fun _ => ?_) (fun c => absurd (drop_lt g137) c)
           refine .skip ?_;refine .seq ?_;refine .block ?_;refine .seq ?_;refine .region rfl ?_;refine .mv rfl rfl ?_
           obtain ⟨c142, p143, h144⟩ := OL.get (OL.mono e133 o121) (drop_idx g137)
           obtain ⟨_, _, rfl, rfl, rfl⟩ := h144
           refine .q .ro (.idxO 2 rfl rfl rfl (drop_idx g137) sl81 ty168.sz) rfl ?_;refine .q .ro (.loadO_a 2 0 [_, _] rfl (drop_idx g137) p143 rfl (.inl ⟨rfl, rfl⟩) ty168 rfl) rfl ?_
           refine .alloc .ro ty168 rfl (fun b145 hb145 => ?_)
           refine .av rfl rfl ?_;refine .store 0 [_, _] [_, _, _, _, _, _] .ro rfl rfl rfl ty168 rfl rfl rfl rfl ?_;refine .re ?_;refine .drawL (.q 0 (.q 1 (.q 2 (.q 3 (.q 6 (.q 7 (.alt (.e 4 1 (.alt (.e 5 1 (.e 8 1 (.e 9 1 (.e 10 2 (.e 11 2 .nil))))) (.e 8 1 (.e 5 1 (.e 9 1 (.e 10 2 (.e 11 2 .nil))))))) (.e 8 1 (.e 4 1 (.e 5 1 (.e 9 1 (.e 10 2 (.e 11 2 .nil))))))))))))) [_, _, _, _, _, _] (by kernel_rfl) (by kernel_rfl) (pick_mem [0, 1, 2, 3, 4, 5] rfl) ?_
           obtain ⟨u146, hu146, r147⟩ := bind_some r141; clear r141
           obtain ⟨u148, hu148, r149⟩ := bind_some r147; clear r147
           obtain ⟨u150, hu150, r151⟩ := bind_some r149; clear r149
           obtain ⟨u152, hu152, r153⟩ := bind_some r151; clear r151
           refine .dq (.move rfl) rfl ?_;refine .dq (.move rfl) rfl ?_;refine .dq (.move rfl) rfl ?_;refine .dq (.move rfl) rfl ?_;refine .dq (.fieldAddr 1 rfl fl168_1 ty3.sz rfl) rfl ?_;refine .dq (.load_own 0 rfl rfl ty3 rfl) rfl ?_;refine .alt ?_ ?_
           ·obtain ⟨e154, he155, hn156, ho157, p158⟩ := NL.get o135 hu146
            refine .q .d1 (.idxO 0 rfl rfl rfl hu146 sl51 ty22.sz) rfl ?_;refine .clsL (HpLe.refl _) (pick_mem [0, 1, 2, 3, 4, 5] rfl) ?_;refine .alt ?_ ?_
            ·refine .q .d1 (.loadO 0 0 rfl hu146 p158 rfl (.inl ⟨rfl, rfl⟩) ty22 rfl) rfl ?_
             refine .clsL (HpLe.refl _) (pick_mem [0, 1, 2, 3, 4, 5] rfl) ?_
             refine .lit [_] [(0, _)] .d1 sl22 ty3 rfl rfl rfl rfl rfl rfl (fun b159 hb159 => ?_)
             have o160 : OL (Rep.int .i64) G129 [.int .i64 x139.2] ([x139.2] : List Int) := ((OL.cons rfl (Rep.intI .i64 x139.2) (OL.nil (Rp' := (Rep.int .i64)))) :)
             refine .reval 109 (n' := ([x139.2] : List Int).length) rfl rfl ?_;refine .clsL (HpLe.refl _) (pick_mem [0, 1, 2, 3, 4, 5] rfl) ?_
             refine .freezeR 0 rfl rfl o160 [_, _, _] rfl B134 (fun G161 e162 B163 s164 => ?_)
             refine .takeN 1 rfl he155 hn156 ?_
             refine .appR (Q := (Rep.int .i64)) 0 .d1 sl22 ty3 rfl rfl rfl rfl rfl (OL.mono e162 ho157) rfl rfl s164 rfl List.mem_cons_self hu148 rfl (fun a165 k166 cs167 o169 => ?_)
             refine .clsL e162 (pick_mem [0, 1, 2, 3, 4, 5] rfl) ?_
             obtain ⟨e170, he171, hn172, ho173, p174⟩ := NL.get (NL.mono e162 o135) hu150
             refine .q .d2 (.idxO 1 rfl rfl rfl hu150 sl51 ty22.sz) rfl ?_
             refine .storeN 0 1 (Q := (Rep.int .i64)) .d2 rfl rfl rfl (NL.mono e162 o135) he155 o169 hu152 rfl (.inl ⟨rfl, rfl⟩) rfl ty22 rfl (fun es175 cs176 hlcs176 o177 => ?_)
             refine .reval 17 hlcs176 rfl ?_;refine .reval 101 hlcs176 rfl ?_;refine .reval 103 hlcs176 rfl ?_;refine .draw_end ?_;refine .prune [(17, _), (96, _), (61, _), (3, _), (5, _), (6, _), (9, _), (11, _), (15, _), (60, _), (94, _), (95, _)] ⟨rfl, rfl, rfl, rfl, rfl, rfl, rfl, rfl, rfl, rfl, rfl, rfl, trivial⟩ ?_;refine .inBlock ?_;refine .region rfl ?_;refine .q .ro (.addw rfl rfl) rfl ?_;refine .mv rfl rfl ?_
             refine .re ?_;refine .drop 1 0 [_, _, _, _, _] _ rfl rfl ?_
             refine .prune _ ?_ (Cov.same rfl rfl rfl (hb126 ((i127 + 1), xs140, G161, u152, es175, cs176) ⟨(HpLe.trans e133 e162), B163, o177, (hlcs176.trans hl136), (drop_succ g137), r153⟩ (Nat.lt_succ_self _)))
             exact ⟨rfl, (congrArg (fun z => some (Value.int .i64 z)) (idx_wrap (OL.len' o121) g137)), rfl, rfl, rfl, rfl, rfl, rfl, rfl, rfl, rfl, rfl, trivial⟩
            ·refine .lit [_] [(0, _)] .d1 sl22 ty3 rfl rfl rfl rfl rfl rfl (fun b178 hb178 => ?_)
             have o179 : OL (Rep.int .i64) G129 [.int .i64 x139.2] ([x139.2] : List Int) := ((OL.cons rfl (Rep.intI .i64 x139.2) (OL.nil (Rp' := (Rep.int .i64)))) :)
             refine .reval 109 (n' := ([x139.2] : List Int).length) rfl rfl ?_;refine .clsL (HpLe.refl _) (pick_mem [0, 1, 2, 3, 4, 5] rfl) ?_;refine .q .d1 (.loadO 1 0 rfl hu146 p158 rfl (.inl ⟨rfl, rfl⟩) ty22 rfl) rfl ?_;refine .clsL (HpLe.refl _) (pick_mem [0, 1, 2, 3, 4, 5] rfl) ?_
             refine .freezeR 0 rfl rfl o179 [_, _, _] rfl B134 (fun G180 e181 B182 s183 => ?_)
             refine .takeN 1 rfl he155 hn156 ?_
             refine .appR (Q := (Rep.int .i64)) 0 .d1 sl22 ty3 rfl rfl rfl rfl rfl (OL.mono e181 ho157) rfl rfl s183 rfl List.mem_cons_self hu148 rfl (fun a184 k185 cs186 o187 => ?_)
             refine .clsL e181 (pick_mem [0, 1, 2, 3, 4, 5] rfl) ?_
             obtain ⟨e188, he189, hn190, ho191, p192⟩ := NL.get (NL.mono e181 o135) hu150
             refine .q .d2 (.idxO 1 rfl rfl rfl hu150 sl51 ty22.sz) rfl ?_
             refine .storeN 0 1 (Q := (Rep.int .i64)) .d2 rfl rfl rfl (NL.mono e181 o135) he155 o187 hu152 rfl (.inl ⟨rfl, rfl⟩) rfl ty22 rfl (fun es193 cs194 hlcs194 o195 => ?_)
             refine .reval 17 hlcs194 rfl ?_;refine .reval 101 hlcs194 rfl ?_;refine .reval 103 hlcs194 rfl ?_;refine .draw_end ?_;refine .prune [(17, _), (96, _), (61, _), (3, _), (5, _), (6, _), (9, _), (11, _), (15, _), (60, _), (94, _), (95, _)] ⟨rfl, rfl, rfl, rfl, rfl, rfl, rfl, rfl, rfl, rfl, rfl, rfl, trivial⟩ ?_;refine .inBlock ?_;refine .region rfl ?_;refine .q .ro (.addw rfl rfl) rfl ?_;refine .mv rfl rfl ?_
             refine .re ?_;refine .drop 1 0 [_, _, _, _, _] _ rfl rfl ?_
             refine .prune _ ?_ (Cov.same rfl rfl rfl (hb126 ((i127 + 1), xs140, G180, u152, es193, cs194) ⟨(HpLe.trans e133 e181), B182, o195, (hlcs194.trans hl136), (drop_succ g137), r153⟩ (Nat.lt_succ_self _)))
             exact ⟨rfl, (congrArg (fun z => some (Value.int .i64 z)) (idx_wrap (OL.len' o121) g137)), rfl, rfl, rfl, rfl, rfl, rfl, rfl, rfl, rfl, rfl, trivial⟩
           ·refine .lit [_] [(0, _)] .d1 sl22 ty3 rfl rfl rfl rfl rfl rfl (fun b196 hb196 => ?_)
            have o197 : OL (Rep.int .i64) G129 [.int .i64 x139.2] ([x139.2] : List Int) := ((OL.cons rfl (Rep.intI .i64 x139.2) (OL.nil (Rp' := (Rep.int .i64)))) :)
            refine .reval 109 (n' := ([x139.2] : List Int).length) rfl rfl ?_;refine .clsL (HpLe.refl _) (pick_mem [0, 1, 2, 3, 4, 5] rfl) ?_
            obtain ⟨e198, he199, hn200, ho201, p202⟩ := NL.get o135 hu146
            refine .q .d1 (.idxO 1 rfl rfl rfl hu146 sl51 ty22.sz) rfl ?_;refine .clsL (HpLe.refl _) (pick_mem [0, 1, 2, 3, 4, 5] rfl) ?_;refine .q .d1 (.loadO 1 0 rfl hu146 p202 rfl (.inl ⟨rfl, rfl⟩) ty22 rfl) rfl ?_;refine .clsL (HpLe.refl _) (pick_mem [0, 1, 2, 3, 4, 5] rfl) ?_
            refine .freezeR 0 rfl rfl o197 [_, _, _] rfl B134 (fun G203 e204 B205 s206 => ?_)
            refine .takeN 1 rfl he199 hn200 ?_
            refine .appR (Q := (Rep.int .i64)) 0 .d1 sl22 ty3 rfl rfl rfl rfl rfl (OL.mono e204 ho201) rfl rfl s206 rfl List.mem_cons_self hu148 rfl (fun a207 k208 cs209 o210 => ?_)
            refine .clsL e204 (pick_mem [0, 1, 2, 3, 4, 5] rfl) ?_
            obtain ⟨e211, he212, hn213, ho214, p215⟩ := NL.get (NL.mono e204 o135) hu150
            refine .q .d2 (.idxO 1 rfl rfl rfl hu150 sl51 ty22.sz) rfl ?_
            refine .storeN 0 1 (Q := (Rep.int .i64)) .d2 rfl rfl rfl (NL.mono e204 o135) he199 o210 hu152 rfl (.inl ⟨rfl, rfl⟩) rfl ty22 rfl (fun es216 cs217 hlcs217 o218 => ?_)
            refine .reval 17 hlcs217 rfl ?_;refine .reval 101 hlcs217 rfl ?_;refine .reval 103 hlcs217 rfl ?_;refine .draw_end ?_;refine .prune [(17, _), (96, _), (61, _), (3, _), (5, _), (6, _), (9, _), (11, _), (15, _), (60, _), (94, _), (95, _)] ⟨rfl, rfl, rfl, rfl, rfl, rfl, rfl, rfl, rfl, rfl, rfl, rfl, trivial⟩ ?_;refine .inBlock ?_;refine .region rfl ?_;refine .q .ro (.addw rfl rfl) rfl ?_;refine .mv rfl rfl ?_
            refine .re ?_;refine .drop 1 0 [_, _, _, _, _] _ rfl rfl ?_
            refine .prune _ ?_ (Cov.same rfl rfl rfl (hb126 ((i127 + 1), xs140, G203, u152, es216, cs217) ⟨(HpLe.trans e133 e204), B205, o218, (hlcs217.trans hl136), (drop_succ g137), r153⟩ (Nat.lt_succ_self _)))
            exact ⟨rfl, (congrArg (fun z => some (Value.int .i64 z)) (idx_wrap (OL.len' o121) g137)), rfl, rfl, rfl, rfl, rfl, rfl, rfl, rfl, rfl, rfl, trivial⟩
        ·intro hb219
         refine .drawL (.q 0 (.q 1 (.q 2 (.q 3 (.q 4 (.q 5 (.q 6 (.q 7 (.q 8 (.q 9 (.q 10 (.q 11 (.q 12 (.q 13 (.q 14 (.q 15 (.q 16 (.q 17 (.alt (.e 18 1 (.q 19 (.q 20 (.q 21 (.q 22 (.e 23 1 (.q 24 (.e 25 1 (.q 26 .nil))))))))) (.e 23 1 (.e 18 1 (.q 19 (.q 20 (.q 21 (.q 22 (.q 24 (.e 25 1 (.q 26 .nil)))))))))))))))))))))))))))) [_, _, _, _, _] (by kernel_rfl) (by kernel_rfl) (pick_mem [0, 1, 2, 3, 4] rfl) ?_
         obtain ⟨u220, hu220, r221⟩ := bind_some r110; clear r110
         obtain ⟨u222, hu222, r223⟩ := bind_some r221; clear r221
         refine .dq (.load_own_a 4 [_] rfl rfl ty45 rfl) rfl ?_;refine .dq (.move rfl) rfl ?_;refine .dq (.fieldAddr 1 rfl fl69_1 ty3.sz rfl) rfl ?_;refine .dq (.load_own 3 rfl rfl ty3 rfl) rfl ?_;refine .dq (.fieldAddr 0 rfl fl69_0 ty3.sz rfl) rfl ?_;refine .dq (.load_own 3 rfl rfl ty3 rfl) rfl ?_;refine .dq (.move rfl) rfl ?_;refine .dq (.move rfl) rfl ?_;refine .dq (.fieldAddr 1 rfl fl69_1 ty3.sz rfl) rfl ?_
         refine .dq (.load_own 3 rfl rfl ty3 rfl) rfl ?_;refine .dq (.mulw rfl rfl) rfl ?_;refine .dq (.move rfl) rfl ?_;refine .dq (.addw rfl rfl) rfl ?_;refine .dq (.fieldAddr 1 rfl fl69_1 ty3.sz rfl) rfl ?_;refine .dq (.load_own 3 rfl rfl ty3 rfl) rfl ?_;refine .dq (.mulw rfl rfl) rfl ?_
         obtain ⟨a224, k225, h226, s227⟩ := SlR.sub (SlR.mono e100 s86) hu220
         refine .dq (.sliceR (SlR.mono e100 s86) rfl hu220 sl22 ty3.sz (fun h => .yes' rfl h) (fun h => .yes' rfl h) h226) rfl ?_;refine .dq (.build [_, _] [(0, _)] ty56 pl56 rfl rfl) rfl ?_;refine .alt ?_ ?_
         ·refine .callW (b1 := []) (b2 := [_, _, _, _, _]) (s1 := []) [_, _, _, _, _] [] .d1 rfl rfl Tryz.call112 rfl rfl (share_Split_c (G := G89) List.mem_cons_self s227 hu222) rfl B101 (fun v228 bo so G229 e230 B231 h232 => ?_)
          obtain ⟨a233, k234, a235, k236, cs237, rfl, rfl, rfl, s238, o239⟩ := h232
          refine .same (bl' := [_, _, _, _, _]) (sl' := [_, _, _]) rfl rfl rfl ?_;refine .clsL e230 (pick_mem [0, 1, 2, 3, 4] rfl) ?_;refine .dq (.move rfl) rfl ?_;refine .dq (.extract rfl rfl) rfl ?_;refine .dq (.extract rfl rfl) rfl ?_;refine .dq (.extract rfl rfl) rfl ?_
          refine .alloc .d1 ty56 rfl (fun b240 hb240 => ?_)
          refine .clsL e230 (pick_mem [1, 2, 3, 4, 5] rfl) ?_;refine .dq (.assign rfl) rfl ?_;refine .store 0 [_, _] [_, _, _, _, _, _] .d1 rfl rfl rfl ty56 rfl rfl rfl rfl ?_;refine .clsL e230 (pick_mem [1, 2, 3, 4, 5] rfl) ?_;refine .dq (.assign rfl) rfl ?_;refine .draw_end ?_;refine .prune [(61, _), (17, _), (3, _), (5, _), (6, _), (9, _), (11, _), (15, _), (60, _), (20, _), (22, _)] ⟨rfl, rfl, rfl, rfl, rfl, rfl, rfl, rfl, rfl, rfl, rfl, trivial⟩ ?_;refine .drop 1 0 [_, _, _, _, _] _ rfl rfl ?_
          refine .prune _ ?_ (Cov.same rfl rfl rfl (hb219 (G229, u222.1, a235, k236, cs237, u222.2.2) ⟨e230, B231, o239, r223⟩))
          exact ⟨rfl, rfl, rfl, rfl, rfl, rfl, rfl, rfl, rfl, rfl, rfl, trivial⟩
         ·refine .alloc .d1 ty56 rfl (fun b241 hb241 => ?_)
          refine .clsL (HpLe.refl _) (pick_mem [1, 2, 3, 4, 5] rfl) ?_
          refine .callW (b1 := []) (b2 := [_, _, _, _, _, _]) (s1 := []) [_, _, _, _, _] [] .d1 rfl rfl Tryz.call112 rfl rfl (share_Split_c (G := G89) List.mem_cons_self s227 hu222) rfl B101 (fun v242 bo so G243 e244 B245 h246 => ?_)
          obtain ⟨a247, k248, a249, k250, cs251, rfl, rfl, rfl, s252, o253⟩ := h246
          refine .same (bl' := [_, _, _, _, _, _]) (sl' := [_, _, _]) rfl rfl rfl ?_;refine .clsL e244 (pick_mem [1, 2, 3, 4, 5] rfl) ?_;refine .dq (.move rfl) rfl ?_;refine .dq (.extract rfl rfl) rfl ?_;refine .dq (.extract rfl rfl) rfl ?_;refine .dq (.extract rfl rfl) rfl ?_;refine .dq (.assign rfl) rfl ?_;refine .store 0 [_, _] [_, _, _, _, _, _] .d1 rfl rfl rfl ty56 rfl rfl rfl rfl ?_;refine .clsL e244 (pick_mem [1, 2, 3, 4, 5] rfl) ?_
          refine .dq (.assign rfl) rfl ?_;refine .draw_end ?_;refine .prune [(61, _), (17, _), (3, _), (5, _), (6, _), (9, _), (11, _), (15, _), (60, _), (20, _), (22, _)] ⟨rfl, rfl, rfl, rfl, rfl, rfl, rfl, rfl, rfl, rfl, rfl, trivial⟩ ?_;refine .drop 1 0 [_, _, _, _, _] _ rfl rfl ?_
          refine .prune _ ?_ (Cov.same rfl rfl rfl (hb219 (G243, u222.1, a249, k250, cs251, u222.2.2) ⟨e244, B245, o253, r223⟩))
          exact ⟨rfl, rfl, rfl, rfl, rfl, rfl, rfl, rfl, rfl, rfl, rfl, trivial⟩
       ·intro hb254
        refine .cond_dec rfl (fun c255 => ?_) (fun c255 => ?_)
        ·have r256 := ifT r108 c255; clear r108
         refine .region rfl ?_;refine .av rfl rfl ?_;refine .re ?_
         refine .prune _ ?_ (Cov.same rfl rfl rfl (hb254 (1) r256))
         exact ⟨rfl, rfl, rfl, rfl, rfl, rfl, rfl, rfl, rfl, rfl, rfl, trivial⟩
        ·have r257 := ifF r108 c255; clear r108
         refine .skip ?_
         refine .prune _ ?_ (Cov.same rfl rfl rfl (hb254 (0) r257))
         exact ⟨rfl, rfl, rfl, rfl, rfl, rfl, rfl, rfl, rfl, rfl, rfl, trivial⟩
      ·have r258 := ifF r106 c107; clear r106
       refine .exit rfl ?_
       refine .prune _ ?_ (Cov.same rfl rfl rfl (hb82 (G89, u19.2.1, a31, k32, v91, es92, cs93, v94, v95, v96, v97, v98, v99) ⟨(HpLe.trans e84 e100), B101, (SlR.mono e100 s86), o102, hl103, r258⟩))
       exact ⟨rfl, rfl, rfl, rfl, trivial⟩
  ·intro hb13
   refine .split 35 rfl (fun c12 => ?_) (fun c12 => ?_)
   ·refine .g_off rfl rfl rfl ?_
    refine .g_off rfl rfl rfl ?_;refine .g_off rfl rfl rfl ?_;refine .q .ro (.pick_t rfl rfl) rfl ?_
    refine .prune _ ?_ (Cov.same rfl rfl rfl (hb13 () trivial))
    exact ⟨dor_t c12, rfl, rfl, rfl, rfl, rfl, rfl, trivial⟩
   ·refine .g_on rfl ?_
    refine .mv rfl rfl ?_;refine .g_on rfl ?_;refine .mv rfl rfl ?_;refine .g_on rfl ?_;refine .q .ro (.geq rfl rfl) rfl ?_;refine .q .ro (.pick_f rfl rfl) rfl ?_
    refine .prune _ ?_ (Cov.same rfl rfl rfl (hb13 () trivial))
    exact ⟨dor_f c12, rfl, rfl, rfl, rfl, rfl, rfl, trivial⟩
theorem columns_Check_c {Fs : List Hp} {G : Hp} {x0_0 : Int} {x1 : Int} {x2 : Int} {x3 : Int} {a4 : Option Addr} {k4 : Nat} {x4 : List (Bool × (List Int))} {r : Int} (hG : G ∈ Fs) (s4 : SlR (Rep.pair Rep.bool (Rep.sl (Rep.int .i64))) G a4 k4 x4) (h : columns_Check x0_0 x1 x2 x3 x4 = some r) : RetS Tryz.prog 84 #[.agg #[.int .i64 x0_0], .int .i64 x1, .int .i64 x2, .int .i64 x3, .slice a4 x4.length k4] Fs [] [] (fun v bo so => v = .int .i64 r ∧ bo = [] ∧ so = []) := by
 unfold columns_Check at h
 try dsimp only at h
 refine RetS.of (vs := [_, _, _, _, _]) Tryz.func84 rfl Tryz.ntmps84 [(0, _), (1, _), (2, _), (3, _), (4, _)] ⟨rfl, rfl, rfl, rfl, rfl, trivial⟩ rfl hG fun w0 S0 hS0 B0 => ?_
 refine .seq ?_;refine .region rfl ?_
 refine .box [_] .ro rfl rfl rfl (fun b1 hb1 => ?_)
 refine .av rfl rfl ?_;refine .re ?_;refine .seq ?_;refine .seq ?_;refine .region rfl ?_;refine .mv rfl rfl ?_;refine .q .ro (.lss rfl rfl) rfl ?_;refine .mv rfl rfl ?_;refine .cutR 3 (β := Unit) (fun y => [(20, .bool (decide ((x1 < 0) ∨ (64 < x1))))]) [(1, _), (2, _), (3, _), (4, _), (5, _)] (fun y => G :: Fs) (fun y => []) [_] (fun y => []) [] (fun y => True) ⟨rfl, rfl, rfl, rfl, rfl, trivial⟩ [0] rfl [] rfl ?_ ?_
 ·rintro _ _
  refine .prune [(20, .bool (decide ((x1 < 0) ∨ (64 < x1)))), (1, _), (2, _), (3, _), (4, _), (5, _)] ⟨rfl, rfl, rfl, rfl, rfl, rfl, trivial⟩ ?_;refine .same (bl' := [_]) (sl' := []) (Fs' := G :: Fs) rfl rfl rfl ?_;refine .re ?_
  refine .cond_dec rfl (fun c6 => ?_) (fun c6 => ?_)
  ·have r7 := ifT h c6; clear h
   refine .seq ?_;refine .region rfl ?_;refine .av rfl rfl ?_;refine .re ?_
   cases r7
   refine .drop 1 0 [] _ rfl rfl ?_
   refine .retS (c := ⟨84, none⟩) (.inr ⟨_, rfl⟩) [.tmp 10] [_] rfl Tryz.func84 Tryz.results84 ⟨RV.tmp rfl, trivial⟩ mcm ⟨rfl, rfl, rfl⟩
  ·have r8 := ifF h c6; clear h
   refine .skip ?_;refine .seq ?_;refine .seq ?_;refine .region rfl ?_;refine .mv rfl rfl ?_;refine .q .ro (.len_sl rfl rfl sl60) rfl ?_;refine .mv rfl rfl ?_;refine .q .ro (.neq rfl rfl) rfl ?_;refine .re ?_
   refine .cond_dec rfl (fun c9 => ?_) (fun c9 => ?_)
   ·have r10 := ifT r8 c9; clear r8
    refine .seq ?_;refine .region rfl ?_;refine .av rfl rfl ?_;refine .re ?_
    cases r10
    refine .drop 1 0 [] _ rfl rfl ?_
    refine .retS (c := ⟨84, none⟩) (.inr ⟨_, rfl⟩) [.tmp 10] [_] rfl Tryz.func84 Tryz.results84 ⟨RV.tmp rfl, trivial⟩ mcm ⟨rfl, rfl, rfl⟩
   ·have r11 := ifF r8 c9; clear r8
    refine .skip ?_;refine .seq ?_;refine .region rfl ?_;refine .av rfl rfl ?_;refine .av rfl rfl ?_;refine .re ?_;refine .seq ?_;refine .seq ?_;refine .region rfl ?_
    refine .mv rfl rfl ?_;refine .q .ro (.len_sl rfl rfl sl60) rfl ?_;refine .mv rfl rfl ?_;refine .re ?_;refine .cutB (β := Int × Bool × Int) (fun y => [(11, .int .i64 y.1), (12, .bool y.2.1)]) [(3, _)] (fun y => G :: Fs) (fun y => [(b1, .cells #[.int .i64 y.2.2] 45 (0, 0))]) [] (fun y => []) [] (fun y => (columns_Check_J1 x3) y.1 y.2.1 y.2.2 = some r) ⟨rfl, trivial⟩ [] rfl [] rfl ?_ ?_
    ·intro y hI
     obtain ⟨v98, v99, v12⟩ := y
     have r13 := hI; clear hI
     try dsimp only at r13
     refine .prune [(11, .int .i64 v98), (12, .bool v99), (3, _)] ⟨rfl, rfl, rfl, trivial⟩ ?_;refine .same (bl' := [(b1, .cells #[.int .i64 v12] 45 (0, 0))]) (sl' := []) (Fs' := G :: Fs) rfl rfl rfl ?_
     unfold columns_Check_J1 at r13
     try dsimp only at r13
     refine .seq ?_;refine .block ?_;refine .seq ?_;refine .region rfl ?_;refine .mv rfl rfl ?_;refine .q .ro (.not rfl) rfl ?_;refine .av rfl rfl ?_;refine .re ?_
     refine .cond rfl (fun c14 => ?_) (fun c14 => ?_)
     ·have r15 := ifT r13 c14; clear r13
      refine .seq ?_;refine .region rfl ?_;refine .av rfl rfl ?_;refine .re ?_
      cases r15
      refine .drop 1 0 [] _ rfl rfl ?_
      refine .retS (c := ⟨84, none⟩) (.inr ⟨_, rfl⟩) [.tmp 10] [_] rfl Tryz.func84 Tryz.results84 ⟨RV.tmp rfl, trivial⟩ mcm ⟨rfl, rfl, rfl⟩
     ·have r16 := ifBF r13 c14; clear r13
      refine .seq ?_;refine .region rfl ?_;refine .mv rfl rfl ?_;refine .mv rfl rfl ?_;refine .q .ro (.lss rfl rfl) rfl ?_;refine .av rfl rfl ?_;refine .re ?_
      refine .cond_dec rfl (fun c17 => ?_) (fun c17 => ?_)
      ·have r18 := ifT r16 c17; clear r16
       refine .seq ?_;refine .region rfl ?_;refine .av rfl rfl ?_;refine .re ?_
       cases r18
       refine .drop 1 0 [] _ rfl rfl ?_
       refine .retS (c := ⟨84, none⟩) (.inr ⟨_, rfl⟩) [.tmp 10] [_] rfl Tryz.func84 Tryz.results84 ⟨RV.tmp rfl, trivial⟩ mcm ⟨rfl, rfl, rfl⟩
      ·have r19 := ifF r16 c17; clear r16
       refine .skip ?_;refine .inBlock ?_;refine .seq ?_;refine .region rfl ?_;refine .av rfl rfl ?_;refine .re ?_
       cases r19
       refine .drop 1 0 [] _ rfl rfl ?_
       refine .retS (c := ⟨84, none⟩) (.inr ⟨_, rfl⟩) [.tmp 10] [_] rfl Tryz.func84 Tryz.results84 ⟨RV.tmp rfl, trivial⟩ mcm ⟨rfl, rfl, rfl⟩
    ·intro hb20
     refine .block ?_
     refine .loop2 (α := Nat × (List (Bool × (List Int))) × Int × Bool) (fun y => [(11, .int .i64 y.2.2.1), (12, .bool y.2.2.2), (27, .int .i64 (y.1 : Int))]) [(1, _), (3, _), (5, _), (25, _), (26, _)] (fun y => []) (fun y => []) [_] (fun y => []) [] (fun y => List.drop y.1 x4 = y.2.1 ∧ columns_Check_L2 (columns_Check_J1 x3) x1 x0_0 y.2.1 y.2.2.1 y.2.2.2 = some r) (fun y => y.2.1.length) (0, x4, 0, true) ⟨rfl, r11⟩ ⟨rfl, rfl, rfl, rfl, rfl, rfl, rfl, rfl, trivial⟩ rfl rfl rfl (fun y hI hb21 => ?_)
     obtain ⟨i23, w24, v25, v26⟩ := y
     obtain ⟨g27, r28⟩ := hI
     try dsimp only at g27 r28
     refine .prune [(11, .int .i64 v25), (12, .bool v26), (27, .int .i64 (i23 : Int)), (1, _), (3, _), (5, _), (25, _), (26, _)] ⟨rfl, rfl, rfl, rfl, rfl, rfl, rfl, rfl, trivial⟩ ?_;refine .same (bl' := [_]) (sl' := []) (Fs' := G :: Fs) rfl rfl rfl ?_
     cases w24 with
     | nil =>
      rw [columns_Check_L2] at r28; try dsimp only at r28
      refine .seq ?_;refine .region rfl ?_;refine .q .ro (.lss rfl rfl) rfl ?_;refine .re ?_;refine .seq ?_
      refine .cond_dec rfl (fun c => absurd c (drop_nil g27)) (fun _ => ?_)
      refine .exit rfl ?_
      refine .prune _ ?_ (Cov.same rfl rfl rfl (hb20 (v25, v26, x0_0) r28))
      exact ⟨rfl, rfl, rfl, trivial⟩
     | cons x29 xs30 =>
      have r31 : columns_Check_B2 (columns_Check_J1 x3) x1 x0_0 (columns_Check_L2 (columns_Check_J1 x3) x1 x0_0 xs30) x29 v25 v26 = some r := r28; clear r28; unfold columns_Check_B2 at r31; try dsimp only at r31
      refine .seq ?_;refine .region rfl ?_;refine .q .ro (.lss rfl rfl) rfl ?_;refine .re ?_;refine .seq ?_
      refine .cond_dec rfl (fun _ => ?_) (fun c => absurd (drop_lt g27) c)
      refine .skip ?_;refine .seq ?_;refine .block ?_;refine .seq ?_;refine .region rfl ?_
      obtain ⟨c32, p33, h34⟩ := SlR.get s4 (drop_idx g27)
      obtain ⟨_, _, rfl, rfl, a35, k36, rfl, s37⟩ := h34
      refine .q .ro (.idxR s4 rfl rfl (drop_idx g27) sl60 ty63.sz) rfl ?_;refine .q .ro (.load_rp_a [_, _] p33 List.mem_cons_self rfl ty63 rfl) rfl ?_
      refine .alloc .ro ty63 rfl (fun b38 hb38 => ?_)
      refine .store 0 [_, _] [_, _] .ro rfl rfl rfl ty63 rfl rfl rfl rfl ?_;refine .re ?_;refine .seq ?_;refine .seq ?_;refine .region rfl ?_;refine .q .ro (.fieldAddr 0 rfl fl63_0 ty4.sz rfl) rfl ?_;refine .q .ro (.load_own 0 rfl rfl ty4 rfl) rfl ?_;refine .q .ro (.not rfl) rfl ?_;refine .re ?_
      refine .cond rfl (fun c39 => ?_) (fun c39 => ?_)
      ·have r40 := ifT r31 c39; clear r31
       refine .exit rfl ?_;refine .region rfl ?_;refine .q .ro (.addw rfl rfl) rfl ?_;refine .mv rfl rfl ?_;refine .re ?_;refine .drop 1 0 [_] _ rfl rfl ?_
       refine .prune _ ?_ (Cov.same rfl rfl rfl (hb21 ((i23 + 1), xs30, v25, v26) ⟨(drop_succ g27), r40⟩ (Nat.lt_succ_self _)))
       exact ⟨rfl, rfl, (congrArg (fun z => some (Value.int .i64 z)) (idx_wrap (SlR.len s4) g27)), rfl, rfl, rfl, rfl, rfl, trivial⟩
      ·have r41 := ifBF r31 c39; clear r31
       refine .skip ?_;refine .seq ?_;refine .seq ?_;refine .region rfl ?_;refine .q .ro (.fieldAddr 1 rfl fl63_1 ty22.sz rfl) rfl ?_;refine .q .ro (.load_own 0 rfl rfl ty22 rfl) rfl ?_;refine .q .ro (.len_sl rfl rfl sl22) rfl ?_;refine .mv rfl rfl ?_;refine .q .ro (.neq rfl rfl) rfl ?_
       refine .re ?_
       refine .cond_dec rfl (fun c42 => ?_) (fun c42 => ?_)
       ·have r43 := ifT r41 c42; clear r41
        refine .seq ?_;refine .region rfl ?_;refine .av rfl rfl ?_;refine .re ?_;refine .prune [(10, _)] ⟨rfl, trivial⟩ ?_
        cases r43
        refine .drop 2 0 [] _ rfl rfl ?_
        refine .retS (c := ⟨84, none⟩) (.inr ⟨_, rfl⟩) [.tmp 10] [_] rfl Tryz.func84 Tryz.results84 ⟨RV.tmp rfl, trivial⟩ mcm ⟨rfl, rfl, rfl⟩
       ·have r44 := ifF r41 c42; clear r41
        refine .skip ?_;refine .seq ?_;refine .region rfl ?_;refine .mv rfl rfl ?_;refine .q .ro (.addw rfl rfl) rfl ?_;refine .av rfl rfl ?_;refine .re ?_;refine .prune [(11, _), (12, _), (27, _), (1, _), (3, _), (5, _), (25, _), (26, _), (14, _)] ⟨rfl, rfl, rfl, rfl, rfl, rfl, rfl, rfl, rfl, trivial⟩ ?_;refine .region rfl ?_
        refine .mv rfl rfl ?_;refine .mv rfl rfl ?_
        obtain ⟨u46, h47, r48⟩ := bind_some r44; clear r44
        refine .cutR 6 (β := Unit) (fun y => [(48, .bool u46)]) [(11, _), (12, _), (27, _), (1, _), (3, _), (5, _), (25, _), (26, _)] (fun y => G :: Fs) (fun y => []) [_, _] (fun y => []) [] (fun y => True) ⟨rfl, rfl, rfl, rfl, rfl, rfl, rfl, rfl, trivial⟩ [0, 1] rfl [] rfl ?_ ?_
        ·rintro _ _
         refine .prune [(48, .bool u46), (11, _), (12, _), (27, _), (1, _), (3, _), (5, _), (25, _), (26, _)] ⟨rfl, rfl, rfl, rfl, rfl, rfl, rfl, rfl, rfl, trivial⟩ ?_;refine .same (bl' := [_, _]) (sl' := []) (Fs' := G :: Fs) rfl rfl rfl ?_;refine .av rfl rfl ?_;refine .re ?_;refine .inBlock ?_;refine .region rfl ?_;refine .q .ro (.addw rfl rfl) rfl ?_;refine .mv rfl rfl ?_;refine .re ?_
         refine .drop 1 0 [_] _ rfl rfl ?_
         refine .prune _ ?_ (Cov.same rfl rfl rfl (hb21 ((i23 + 1), xs30, (w64 (v25 + 1)), u46) ⟨(drop_succ g27), r48⟩ (Nat.lt_succ_self _)))
         exact ⟨rfl, rfl, (congrArg (fun z => some (Value.int .i64 z)) (idx_wrap (SlR.len s4) g27)), rfl, rfl, rfl, rfl, rfl, trivial⟩
        ·intro hb49
         refine .split_b 42 rfl (fun c50 => ?_) (fun c50 => ?_)
         ·have r51 := ifT h47 c50
          refine .g_on rfl ?_;refine .q .ro (.fieldAddr 0 rfl fl45_0 ty3.sz rfl) rfl ?_;refine .g_on rfl ?_;refine .q .ro (.load_own 1 rfl rfl ty3 rfl) rfl ?_;refine .g_on rfl ?_;refine .q .ro (.fieldAddr 1 rfl fl63_1 ty22.sz rfl) rfl ?_;refine .g_on rfl ?_;refine .q .ro (.load_own 0 rfl rfl ty22 rfl) rfl ?_;refine .g_on rfl ?_
          obtain ⟨u52, hu52, r53⟩ := bind_some r51; clear r51
          refine .callS (b1 := []) (b2 := [_, _]) (s1 := []) [_, _] [] .ro rfl rfl Tryz.call73 rfl rfl (residue_Field_All_c (G := G) List.mem_cons_self s37 hu52) rfl (fun v54 bo so h55 => ?_)
          obtain ⟨rfl, rfl, rfl⟩ := h55
          refine .same (bl' := [_, _]) (sl' := []) rfl rfl rfl ?_;refine .q .ro (.pick_t rfl rfl) rfl ?_
          refine .prune _ ?_ (Cov.same rfl rfl rfl (hb49 () trivial))
          exact ⟨sval r53, rfl, rfl, rfl, rfl, rfl, rfl, rfl, rfl, trivial⟩
         ·have r56 := ifBF h47 c50
          refine .g_off rfl rfl rfl ?_;refine .g_off rfl rfl rfl ?_;refine .g_off rfl rfl rfl ?_;refine .g_off rfl rfl rfl ?_;refine .g_off rfl rfl rfl ?_;refine .q .ro (.pick_f rfl rfl) rfl ?_
          refine .prune _ ?_ (Cov.same rfl rfl rfl (hb49 () trivial))
          exact ⟨sval r56, rfl, rfl, rfl, rfl, rfl, rfl, rfl, rfl, trivial⟩
 ·intro hb3
  refine .split 17 rfl (fun c2 => ?_) (fun c2 => ?_)
  ·refine .g_off rfl rfl rfl ?_
   refine .g_off rfl rfl rfl ?_;refine .q .ro (.pick_t rfl rfl) rfl ?_
   refine .prune _ ?_ (Cov.same rfl rfl rfl (hb3 () trivial))
   exact ⟨dor_t c2, rfl, rfl, rfl, rfl, rfl, trivial⟩
  ·refine .g_on rfl ?_
   refine .mv rfl rfl ?_;refine .g_on rfl ?_;refine .q .ro (.gtr rfl rfl) rfl ?_;refine .q .ro (.pick_f rfl rfl) rfl ?_
   refine .prune _ ?_ (Cov.same rfl rfl rfl (hb3 () trivial))
   exact ⟨dor_f c2, rfl, rfl, rfl, rfl, rfl, trivial⟩
theorem code_known_f1_i {Fs : List Hp} {G : Hp} {p1 : Value} {a1 : Option Addr} {k1 : Nat} {x1 : List (Int × Bool)} {l : (List (Int × Int))} (hG : G ∈ Fs) (hp1 : Rp G p1 [.slice a1 x1.length k1]) (s1 : SlR (Rep.pair (Rep.int .i64) Rep.bool) G a1 k1 x1) (h : code_known_f1 x1 = some l) : IterX Tryz.prog 202 [p1] Fs l.length (fun i v => ∃ x, l[i]? = some x ∧ (Yr.pair (Yr.v (Rep.int .i64)) (Yr.v (Rep.int .i64))).r G v x) := by
 unfold code_known_f1 at h
 try dsimp only at h
 intro y 𝒢 ℰ R0 hy hR0
 refine RetG.of (vs := [_, _]) Tryz.func202 rfl Tryz.ntmps202 [(0, _), (1, _)] ⟨rfl, rfl, trivial⟩ rfl fun w0 => Cov.dup hG ?_
 have B0 : Bd w0 (blks [] [.g R0]) Fs G := Bd.fin hG
 generalize hS0 : blks [] [.g R0] = S0 at B0 ⊢
 replace h : _ = some (List.drop 0 l) := h
 refine .seq ?_;refine .region rfl ?_;refine .q .ro (.load_rp hp1 List.mem_cons_self rfl ty218 rfl) rfl ?_;refine .q .ro (.len_sl rfl rfl sl218) rfl ?_;refine .mv rfl rfl ?_;refine .re ?_;refine .block ?_
 refine .loop2 (α := Nat × (List (Int × Bool)) × Guest × Nat) (fun y => [(7, .int .i64 (y.1 : Int))]) [(0, _), (5, _), (6, _)] (fun y => []) (fun y => []) [] (fun y => [.g y.2.2.1]) [] (fun y => 𝒢 y.2.2.2 y.2.2.1 ∧ y.2.2.2 ≤ l.length ∧ List.drop y.1 x1 = y.2.1 ∧ code_known_f1_L1 y.2.1 y.1  = some (List.drop y.2.2.2 l)) (fun y => y.2.1.length) (0, x1, R0, 0) ⟨hR0, (Nat.zero_le _), rfl, h⟩ ⟨rfl, rfl, rfl, rfl, trivial⟩ rfl rfl rfl (fun y hI hb30 => ?_)
 obtain ⟨i22, w23, R25, i26⟩ := y
 obtain ⟨hR27, le28, g24, r29⟩ := hI
 try dsimp only at hR27 le28 g24 r29
 refine .prune [(7, .int .i64 (i22 : Int)), (0, _), (5, _), (6, _)] ⟨rfl, rfl, rfl, rfl, trivial⟩ ?_;refine .same (bl' := []) (sl' := [.g R25]) (Fs' := G :: Fs) rfl rfl rfl ?_
 cases w23 with
 | nil =>
  rw [code_known_f1_L1] at r29; try dsimp only at r29
  refine .seq ?_;refine .region rfl ?_;refine .q .ro (.lss rfl rfl) rfl ?_;refine .re ?_;refine .seq ?_
  refine .cond_dec rfl (fun c => absurd c (drop_nil g24)) (fun _ => ?_)
  refine .exit rfl ?_
  have hi := yc_end r29 le28
  refine .leave (c := ⟨202, none⟩) (.inl rfl) [] [] rfl Tryz.func202 Tryz.results202 trivial mcm (.inl rfl) (fresh_emp _) ⟨rfl, R25, .inl (hi ▸ hR27), rfl⟩
 | cons x34 xs35 =>
  have r33 : code_known_f1_B1 (code_known_f1_L1 xs35 (i22 + 1)) x34 i22  = some (List.drop i26 l) := r29; clear r29; unfold code_known_f1_B1 at r33; try dsimp only at r33
  refine .seq ?_;refine .region rfl ?_;refine .q .ro (.lss rfl rfl) rfl ?_;refine .re ?_;refine .seq ?_
  refine .cond_dec rfl (fun _ => ?_) (fun c => absurd (drop_lt g24) c)
  refine .skip ?_;refine .seq ?_;refine .block ?_;refine .seq ?_;refine .region rfl ?_;refine .mv rfl rfl ?_
  obtain ⟨c36, p37, h38⟩ := SlR.get s1 (drop_idx g24)
  obtain ⟨_, _, rfl, rfl, rfl⟩ := h38
  refine .q .ro (.idxR s1 rfl rfl (drop_idx g24) sl218 ty220.sz) rfl ?_;refine .q .ro (.load_rp_a [_, _] p37 List.mem_cons_self rfl ty220 rfl) rfl ?_
  refine .alloc .ro ty220 rfl (fun b39 hb39 => ?_)
  refine .av rfl rfl ?_;refine .store 0 [_, _] [_] .ro rfl rfl rfl ty220 rfl rfl rfl rfl ?_;refine .re ?_;refine .seq ?_;refine .region rfl ?_;refine .q .ro (.fieldAddr 1 rfl fl220_1 ty4.sz rfl) rfl ?_;refine .q .ro (.load_own 0 rfl rfl ty4 rfl) rfl ?_;refine .mv rfl rfl ?_
  refine .split_b 14 rfl (fun hc40 => ?_) (fun hc40 => ?_)
  ·have r41 := ifT r33 hc40
   refine .g_on rfl ?_;refine .mv rfl rfl ?_;refine .g_on rfl ?_;refine .mv rfl rfl ?_;refine .g_on rfl ?_;refine .q .ro (.addw rfl rfl) rfl ?_;refine .g_on rfl ?_;refine .q .ro (.fieldAddr 0 rfl fl220_0 ty3.sz rfl) rfl ?_;refine .g_on rfl ?_
   refine .q .ro (.load_own 0 rfl rfl ty3 rfl) rfl ?_;refine .g_on rfl ?_
   obtain ⟨h42, r43⟩ := yc_some r41; clear r41
   refine .yieldX hy ⟨_, h42, ⟨[_], _, rfl, ⟨_, rfl, ((Rep.intI .i64 (w64 ((i22 : Int) + 1))) :)⟩, ⟨_, rfl, ((Rep.intI .i64 x34.1) :)⟩⟩⟩ hR27 mcm rfl rfl rfl (fun R44 hR45 => ?_) (fun R46 hE47 => ?_)
   ·refine .g_on rfl ?_
    refine .q .ro (.not_t rfl) rfl ?_;refine .q .ro (.pick_t rfl rfl) rfl ?_;refine .re ?_;refine .cond_false rfl ?_;refine .skip ?_;refine .inBlock ?_;refine .region rfl ?_;refine .q .ro (.addw rfl rfl) rfl ?_;refine .mv rfl rfl ?_
    refine .re ?_;refine .drop 1 0 [] _ rfl rfl ?_
    refine .prune _ ?_ (Cov.same rfl rfl rfl (hb30 ((i22 + 1), xs35, R44, (i26 + 1)) ⟨hR45, (yc_le h42), (drop_succ g24), r43⟩ (Nat.lt_succ_self _)))
    exact ⟨(congrArg (fun z => some (Value.int .i64 z)) (idx_wrap (SlR.len s1) g24)), rfl, rfl, rfl, trivial⟩
   ·refine .g_on rfl ?_
    refine .q .ro (.not_f rfl) rfl ?_;refine .q .ro (.pick_t rfl rfl) rfl ?_;refine .re ?_;refine .cond_true rfl ?_;refine .drop 1 0 [] _ rfl rfl ?_
    refine .leave (c := ⟨202, none⟩) (.inr ⟨_, rfl⟩) [] [] rfl Tryz.func202 Tryz.results202 trivial mcm (.inl rfl) (fresh_emp _) ⟨rfl, R46, .inr hE47, rfl⟩
  ·have r48 := ifBF r33 hc40
   refine .g_off rfl rfl rfl ?_;refine .g_off rfl rfl rfl ?_;refine .g_off rfl rfl rfl ?_;refine .g_off rfl rfl rfl ?_;refine .g_off rfl rfl rfl ?_;refine .g_off rfl rfl rfl ?_;refine .g_off rfl rfl rfl ?_;refine .q .ro (.pick_f rfl rfl) rfl ?_;refine .re ?_
   refine .prune [(7, _), (0, _), (5, _), (6, _), (22, _)] ⟨rfl, rfl, rfl, rfl, rfl, trivial⟩ ?_;refine .cond_false rfl ?_;refine .skip ?_;refine .inBlock ?_;refine .region rfl ?_;refine .q .ro (.addw rfl rfl) rfl ?_;refine .mv rfl rfl ?_;refine .re ?_;refine .drop 1 0 [] _ rfl rfl ?_
   refine .prune _ ?_ (Cov.same rfl rfl rfl (hb30 ((i22 + 1), xs35, R25, i26) ⟨hR27, le28, (drop_succ g24), r48⟩ (Nat.lt_succ_self _)))
   exact ⟨(congrArg (fun z => some (Value.int .i64 z)) (idx_wrap (SlR.len s1) g24)), rfl, rfl, rfl, trivial⟩
theorem code_known_c {Fs : List Hp} {G : Hp} {a0 : Option Addr} {k0 : Nat} {x0 : List (Int × Bool)} {r : (List (Int × Int))} (hG : G ∈ Fs) (s0 : SlR (Rep.pair (Rep.int .i64) Rep.bool) G a0 k0 x0) (h : code_known x0 = some r) : RetW Tryz.prog 199 #[.slice a0 x0.length k0] Fs [] [] (fun v bo so G => ∃ (Fi0 : FuncId) (ci0 : List Value), v = .func (.func Fi0) #[] ci0.toArray ∧ bo = [] ∧ so = [] ∧ (∀ args w, (callFunc Fi0 args).run Tryz.prog w = .ok (.enter Fi0 args) w) ∧ IterRX Tryz.prog (Yr.pair (Yr.v (Rep.int .i64)) (Yr.v (Rep.int .i64))) Fi0 ci0 G r) := by
 unfold code_known at h
 try dsimp only at h
 refine RetW.of (vs := [_]) Tryz.func199 rfl Tryz.ntmps199 [(0, _)] ⟨rfl, trivial⟩ rfl hG fun w0 S0 hS0 B0 => ?_
 refine .seq ?_;refine .region rfl ?_
 refine .box [_] .ro rfl rfl rfl (fun b1 hb1 => ?_)
 refine .av rfl rfl ?_;refine .re ?_;refine .seq ?_;refine .region rfl ?_;refine .q .ro (.makeFunc (vf := []) (vc := [_]) rfl rfl) rfl ?_;refine .av rfl rfl ?_;refine .re ?_
 refine .freezeBR 0 rfl [] rfl B0 (fun G2 e3 B4 p5 => ?_)
 obtain ⟨u7, hu7, r8⟩ := bind_some h; clear h
 cases r8
 refine .retW (c := ⟨199, none⟩) (.inr ⟨_, rfl⟩) [.tmp 2] [_] rfl Tryz.func199 Tryz.results199 ⟨RV.tmp rfl, trivial⟩ mcm List.mem_cons_self B4 (by subst hS0; simp [blks]) (fun G' hg => ⟨_, _, rfl, rfl, rfl, Tryz.call202, (fun Fs' G1 hle hm => code_known_f1_i (G := G1) hm (Rp.mono (HpLe.trans hg hle) p5) (SlR.mono (HpLe.trans hg hle) (SlR.mono e3 s0)) hu7)⟩)
theorem code_cells_c {Fs : List Hp} {G : Hp} {x0_0 : Int} {a1 : Option Addr} {k1 : Nat} {x1 : List (Int × Bool)} {r : (Int × Int × Int)} (hG : G ∈ Fs) (s1 : SlR (Rep.pair (Rep.int .i64) Rep.bool) G a1 k1 x1) (h : code_cells x0_0 x1 = some r) : RetS Tryz.prog 187 #[.agg #[.int .i64 x0_0], .slice a1 x1.length k1] Fs [] [] (fun v bo so => v = .tuple #[.int .i64 r.1, .int .i64 r.2.1, .int .i64 r.2.2] ∧ bo = [] ∧ so = []) := by
 unfold code_cells at h
 try dsimp only at h
 refine RetS.of (vs := [_, _]) Tryz.func187 rfl Tryz.ntmps187 [(0, _), (1, _)] ⟨rfl, rfl, trivial⟩ rfl hG fun w0 S0 hS0 B0 => ?_
 refine .marks0 ?_;refine .seq ?_;refine .region rfl ?_
 refine .box [_] .ro rfl rfl rfl (fun b1 hb1 => ?_)
 refine .alloc .ro ty140 rfl (fun b2 hb2 => ?_)
 refine .alloc .ro ty3 rfl (fun b3 hb3 => ?_)
 refine .alloc .ro ty33 rfl (fun b4 hb4 => ?_)
 refine .re ?_;refine .seq ?_;refine .region rfl ?_;refine .q .ro (.load_own_a 3 [_] rfl rfl ty45 rfl) rfl ?_
 obtain ⟨u5, hu5, r6⟩ := bind_some h; clear h
 refine .callS (b1 := []) (b2 := [_, _, _, _]) (s1 := []) [_] [] .ro rfl rfl Tryz.call72 rfl rfl (residue_Of_c (G := G) List.mem_cons_self  hu5) rfl (fun v8 bo so h7 => ?_)
 obtain ⟨rfl, rfl, rfl⟩ := h7
 refine .same (bl' := [_, _, _, _]) (sl' := [_]) rfl rfl rfl ?_;refine .mv rfl rfl ?_;refine .q .ro (.extract rfl rfl) rfl ?_;refine .q .ro (.extract rfl rfl) rfl ?_
 refine .alloc .ro ty140 rfl (fun b9 hb9 => ?_)
 refine .store 0 [_] [_, _, _, _, _] .ro rfl rfl rfl ty140 rfl rfl rfl rfl ?_;refine .av rfl rfl ?_;refine .re ?_;refine .seq ?_;refine .seq ?_;refine .region rfl ?_;refine .mv rfl rfl ?_;refine .q .ro (.not rfl) rfl ?_;refine .re ?_
 refine .cond rfl (fun c10 => ?_) (fun c10 => ?_)
 ·have r11 := ifT r6 c10; clear r6
  refine .seq ?_;refine .region rfl ?_;refine .store 3 [_] [_, _, _, _, _] .ro rfl rfl rfl ty140 rfl rfl rfl rfl ?_;refine .store 2 [_] [_, _, _, _, _] .ro rfl rfl rfl ty3 rfl rfl rfl rfl ?_;refine .store 1 [_] [_, _, _, _, _] .ro rfl rfl rfl ty33 rfl rfl rfl rfl ?_;refine .re ?_
  cases r11
  refine .out (.inr ⟨_, rfl⟩) rfl (Cov.unmarkAll _ _ ?_)
  refine .outSD 5 (c := ⟨187, none⟩) [.cell 4 140, .cell 5 3, .cell 6 33] [_, _, _] Tryz.func187 Tryz.results187 ⟨RV.cell 3 rfl rfl ty140 rfl, RV.cell 2 rfl rfl ty3 rfl, RV.cell 1 rfl rfl ty33 rfl, trivial⟩ mcm ⟨rfl, rfl, rfl⟩
 ·have r12 := ifBF r6 c10; clear r6
  refine .skip ?_;refine .seq ?_;refine .seq ?_;refine .region rfl ?_;refine .mv rfl rfl ?_;refine .q .ro (.len_sl rfl rfl sl218) rfl ?_;refine .q .ro (.gtr rfl rfl) rfl ?_;refine .mv rfl rfl ?_;refine .cutR 6 (β := Unit) (fun y => [(28, .bool (decide ((32 < (x1.length : Int)) ∨ (x0_0 ≤ (x1.length : Int)))))]) [(1, _), (4, _), (5, _), (6, _), (7, _)] (fun y => G :: Fs) (fun y => []) [_, _, _, _, _] (fun y => []) [_] (fun y => True) ⟨rfl, rfl, rfl, rfl, rfl, trivial⟩ [0, 1, 2, 3, 4] rfl [0] rfl ?_ ?_
  ·rintro _ _
   refine .prune [(28, .bool (decide ((32 < (x1.length : Int)) ∨ (x0_0 ≤ (x1.length : Int))))), (1, _), (4, _), (5, _), (6, _), (7, _)] ⟨rfl, rfl, rfl, rfl, rfl, rfl, trivial⟩ ?_;refine .same (bl' := [_, _, _, _, _]) (sl' := [_]) (Fs' := G :: Fs) rfl rfl rfl ?_;refine .re ?_
   refine .cond_dec rfl (fun c17 => ?_) (fun c17 => ?_)
   ·have r18 := ifT r12 c17; clear r12
    refine .seq ?_;refine .region rfl ?_;refine .store 3 [_] [_, _, _, _, _] .ro rfl rfl rfl ty140 rfl rfl rfl rfl ?_;refine .store 2 [_] [_, _, _, _, _] .ro rfl rfl rfl ty3 rfl rfl rfl rfl ?_;refine .store 1 [_] [_, _, _, _, _] .ro rfl rfl rfl ty33 rfl rfl rfl rfl ?_;refine .re ?_
    cases r18
    refine .out (.inr ⟨_, rfl⟩) rfl (Cov.unmarkAll _ _ ?_)
    refine .outSD 5 (c := ⟨187, none⟩) [.cell 4 140, .cell 5 3, .cell 6 33] [_, _, _] Tryz.func187 Tryz.results187 ⟨RV.cell 3 rfl rfl ty140 rfl, RV.cell 2 rfl rfl ty3 rfl, RV.cell 1 rfl rfl ty33 rfl, trivial⟩ mcm ⟨rfl, rfl, rfl⟩
   ·have r19 := ifF r12 c17; clear r12
    refine .skip ?_;refine .seq ?_;refine .region rfl ?_
    refine .alloc .ro ty3 rfl (fun b20 hb20 => ?_)
    refine .store 0 [_] [_, _, _, _, _, _] .ro rfl rfl rfl ty3 rfl rfl rfl rfl ?_;refine .re ?_;refine .seq ?_;refine .seq ?_;refine .region rfl ?_;refine .mv rfl rfl ?_
    obtain ⟨u21, hu21, r22⟩ := bind_some r19; clear r19
    refine .callW (b1 := []) (b2 := [_, _, _, _, _, _]) (s1 := []) [_] [] .ro rfl rfl Tryz.call199 rfl rfl (code_known_c (G := G) List.mem_cons_self s1 hu21) rfl B0 (fun v24 bo so G25 e26 B27 h23 => ?_)
    obtain ⟨F29, c30, rfl, rfl, rfl, hc31, hi32⟩ := h23
    refine .same (bl' := [_, _, _, _, _, _]) (sl' := [_]) rfl rfl rfl ?_;refine .re ?_;refine .cutBD (β := MK × Int) (fun y => mks y.1.1) (fun y => []) [(4, _), (5, _), (6, _), (7, _), (9, _)] (fun y => G25 :: Fs) (fun y => [(b20, .cells #[.int .i64 y.2] 3 (0, 0))]) [_, _, _, _, _] (fun y => [.g (marksG y.1)]) [] (fun y => (code_cells_J1 u5.1) y.2 = some r) ⟨rfl, rfl, rfl, rfl, rfl, trivial⟩ [1, 2, 3, 4, 5] rfl [] rfl ?_ ?_
    ·intro y hI
     obtain ⟨mk91, v92⟩ := y
     have r94 := hI; clear hI
     try dsimp only at r94
     refine .prune [(4, _), (5, _), (6, _), (7, _), (9, _)] ⟨rfl, rfl, rfl, rfl, rfl, trivial⟩ ?_;refine .same (bl' := [(b20, .cells #[.int .i64 v92] 3 (0, 0)), _, _, _, _, _]) (sl' := [.g (marksG mk91)]) (Fs' := G25 :: Fs) rfl rfl rfl ?_
     unfold code_cells_J1 at r94
     try dsimp only at r94
     refine .seq ?_;refine .drawL (.q 0 (.q 1 (.e 2 1 (.e 3 2 (.e 4 2 .nil))))) [_, _, _, _, _] (by kernel_rfl) (by kernel_rfl) (pick_mem [0, 1, 2, 3, 5] rfl) ?_;refine .dq (.load_own 1 rfl rfl ty140 rfl) rfl ?_;refine .dq (.load_own 0 rfl rfl ty3 rfl) rfl ?_;refine .store 4 [_] [_, _, _, _, _, _] .d1 rfl rfl rfl ty140 rfl rfl rfl rfl ?_;refine .clsL (HpLe.refl _) (pick_mem [0, 1, 2, 3, 5] rfl) ?_;refine .store 3 [_] [_, _, _, _, _, _] .d2 rfl rfl rfl ty3 rfl rfl rfl rfl ?_;refine .store 2 [_] [_, _, _, _, _, _] .d2 rfl rfl rfl ty33 rfl rfl rfl rfl ?_;refine .draw_end ?_
     cases r94
     refine .out (.inr ⟨_, rfl⟩) rfl (Cov.unmarkAll _ _ ?_)
     refine .outSD 6 (c := ⟨187, none⟩) [.cell 4 140, .cell 5 3, .cell 6 33] [_, _, _] Tryz.func187 Tryz.results187 ⟨RV.cell 4 rfl rfl ty140 rfl, RV.cell 3 rfl rfl ty3 rfl, RV.cell 2 rfl rfl ty33 rfl, trivial⟩ mcm ⟨rfl, rfl, rfl⟩
    ·intro hb97
     refine .block ?_;refine .pull 4 rfl [_, _, _, _, _, _] rfl ?_;refine .pull 4 rfl [_, _, _, _, _, _] rfl ?_;refine .pull 4 rfl [_, _, _, _, _, _] rfl ?_;refine .pull 4 rfl [_, _, _, _, _, _] rfl ?_;refine .pull 4 rfl [_, _, _, _, _, _] rfl ?_;refine .rangeX (α := Int) (β := Int × Int × Int × Int) (fun y => []) (fun y => [(b20, .cells #[.int .i64 y] 3 (0, 0)), (b9, .cells #[.int .i64 u5.1] 140 (0, 0)), (b4, .cells #[.int .i64 0] 33 (0, 0)), (b3, .cells #[.int .i64 0] 3 (0, 0)), (b2, .cells #[.int .i64 0] 140 (0, 0))]) (fun y => []) (fun y => []) (fun y => [(b20, .cells #[.int .i64 y.1] 3 (0, 0)), (b9, .cells #[.int .i64 u5.1] 140 (0, 0)), (b4, .cells #[.int .i64 y.2.1] 33 (0, 0)), (b3, .cells #[.int .i64 y.2.2.1] 3 (0, 0)), (b2, .cells #[.int .i64 y.2.2.2] 140 (0, 0))]) (fun y => []) (fun _ => .ret) (fun i y => code_cells_L2 (code_cells_J1 u5.1) u5.1 (List.drop i u21) y = some r) (fun y => some (y.2.2.2, y.2.2.1, y.2.1) = some r) (0)  c30 rfl rfl hc31 rfl (by simp) rfl rfl (hi32 _ G25 (HpLe.refl _) List.mem_cons_self) (fun _ _ hv => by obtain ⟨_, _, hv⟩ := hv; exact (Yr.len _ hv).trans rfl) (by kernel_rfl) r22 ?_ ?_ ?_
     ·intro l15 tm16 D28 i34 v35 v36 hV37 hI w38 S39 hw40
      have r41 := hI; clear hI
      obtain ⟨x42, h43, h44⟩ := hV37
      refine .dup (G := G25) List.mem_cons_self ?_
      obtain ⟨_, _, rfl, h46, h47⟩ := h44
      obtain ⟨v48, rfl, h49⟩ := h46
      obtain ⟨rfl, _⟩ := List.cons.inj h49
      obtain ⟨v50, rfl, h51⟩ := h47
      obtain ⟨rfl, _⟩ := List.cons.inj h51
      rw [drop_cons h43] at r41
      have r52 : code_cells_B2 (code_cells_J1 u5.1) u5.1 (code_cells_L2 (code_cells_J1 u5.1) u5.1 (List.drop (i34 + 1) u21)) x42 v35 = some r := r41; clear r41; unfold code_cells_B2 at r52; try dsimp only at r52
      refine .prune [(31, .int .i64 x42.1), (32, .int .i64 x42.2), (4, _), (5, _), (6, _), (7, _), (9, _)] ⟨rfl, rfl, rfl, rfl, rfl, rfl, rfl, trivial⟩ ?_;refine .same (bl' := [(b20, .cells #[.int .i64 v35] 3 (0, 0)), (b9, .cells #[.int .i64 u5.1] 140 (0, 0)), (b4, .cells #[.int .i64 0] 33 (0, 0)), (b3, .cells #[.int .i64 0] 3 (0, 0)), (b2, .cells #[.int .i64 0] 140 (0, 0)), _]) (sl' := []) (Fs' := G25 :: (G25 :: Fs)) rfl rfl rfl ?_;refine .region rfl ?_;refine .av rfl rfl ?_;refine .re ?_;refine .beginRound 5 rfl rfl [_, _, _, _, _, _] rfl ?_;refine .block ?_;refine .seq ?_;refine .seq ?_
      refine .region rfl ?_;refine .q .ro (.load_own 1 rfl rfl ty140 rfl) rfl ?_;refine .mv rfl rfl ?_
      obtain ⟨u53, hu53, r54⟩ := bind_some r52; clear r52
      refine .callS (b1 := []) (b2 := [_, _, _, _, _, _]) (s1 := []) [_, _] [] .ro rfl rfl Tryz.call126 rfl rfl (residue_Field_Has_c (G := G25) List.mem_cons_self  hu53) rfl (fun v55 bo so h56 => ?_)
      obtain ⟨rfl, rfl, rfl⟩ := h56
      refine .same (bl' := [_, _, _, _, _, _]) (sl' := []) rfl rfl rfl ?_;refine .q .ro (.not rfl) rfl ?_;refine .re ?_
      refine .cond rfl (fun c57 => ?_) (fun c57 => ?_)
      ·have r58 := ifT r54 c57; clear r54
       refine .seq ?_;refine .region rfl ?_;refine .store 4 [_] [_, _, _, _, _, _] .ro rfl rfl rfl ty140 rfl rfl rfl rfl ?_;refine .store 3 [_] [_, _, _, _, _, _] .ro rfl rfl rfl ty3 rfl rfl rfl rfl ?_;refine .store 2 [_] [_, _, _, _, _, _] .ro rfl rfl rfl ty33 rfl rfl rfl rfl ?_;refine .re ?_
       refine .round_ret (v35, 9, 0, 0) 5 rfl rfl r58 rfl rfl rfl (fun F hF => List.mem_cons_of_mem _ hF) (by simp)
      ·have r59 := ifBF r54 c57; clear r54
       refine .skip ?_;refine .region rfl ?_;refine .q .ro (.load_own 0 rfl rfl ty3 rfl) rfl ?_;refine .q .ro (.addw rfl rfl) rfl ?_;refine .store 0 [_] [_, _, _, _, _, _] .ro rfl rfl rfl ty3 rfl rfl rfl rfl ?_;refine .re ?_;refine .inBlock ?_
       refine .round_endX ((w64 (v35 + 1))) 5 rfl rfl r59 rfl rfl (fun F hF => List.mem_cons_of_mem _ hF) (by simp)
     ·intro q60 v35 hI hb61
      have r41 := hI; clear hI
      refine .prune [(4, _), (5, _), (6, _), (7, _), (9, _)] ⟨rfl, rfl, rfl, rfl, rfl, trivial⟩ ?_;refine .same (bl' := [(b20, .cells #[.int .i64 v35] 3 (0, 0)), (b9, .cells #[.int .i64 u5.1] 140 (0, 0)), (b4, .cells #[.int .i64 0] 33 (0, 0)), (b3, .cells #[.int .i64 0] 3 (0, 0)), (b2, .cells #[.int .i64 0] 140 (0, 0)), _, _]) (sl' := [_]) (Fs' := G25 :: Fs) rfl rfl rfl ?_
      refine .mkmerge 5 rfl [_, _, _, _, _, _] rfl (fun mk62 => ?_)
      rw [List.drop_length] at r41; rw [code_cells_L2] at r41; try dsimp only at r41
      refine .inBlock ?_
      refine .prune _ ?_ (Cov.same rfl rfl rfl (hb97 (mk62, v35) r41))
      exact ⟨rfl, rfl, rfl, rfl, rfl, trivial⟩
     ·intro q60 y hI hb61
      obtain ⟨x63, x65, x66, x67⟩ := y
      have r41 := hI; clear hI
      try dsimp only at r41
      refine .prune [(4, _), (5, _), (6, _)] ⟨rfl, rfl, rfl, trivial⟩ ?_;refine .same (bl' := [(b20, .cells #[.int .i64 x63] 3 (0, 0)), (b9, .cells #[.int .i64 u5.1] 140 (0, 0)), (b4, .cells #[.int .i64 x65] 33 (0, 0)), (b3, .cells #[.int .i64 x66] 3 (0, 0)), (b2, .cells #[.int .i64 x67] 140 (0, 0)), _, _]) (sl' := [_]) (Fs' := G25 :: Fs) rfl rfl rfl ?_
      refine .mkmerge 5 rfl [_, _, _, _, _, _] rfl (fun mk68 => ?_)
      cases r41
      refine .out (.inr ⟨_, rfl⟩) rfl (Cov.unmarkAll _ _ ?_)
      refine .outSD 6 (c := ⟨187, none⟩) [.cell 4 140, .cell 5 3, .cell 6 33] [_, _, _] Tryz.func187 Tryz.results187 ⟨RV.cell 4 rfl rfl ty140 rfl, RV.cell 3 rfl rfl ty3 rfl, RV.cell 2 rfl rfl ty33 rfl, trivial⟩ mcm ⟨rfl, rfl, rfl⟩
  ·intro hb14
   refine .split 22 rfl (fun c13 => ?_) (fun c13 => ?_)
   ·refine .g_off rfl rfl rfl ?_
    refine .g_off rfl rfl rfl ?_;refine .g_off rfl rfl rfl ?_;refine .g_off rfl rfl rfl ?_;refine .g_off rfl rfl rfl ?_;refine .q .ro (.pick_t rfl rfl) rfl ?_
    refine .prune _ ?_ (Cov.same rfl rfl rfl (hb14 () trivial))
    exact ⟨dor_t c13, rfl, rfl, rfl, rfl, rfl, trivial⟩
   ·refine .g_on rfl ?_
    refine .mv rfl rfl ?_;refine .g_on rfl ?_;refine .q .ro (.len_sl rfl rfl sl218) rfl ?_;refine .g_on rfl ?_;refine .q .ro (.fieldAddr 0 rfl fl45_0 ty3.sz rfl) rfl ?_;refine .g_on rfl ?_;refine .q .ro (.load_own 4 rfl rfl ty3 rfl) rfl ?_;refine .g_on rfl ?_;refine .q .ro (.geq rfl rfl) rfl ?_
    refine .q .ro (.pick_f rfl rfl) rfl ?_
    refine .prune _ ?_ (Cov.same rfl rfl rfl (hb14 () trivial))
    exact ⟨dor_f c13, rfl, rfl, rfl, rfl, rfl, trivial⟩
theorem residue_Field_Sub_c {Fs : List Hp} {G : Hp} {x0 : Int} {x1 : Int} {x2 : Int} {r : Int} (hG : G ∈ Fs)  (h : residue_Field_Sub x0 x1 x2 = some r) : RetS Tryz.prog 190 #[.int .i64 x0, .int .i64 x1, .int .i64 x2] Fs [] [] (fun v bo so => v = .int .i64 r ∧ bo = [] ∧ so = []) := by
 unfold residue_Field_Sub at h
 try dsimp only at h
 refine RetS.of (vs := [_, _, _]) Tryz.func190 rfl Tryz.ntmps190 [(0, _), (1, _), (2, _)] ⟨rfl, rfl, rfl, trivial⟩ rfl hG fun w0 S0 hS0 B0 => ?_
 refine .seq ?_;refine .region rfl ?_;refine .av rfl rfl ?_;refine .re ?_;refine .seq ?_;refine .region rfl ?_;refine .mv rfl rfl ?_;refine .mv rfl rfl ?_;refine .q .ro (.subw rfl rfl) rfl ?_
 refine .mv rfl rfl ?_;refine .q .ro (.addw rfl rfl) rfl ?_;refine .mv rfl rfl ?_
 obtain ⟨u1, hu1, r2⟩ := bind_some h; clear h
 refine .q .ro (.remt rfl rfl (nz_some hu1)) rfl ?_;refine .av rfl rfl ?_;refine .re ?_
 cases r2
 refine .retS (c := ⟨190, none⟩) (.inr ⟨_, rfl⟩) [.tmp 6] [_] rfl Tryz.func190 Tryz.results190 ⟨RV.tmp rfl, trivial⟩ mcm ⟨rfl, rfl, rfl⟩
theorem poly_open_c {Fs : List Hp} {G : Hp} {x0_0 : Int} {a1 : Option Addr} {k1 : Nat} {x1 : List (List Int)} {r : (Int × Int)} (hG : G ∈ Fs) (s1 : SlR (Rep.sl (Rep.int .i64)) G a1 k1 x1) (h : poly_open x0_0 x1 = some r) : RetS Tryz.prog 194 #[.agg #[.int .i64 x0_0], .slice a1 x1.length k1] Fs [] [] (fun v bo so => v = .tuple #[.int .i64 r.1, .int .i64 r.2] ∧ bo = [] ∧ so = []) := by
 unfold poly_open at h
 try dsimp only at h
 refine RetS.of (vs := [_, _]) Tryz.func194 rfl Tryz.ntmps194 [(0, _), (1, _)] ⟨rfl, rfl, trivial⟩ rfl hG fun w0 S0 hS0 B0 => ?_
 refine .seq ?_;refine .region rfl ?_
 refine .box [_] .ro rfl rfl rfl (fun b1 hb1 => ?_)
 refine .av rfl rfl ?_;refine .av rfl rfl ?_;refine .re ?_;refine .seq ?_;refine .region rfl ?_;refine .q .ro (.load_own_a 0 [_] rfl rfl ty45 rfl) rfl ?_
 obtain ⟨u2, hu2, r3⟩ := bind_some h; clear h
 refine .callS (b1 := []) (b2 := [_]) (s1 := []) [_] [] .ro rfl rfl Tryz.call72 rfl rfl (residue_Of_c (G := G) List.mem_cons_self  hu2) rfl (fun v5 bo so h4 => ?_)
 obtain ⟨rfl, rfl, rfl⟩ := h4
 refine .same (bl' := [_]) (sl' := []) rfl rfl rfl ?_;refine .mv rfl rfl ?_;refine .q .ro (.extract rfl rfl) rfl ?_;refine .q .ro (.extract rfl rfl) rfl ?_;refine .av rfl rfl ?_;refine .av rfl rfl ?_;refine .re ?_;refine .seq ?_;refine .seq ?_
 refine .region rfl ?_;refine .mv rfl rfl ?_;refine .q .ro (.not rfl) rfl ?_;refine .re ?_
 refine .cond rfl (fun c6 => ?_) (fun c6 => ?_)
 ·have r7 := ifT r3 c6; clear r3
  refine .seq ?_;refine .region rfl ?_;refine .av rfl rfl ?_;refine .av rfl rfl ?_;refine .re ?_
  cases r7
  refine .drop 1 0 [] _ rfl rfl ?_
  refine .retS (c := ⟨194, none⟩) (.inr ⟨_, rfl⟩) [.tmp 4, .tmp 5] [_, _] rfl Tryz.func194 Tryz.results194 ⟨RV.tmp rfl, RV.tmp rfl, trivial⟩ mcm ⟨rfl, rfl, rfl⟩
 ·have r8 := ifBF r3 c6; clear r3
  refine .skip ?_;refine .seq ?_;refine .region rfl ?_;refine .av rfl rfl ?_;refine .re ?_;refine .seq ?_;refine .seq ?_;refine .region rfl ?_;refine .mv rfl rfl ?_
  refine .q .ro (.len_sl rfl rfl sl51) rfl ?_;refine .mv rfl rfl ?_;refine .re ?_;refine .prune [(6, _), (8, _), (18, _), (19, _), (20, _)] ⟨rfl, rfl, rfl, rfl, rfl, trivial⟩ ?_;refine .cutB (β := Bool × Int) (fun y => [(8, .bool y.1)]) [(6, _)] (fun y => G :: Fs) (fun y => [(b1, .cells #[.int .i64 y.2] 45 (0, 0))]) [] (fun y => []) [] (fun y => (poly_open_J1 u2.1) y.1 y.2 = some r) ⟨rfl, trivial⟩ [] rfl [] rfl ?_ ?_
  ·intro y hI
   obtain ⟨v66, v67⟩ := y
   have r69 := hI; clear hI
   try dsimp only at r69
   refine .prune [(8, .bool v66), (6, _)] ⟨rfl, rfl, trivial⟩ ?_;refine .same (bl' := [(b1, .cells #[.int .i64 v67] 45 (0, 0))]) (sl' := []) (Fs' := G :: Fs) rfl rfl rfl ?_
   unfold poly_open_J1 at r69
   try dsimp only at r69
   refine .seq ?_;refine .seq ?_;refine .region rfl ?_;refine .mv rfl rfl ?_;refine .re ?_
   refine .cond rfl (fun c71 => ?_) (fun c71 => ?_)
   ·have r72 := ifT r69 c71; clear r69
    refine .seq ?_;refine .region rfl ?_;refine .av rfl rfl ?_;refine .av rfl rfl ?_;refine .re ?_
    cases r72
    refine .drop 1 0 [] _ rfl rfl ?_
    refine .retS (c := ⟨194, none⟩) (.inr ⟨_, rfl⟩) [.tmp 4, .tmp 5] [_, _] rfl Tryz.func194 Tryz.results194 ⟨RV.tmp rfl, RV.tmp rfl, trivial⟩ mcm ⟨rfl, rfl, rfl⟩
   ·have r73 := ifBF r69 c71; clear r69
    refine .skip ?_;refine .seq ?_;refine .region rfl ?_;refine .mv rfl rfl ?_;refine .av rfl rfl ?_;refine .av rfl rfl ?_;refine .re ?_
    cases r73
    refine .drop 1 0 [] _ rfl rfl ?_
    refine .retS (c := ⟨194, none⟩) (.inr ⟨_, rfl⟩) [.tmp 4, .tmp 5] [_, _] rfl Tryz.func194 Tryz.results194 ⟨RV.tmp rfl, RV.tmp rfl, trivial⟩ mcm ⟨rfl, rfl, rfl⟩
  ·intro hb74
   refine .block ?_
   refine .loop2 (α := Nat × List (List Int) × Bool) (fun y => [(8, .bool y.2.2), (20, .int .i64 (y.1 : Int))]) [(6, _), (18, _), (19, _)] (fun y => []) (fun y => []) [_] (fun y => []) [] (fun y => List.drop y.1 x1 = y.2.1 ∧ poly_open_L2 (poly_open_J1 u2.1) u2.1 x0_0 y.2.1 y.2.2 = some r) (fun y => y.2.1.length) (0, x1, false) ⟨rfl, r8⟩ ⟨rfl, rfl, rfl, rfl, rfl, trivial⟩ rfl rfl rfl (fun y hI hb10 => ?_)
   obtain ⟨i11, w12, v13⟩ := y
   obtain ⟨g14, r15⟩ := hI
   try dsimp only at g14 r15
   refine .prune [(8, .bool v13), (20, .int .i64 (i11 : Int)), (6, _), (18, _), (19, _)] ⟨rfl, rfl, rfl, rfl, rfl, trivial⟩ ?_;refine .same (bl' := [_]) (sl' := []) (Fs' := G :: Fs) rfl rfl rfl ?_
   cases w12 with
   | nil =>
    rw [poly_open_L2] at r15; try dsimp only at r15
    refine .seq ?_;refine .region rfl ?_;refine .q .ro (.lss rfl rfl) rfl ?_;refine .re ?_;refine .seq ?_
    refine .cond_dec rfl (fun c => absurd c (drop_nil g14)) (fun _ => ?_)
    refine .exit rfl ?_
    refine .prune _ ?_ (Cov.same rfl rfl rfl (hb74 (v13, x0_0) r15))
    exact ⟨rfl, rfl, trivial⟩
   | cons x16 xs17 =>
    have r18 : poly_open_B2 (poly_open_J1 u2.1) u2.1 x0_0 (poly_open_L2 (poly_open_J1 u2.1) u2.1 x0_0 xs17) x16 v13 = some r := r15; clear r15; unfold poly_open_B2 at r18; try dsimp only at r18
    refine .seq ?_;refine .region rfl ?_;refine .q .ro (.lss rfl rfl) rfl ?_;refine .re ?_;refine .seq ?_
    refine .cond_dec rfl (fun _ => ?_) (fun c => absurd (drop_lt g14) c)
    refine .skip ?_;refine .seq ?_;refine .block ?_;refine .seq ?_;refine .region rfl ?_
    obtain ⟨c19, p20, h21⟩ := SlR.get s1 (drop_idx g14)
    obtain ⟨a23, k24, rfl, s25⟩ := h21
    refine .q .ro (.idxR s1 rfl rfl (drop_idx g14) sl51 ty22.sz) rfl ?_;refine .q .ro (.load_rp p20 List.mem_cons_self rfl ty22 rfl) rfl ?_;refine .av rfl rfl ?_;refine .re ?_;refine .seq ?_;refine .seq ?_;refine .region rfl ?_;refine .mv rfl rfl ?_;refine .mv rfl rfl ?_
    obtain ⟨u26, hu26, r27⟩ := bind_some r18; clear r18
    refine .callS (b1 := []) (b2 := [_]) (s1 := []) [_, _] [] .ro rfl rfl Tryz.call73 rfl rfl (residue_Field_All_c (G := G) List.mem_cons_self s25 hu26) rfl (fun v28 bo so h29 => ?_)
    obtain ⟨rfl, rfl, rfl⟩ := h29
    refine .same (bl' := [_]) (sl' := []) rfl rfl rfl ?_;refine .q .ro (.not rfl) rfl ?_;refine .re ?_
    refine .cond rfl (fun c30 => ?_) (fun c30 => ?_)
    ·have r31 := ifT r27 c30; clear r27
     refine .seq ?_;refine .region rfl ?_;refine .av rfl rfl ?_;refine .av rfl rfl ?_;refine .re ?_;refine .prune [(4, _), (5, _)] ⟨rfl, rfl, trivial⟩ ?_
     cases r31
     refine .drop 1 0 [] _ rfl rfl ?_
     refine .retS (c := ⟨194, none⟩) (.inr ⟨_, rfl⟩) [.tmp 4, .tmp 5] [_, _] rfl Tryz.func194 Tryz.results194 ⟨RV.tmp rfl, RV.tmp rfl, trivial⟩ mcm ⟨rfl, rfl, rfl⟩
    ·have r32 := ifBF r27 c30; clear r27
     refine .skip ?_;refine .region rfl ?_;refine .mv rfl rfl ?_;refine .mv rfl rfl ?_;refine .cutR 4 (β := Unit) (fun y => [(33, .bool (decide ((v13 = true) ∨ (512 < (x16.length : Int)))))]) [(8, _), (20, _), (6, _), (18, _), (19, _)] (fun y => G :: Fs) (fun y => []) [_] (fun y => []) [] (fun y => True) ⟨rfl, rfl, rfl, rfl, rfl, trivial⟩ [0] rfl [] rfl ?_ ?_
     ·rintro _ _
      refine .prune [(33, .bool (decide ((v13 = true) ∨ (512 < (x16.length : Int))))), (8, _), (20, _), (6, _), (18, _), (19, _)] ⟨rfl, rfl, rfl, rfl, rfl, rfl, trivial⟩ ?_;refine .same (bl' := [_]) (sl' := []) (Fs' := G :: Fs) rfl rfl rfl ?_;refine .av rfl rfl ?_;refine .re ?_;refine .inBlock ?_;refine .region rfl ?_;refine .q .ro (.addw rfl rfl) rfl ?_;refine .mv rfl rfl ?_;refine .re ?_
      refine .prune _ ?_ (Cov.same rfl rfl rfl (hb10 ((i11 + 1), xs17, (decide ((v13 = true) ∨ (512 < (x16.length : Int))))) ⟨(drop_succ g14), r32⟩ (Nat.lt_succ_self _)))
      exact ⟨rfl, (congrArg (fun z => some (Value.int .i64 z)) (idx_wrap (SlR.len s1) g14)), rfl, rfl, rfl, trivial⟩
     ·intro hb33
      refine .split_b 29 rfl (fun c34 => ?_) (fun c34 => ?_)
      ·refine .g_off rfl rfl rfl ?_
       refine .g_off rfl rfl rfl ?_;refine .g_off rfl rfl rfl ?_;refine .q .ro (.pick_t rfl rfl) rfl ?_
       refine .prune _ ?_ (Cov.same rfl rfl rfl (hb33 () trivial))
       exact ⟨dor_t c34, rfl, rfl, rfl, rfl, rfl, trivial⟩
      ·refine .g_on rfl ?_
       refine .mv rfl rfl ?_;refine .g_on rfl ?_;refine .q .ro (.len_sl rfl rfl sl22) rfl ?_;refine .g_on rfl ?_;refine .q .ro (.gtr rfl rfl) rfl ?_;refine .q .ro (.pick_f rfl rfl) rfl ?_
       refine .prune _ ?_ (Cov.same rfl rfl rfl (hb33 () trivial))
       exact ⟨dor_f (bne_of c34), rfl, rfl, rfl, rfl, rfl, trivial⟩
theorem residue_Trim_c {Fs : List Hp} {G : Hp} {a0 : Option Addr} {k0 : Nat} {x0 : List Int} {r : (List Int)} (hG : G ∈ Fs) (s0 : SlR (Rep.int .i64) G a0 k0 x0) (h : residue_Trim x0 = some r) : RetS Tryz.prog 196 #[.slice a0 x0.length k0] Fs [] [] (fun v bo so => ∃ a0 : Option Addr, ∃ k0 : Nat, v = .slice a0 r.length k0 ∧ bo = [] ∧ so = [] ∧ SlR (Rep.int .i64) G a0 k0 r) := by
 unfold residue_Trim at h
 try dsimp only at h
 refine RetS.of (vs := [_]) Tryz.func196 rfl Tryz.ntmps196 [(0, _)] ⟨rfl, trivial⟩ rfl hG fun w0 S0 hS0 B0 => ?_
 refine .seq ?_;refine .region rfl ?_;refine .av rfl rfl ?_;refine .re ?_;refine .seq ?_;refine .region rfl ?_;refine .mv rfl rfl ?_;refine .q .ro (.len_sl rfl rfl sl22) rfl ?_;refine .av rfl rfl ?_
 refine .re ?_;refine .seq ?_;refine .cutB (β := Int) (fun y => [(3, .int .i64 y)]) [(0, _)] (fun y => G :: Fs) (fun y => []) [] (fun y => []) [] (fun y => (residue_Trim_J1 x0) y = some r) ⟨rfl, trivial⟩ [] rfl [] rfl ?_ ?_
 ·intro v55 hI
  have r57 := hI; clear hI
  refine .prune [(3, .int .i64 v55), (0, _)] ⟨rfl, rfl, trivial⟩ ?_;refine .same (bl' := []) (sl' := []) (Fs' := G :: Fs) rfl rfl rfl ?_
  unfold residue_Trim_J1 at r57
  try dsimp only at r57
  refine .seq ?_;refine .region rfl ?_;refine .mv rfl rfl ?_;refine .mv rfl rfl ?_
  obtain ⟨u59, hu59, r60⟩ := bind_some r57; clear r57
  obtain ⟨a61, k62, h63, s64⟩ := SlR.sub s0 hu59
  refine .q .ro (.sliceR s0 rfl hu59 sl22 ty3.sz (fun _ => .no) (fun h => .yes' rfl h) h63) rfl ?_;refine .av rfl rfl ?_;refine .re ?_
  cases r60
  refine .retS (c := ⟨196, none⟩) (.inr ⟨_, rfl⟩) [.tmp 2] [_] rfl Tryz.func196 Tryz.results196 ⟨RV.tmp rfl, trivial⟩ mcm ⟨a61, k62, rfl, rfl, rfl, s64⟩
 ·intro hb65
  refine .block ?_
  refine .loop2 (α := Nat × Int) (fun y => [(3, .int .i64 y.2)]) [(0, _)] (fun y => []) (fun y => []) [] (fun y => []) [] (fun y => residue_Trim_L2 (residue_Trim_J1 x0) x0 y.1 y.2 = some r) (fun y => y.1) (big, (x0.length : Int)) h ⟨rfl, rfl, trivial⟩ rfl rfl rfl (fun y hI hb94 => ?_)
  obtain ⟨n90, v92⟩ := y
  have r93 := hI; clear hI
  try dsimp only at r93
  refine .prune [(3, .int .i64 v92), (0, _)] ⟨rfl, rfl, trivial⟩ ?_;refine .same (bl' := []) (sl' := []) (Fs' := G :: Fs) rfl rfl rfl ?_
  obtain ⟨m97, rfl⟩ : ∃ m, n90 = m + 1 := by cases n90 with | zero => exact absurd (show (none : Option _) = some _ from r93) (by simp) | succ m => exact ⟨m, rfl⟩
  have r96 : residue_Trim_B2 (residue_Trim_J1 x0) x0 (residue_Trim_L2 (residue_Trim_J1 x0) x0 m97) v92 = some r := r93; clear r93; unfold residue_Trim_B2 at r96; try dsimp only at r96
  refine .seq ?_;refine .seq ?_;refine .region rfl ?_;refine .mv rfl rfl ?_;refine .q .ro (.gtr rfl rfl) rfl ?_;refine .mv rfl rfl ?_
  obtain ⟨u10, h11, r12⟩ := bind_some r96; clear r96
  refine .cutR 7 (β := Unit) (fun y => [(15, .bool u10)]) [(3, _), (0, _)] (fun y => G :: Fs) (fun y => []) [] (fun y => []) [] (fun y => True) ⟨rfl, rfl, trivial⟩ [] rfl [] rfl ?_ ?_
  ·rintro _ _
   refine .prune [(15, .bool u10), (3, _), (0, _)] ⟨rfl, rfl, rfl, trivial⟩ ?_;refine .same (bl' := []) (sl' := []) (Fs' := G :: Fs) rfl rfl rfl ?_;refine .re ?_
   refine .cond rfl (fun c13 => ?_) (fun c13 => ?_)
   ·have r14 := ifT r12 c13; clear r12
    refine .skip ?_;refine .block ?_;refine .region rfl ?_;refine .mv rfl rfl ?_;refine .q .ro (.subw rfl rfl) rfl ?_;refine .av rfl rfl ?_;refine .re ?_;refine .inBlock ?_
    refine .prune _ ?_ (Cov.same rfl rfl rfl (hb94 (m97, (w64 (v92 - 1))) r14 (Nat.lt_succ_self _)))
    exact ⟨rfl, rfl, trivial⟩
   ·have r15 := ifBF r12 c13; clear r12
    refine .exit rfl ?_
    refine .prune _ ?_ (Cov.same rfl rfl rfl (hb65 (v92) r15))
    exact ⟨rfl, rfl, trivial⟩
  ·intro hb16
   refine .split 8 rfl (fun c17 => ?_) (fun c17 => ?_)
   ·have r18 := ifT h11 c17
    refine .g_on rfl ?_;refine .mv rfl rfl ?_;refine .g_on rfl ?_;refine .mv rfl rfl ?_;refine .g_on rfl ?_;refine .q .ro (.subw rfl rfl) rfl ?_;refine .g_on rfl ?_
    obtain ⟨u19, hu19, r20⟩ := bind_some r18; clear r18
    obtain ⟨c21, p23, h24⟩ := SlR.get s0 hu19
    obtain rfl := h24
    refine .q .ro (.idxR s0 rfl rfl hu19 sl22 ty3.sz) rfl ?_;refine .g_on rfl ?_;refine .q .ro (.load_rp p23 List.mem_cons_self rfl ty3 rfl) rfl ?_;refine .g_on rfl ?_;refine .q .ro (.eql rfl rfl) rfl ?_;refine .q .ro (.pick_t rfl rfl) rfl ?_
    refine .prune _ ?_ (Cov.same rfl rfl rfl (hb16 () trivial))
    exact ⟨sval r20, rfl, rfl, trivial⟩
   ·have r25 := ifF h11 c17
    refine .g_off rfl rfl rfl ?_;refine .g_off rfl rfl rfl ?_;refine .g_off rfl rfl rfl ?_;refine .g_off rfl rfl rfl ?_;refine .g_off rfl rfl rfl ?_;refine .g_off rfl rfl rfl ?_;refine .q .ro (.pick_f rfl rfl) rfl ?_
    refine .prune _ ?_ (Cov.same rfl rfl rfl (hb16 () trivial))
    exact ⟨sval r25, rfl, rfl, trivial⟩
theorem residue_Trim_p_c {Fs : List Hp} {G : Hp} {a0 : Option Addr} {k0 : Nat} {x0 : List Int} {cc0 : List Value} {bb0 : Option Nat} {pre0 post0 : List Value} {r : ((Int × Int) × (List Int))} (hG : G ∈ Fs) (vva0 : VA a0 bb0 x0.length k0 pre0 cc0) (oo0 : OL (Rep.int .i64) G cc0 x0) (h : residue_Trim_p x0 = some r) : RetS Tryz.prog 196 #[.slice a0 x0.length k0] Fs [] [.g (viewG bb0 3 pre0 cc0 post0)] (fun v bo so => ∃ pq0 : Value, ∃ lc0 : List Value, v = pq0 ∧ bo = [] ∧ so = [.g (viewG bb0 3 pre0 lc0 post0)] ∧ PartV a0 1 pq0 r.1.1.toNat (r.1.2 - r.1.1).toNat ∧ OL (Rep.int .i64) G lc0 r.2 ∧ r.2.length = x0.length) := by
 unfold residue_Trim_p at h
 try dsimp only at h
 refine RetS.of (vs := [_]) Tryz.func196 rfl Tryz.ntmps196 [(0, _)] ⟨rfl, trivial⟩ rfl hG fun w0 S0 hS0 B0 => ?_
 refine .seq ?_;refine .region rfl ?_;refine .av rfl rfl ?_;refine .re ?_;refine .seq ?_;refine .region rfl ?_;refine .mv rfl rfl ?_;refine .q .ro (.len_sl rfl rfl sl22) rfl ?_;refine .av rfl rfl ?_
 refine .re ?_;refine .seq ?_;refine .cutB (β := Int) (fun y => [(3, .int .i64 y)]) [(0, _)] (fun y => G :: Fs) (fun y => []) [] (fun y => []) [_] (fun y => (residue_Trim_p_J1 x0) y = some r) ⟨rfl, trivial⟩ [] rfl [0] rfl ?_ ?_
 ·intro v56 hI
  have r58 := hI; clear hI
  refine .prune [(3, .int .i64 v56), (0, _)] ⟨rfl, rfl, trivial⟩ ?_;refine .same (bl' := []) (sl' := [_]) (Fs' := G :: Fs) rfl rfl rfl ?_
  unfold residue_Trim_p_J1 at r58
  try dsimp only at r58
  refine .seq ?_;refine .region rfl ?_;refine .mv rfl rfl ?_;refine .mv rfl rfl ?_
  obtain ⟨u60, hu60, r61⟩ := bind_some r58; clear r58
  refine .q .ro (.sliceP rfl (PartV.all vva0.1) hu60 sl22 ty3.sz (fun _ => .no) (fun h => .yes' rfl h)) rfl ?_;refine .av rfl rfl ?_;refine .re ?_
  cases r61
  refine .retS (c := ⟨196, none⟩) (.inr ⟨_, rfl⟩) [.tmp 2] [_] rfl Tryz.func196 Tryz.results196 ⟨RV.tmp rfl, trivial⟩ mcm ⟨_, cc0, rfl, rfl, rfl, (PartV.psub (PartV.all vva0.1) hu60), oo0, rfl⟩
 ·intro hb62
  refine .block ?_
  refine .loop2 (α := Nat × Int) (fun y => [(3, .int .i64 y.2)]) [(0, _)] (fun y => []) (fun y => []) [] (fun y => []) [_] (fun y => residue_Trim_p_L2 (residue_Trim_p_J1 x0) x0 y.1 y.2 = some r) (fun y => y.1) (big, (x0.length : Int)) h ⟨rfl, rfl, trivial⟩ rfl rfl rfl (fun y hI hb91 => ?_)
  obtain ⟨n87, v89⟩ := y
  have r90 := hI; clear hI
  try dsimp only at r90
  refine .prune [(3, .int .i64 v89), (0, _)] ⟨rfl, rfl, trivial⟩ ?_;refine .same (bl' := []) (sl' := [_]) (Fs' := G :: Fs) rfl rfl rfl ?_
  obtain ⟨m94, rfl⟩ : ∃ m, n87 = m + 1 := by cases n87 with | zero => exact absurd (show (none : Option _) = some _ from r90) (by simp) | succ m => exact ⟨m, rfl⟩
  have r93 : residue_Trim_p_B2 (residue_Trim_p_J1 x0) x0 (residue_Trim_p_L2 (residue_Trim_p_J1 x0) x0 m94) v89 = some r := r90; clear r90; unfold residue_Trim_p_B2 at r93; try dsimp only at r93
  refine .seq ?_;refine .seq ?_;refine .region rfl ?_;refine .mv rfl rfl ?_;refine .q .ro (.gtr rfl rfl) rfl ?_;refine .mv rfl rfl ?_
  obtain ⟨u10, h11, r12⟩ := bind_some r93; clear r93
  refine .cutR 7 (β := Unit) (fun y => [(15, .bool u10)]) [(3, _), (0, _)] (fun y => G :: Fs) (fun y => []) [] (fun y => []) [_] (fun y => True) ⟨rfl, rfl, trivial⟩ [] rfl [0] rfl ?_ ?_
  ·rintro _ _
   refine .prune [(15, .bool u10), (3, _), (0, _)] ⟨rfl, rfl, rfl, trivial⟩ ?_;refine .same (bl' := []) (sl' := [_]) (Fs' := G :: Fs) rfl rfl rfl ?_;refine .re ?_
   refine .cond rfl (fun c13 => ?_) (fun c13 => ?_)
   ·have r14 := ifT r12 c13; clear r12
    refine .skip ?_;refine .block ?_;refine .region rfl ?_;refine .mv rfl rfl ?_;refine .q .ro (.subw rfl rfl) rfl ?_;refine .av rfl rfl ?_;refine .re ?_;refine .inBlock ?_
    refine .prune _ ?_ (Cov.same rfl rfl rfl (hb91 (m94, (w64 (v89 - 1))) r14 (Nat.lt_succ_self _)))
    exact ⟨rfl, rfl, trivial⟩
   ·have r15 := ifBF r12 c13; clear r12
    refine .exit rfl ?_
    refine .prune _ ?_ (Cov.same rfl rfl rfl (hb62 (v89) r15))
    exact ⟨rfl, rfl, trivial⟩
  ·intro hb16
   refine .split 8 rfl (fun c17 => ?_) (fun c17 => ?_)
   ·have r18 := ifT h11 c17
    refine .g_on rfl ?_;refine .mv rfl rfl ?_;refine .g_on rfl ?_;refine .mv rfl rfl ?_;refine .g_on rfl ?_;refine .q .ro (.subw rfl rfl) rfl ?_;refine .g_on rfl ?_
    obtain ⟨u19, hu19, r20⟩ := bind_some r18; clear r18
    obtain ⟨c21, p23, h24⟩ := OL.get oo0 hu19
    obtain rfl := h24
    refine .q .ro (.idxV 0 rfl vva0 oo0 rfl rfl hu19 sl22 ty3.sz rfl rfl) rfl ?_;refine .g_on rfl ?_;refine .q .ro (.loadV 0 0 rfl vva0 oo0 rfl rfl hu19 p23 rfl (.inl ⟨rfl, rfl⟩) ty3 rfl) rfl ?_;refine .g_on rfl ?_;refine .q .ro (.eql rfl rfl) rfl ?_;refine .q .ro (.pick_t rfl rfl) rfl ?_
    refine .prune _ ?_ (Cov.same rfl rfl rfl (hb16 () trivial))
    exact ⟨sval r20, rfl, rfl, trivial⟩
   ·have r25 := ifF h11 c17
    refine .g_off rfl rfl rfl ?_;refine .g_off rfl rfl rfl ?_;refine .g_off rfl rfl rfl ?_;refine .g_off rfl rfl rfl ?_;refine .g_off rfl rfl rfl ?_;refine .g_off rfl rfl rfl ?_;refine .q .ro (.pick_f rfl rfl) rfl ?_
    refine .prune _ ?_ (Cov.same rfl rfl rfl (hb16 () trivial))
    exact ⟨sval r25, rfl, rfl, trivial⟩
theorem poly_own_c {Fs : List Hp} {G : Hp} {a0 : Option Addr} {k0 : Nat} {x0 : List Int} {r : (List Int)} (hG : G ∈ Fs) (s0 : SlR (Rep.int .i64) G a0 k0 x0) (h : poly_own x0 = some r) : RetS Tryz.prog 195 #[.slice a0 x0.length k0] Fs [] [] (fun v bo so => ∃ (oa0 : Option Addr) (ok0 : Nat) (oc0 : List Value), v = .slice oa0 r.length ok0 ∧ bo = [] ∧ so = [.s (.slice oa0 r.length ok0) 3 1 r.length oc0] ∧ OL (Rep.int .i64) G oc0 r) := by
 unfold poly_own at h
 try dsimp only at h
 refine RetS.of (vs := [_]) Tryz.func195 rfl Tryz.ntmps195 [(0, _)] ⟨rfl, trivial⟩ rfl hG fun w0 S0 hS0 B0 => ?_
 refine .seq ?_;refine .region rfl ?_;refine .av rfl rfl ?_;refine .re ?_;refine .seq ?_;refine .region rfl ?_;refine .mv rfl rfl ?_
 obtain ⟨u1, hu1, r2⟩ := bind_some h; clear h
 refine .callS (b1 := []) (b2 := []) (s1 := []) [_] [] .ro rfl rfl Tryz.call196 rfl rfl (residue_Trim_c (G := G) List.mem_cons_self s0 hu1) rfl (fun v4 bo so h3 => ?_)
 obtain ⟨a5, k6, rfl, rfl, rfl, s7⟩ := h3
 refine .same (bl' := []) (sl' := []) rfl rfl rfl ?_;refine .own_nil 3 1 ?_
 obtain ⟨u13, hu13, r14⟩ := bind_some r2; clear r2
 refine .appR (Q := (Rep.int .i64)) 0 .ro sl22 ty3 rfl rfl rfl rfl rfl (OL.nil (Rp' := (Rep.int .i64))) rfl rfl s7 rfl List.mem_cons_self hu13 rfl (fun a9 k10 cs11 o12 => ?_)
 refine .av rfl rfl ?_;refine .re ?_
 cases r14
 refine .retS (c := ⟨195, none⟩) (.inr ⟨_, rfl⟩) [.tmp 2] [_] rfl Tryz.func195 Tryz.results195 ⟨RV.tmp rfl, trivial⟩ mcm ⟨a9, k10, cs11, rfl, rfl, rfl, o12⟩
theorem residue_Field_Inverse_c {Fs : List Hp} {G : Hp} {x0 : Int} {x1 : Int} {r : Int} (hG : G ∈ Fs)  (h : residue_Field_Inverse x0 x1 = some r) : RetS Tryz.prog 197 #[.int .i64 x0, .int .i64 x1] Fs [] [] (fun v bo so => v = .int .i64 r ∧ bo = [] ∧ so = []) := by
 unfold residue_Field_Inverse at h
 try dsimp only at h
 refine RetS.of (vs := [_, _]) Tryz.func197 rfl Tryz.ntmps197 [(0, _), (1, _)] ⟨rfl, rfl, trivial⟩ rfl hG fun w0 S0 hS0 B0 => ?_
 refine .seq ?_;refine .region rfl ?_;refine .av rfl rfl ?_;refine .re ?_;refine .seq ?_;refine .region rfl ?_;refine .mv rfl rfl ?_;refine .mv rfl rfl ?_;refine .av rfl rfl ?_
 refine .av rfl rfl ?_;refine .av rfl rfl ?_;refine .av rfl rfl ?_;refine .re ?_;refine .seq ?_;refine .block ?_
 refine .loop2 (α := Nat × Int × Int × Int × Int) (fun y => [(5, .int .i64 y.2.1), (6, .int .i64 y.2.2.1), (7, .int .i64 y.2.2.2.1), (8, .int .i64 y.2.2.2.2)]) [(0, _)] (fun y => []) (fun y => []) [] (fun y => []) [] (fun y => residue_Field_Inverse_L1 x0 y.1 y.2.1 y.2.2.1 y.2.2.2.1 y.2.2.2.2 = some r) (fun y => y.1) (big, x0, x1, 0, 1) h ⟨rfl, rfl, rfl, rfl, rfl, trivial⟩ rfl rfl rfl (fun y hI hb22 => ?_)
 obtain ⟨n15, v17, v18, v19, v20⟩ := y
 have r21 := hI; clear hI
 try dsimp only at r21
 refine .prune [(5, .int .i64 v17), (6, .int .i64 v18), (7, .int .i64 v19), (8, .int .i64 v20), (0, _)] ⟨rfl, rfl, rfl, rfl, rfl, trivial⟩ ?_;refine .same (bl' := []) (sl' := []) (Fs' := G :: Fs) rfl rfl rfl ?_
 obtain ⟨m25, rfl⟩ : ∃ m, n15 = m + 1 := by cases n15 with | zero => exact absurd (show (none : Option _) = some _ from r21) (by simp) | succ m => exact ⟨m, rfl⟩
 have r24 : residue_Field_Inverse_B1 x0 (residue_Field_Inverse_L1 x0 m25) v17 v18 v19 v20 = some r := r21; clear r21; unfold residue_Field_Inverse_B1 at r24; try dsimp only at r24
 refine .seq ?_;refine .seq ?_;refine .region rfl ?_;refine .mv rfl rfl ?_;refine .q .ro (.neq rfl rfl) rfl ?_;refine .re ?_
 refine .cond_dec rfl (fun c26 => ?_) (fun c26 => ?_)
 ·have r27 := ifT r24 c26; clear r24
  refine .skip ?_;refine .block ?_;refine .seq ?_;refine .region rfl ?_;refine .mv rfl rfl ?_;refine .mv rfl rfl ?_
  obtain ⟨u28, hu28, r29⟩ := bind_some r27; clear r27
  refine .q .ro (.quow rfl rfl (nz_some hu28)) rfl ?_;refine .av rfl rfl ?_;refine .re ?_;refine .region rfl ?_;refine .mv rfl rfl ?_;refine .mv rfl rfl ?_;refine .mv rfl rfl ?_;refine .mv rfl rfl ?_;refine .q .ro (.mulw rfl rfl) rfl ?_
  refine .q .ro (.subw rfl rfl) rfl ?_;refine .mv rfl rfl ?_;refine .mv rfl rfl ?_;refine .mv rfl rfl ?_;refine .mv rfl rfl ?_;refine .q .ro (.mulw rfl rfl) rfl ?_;refine .q .ro (.subw rfl rfl) rfl ?_;refine .av rfl rfl ?_;refine .av rfl rfl ?_
  refine .av rfl rfl ?_;refine .av rfl rfl ?_;refine .re ?_;refine .prune [(5, _), (6, _), (7, _), (8, _), (0, _)] ⟨rfl, rfl, rfl, rfl, rfl, trivial⟩ ?_;refine .inBlock ?_
  refine .prune _ ?_ (Cov.same rfl rfl rfl (hb22 (m25, v18, (w64 (v17 - (w64 ((w64 (Int.tdiv v17 v18)) * v18)))), v20, (w64 (v19 - (w64 ((w64 (Int.tdiv v17 v18)) * v20))))) r29 (Nat.lt_succ_self _)))
  exact ⟨rfl, rfl, rfl, rfl, rfl, trivial⟩
 ·have r30 := ifF r24 c26; clear r24
  refine .exit rfl ?_;refine .seq ?_;refine .region rfl ?_;refine .mv rfl rfl ?_;refine .mv rfl rfl ?_
  obtain ⟨u31, hu31, r32⟩ := bind_some r30; clear r30
  refine .q .ro (.remt rfl rfl (nz_some hu31)) rfl ?_;refine .mv rfl rfl ?_;refine .q .ro (.addw rfl rfl) rfl ?_;refine .mv rfl rfl ?_
  obtain ⟨u33, hu33, r34⟩ := bind_some r32; clear r32
  refine .q .ro (.remt rfl rfl (nz_some hu33)) rfl ?_;refine .av rfl rfl ?_;refine .re ?_;refine .prune [(4, _)] ⟨rfl, trivial⟩ ?_
  cases r34
  refine .retS (c := ⟨197, none⟩) (.inr ⟨_, rfl⟩) [.tmp 4] [_] rfl Tryz.func197 Tryz.results197 ⟨RV.tmp rfl, trivial⟩ mcm ⟨rfl, rfl, rfl⟩
theorem poly_times_c {Fs : List Hp} {G : Hp} {x0 : Int} {a1 : Option Addr} {k1 : Nat} {x1 : List Int} {a2 : Option Addr} {k2 : Nat} {x2 : List Int} {r : (List Int)} (hG : G ∈ Fs) (s1 : SlR (Rep.int .i64) G a1 k1 x1) (s2 : SlR (Rep.int .i64) G a2 k2 x2) (h : poly_times x0 x1 x2 = some r) : RetS Tryz.prog 200 #[.int .i64 x0, .slice a1 x1.length k1, .slice a2 x2.length k2] Fs [] [] (fun v bo so => ∃ (oa0 : Option Addr) (ok0 : Nat) (oc0 : List Value), v = .slice oa0 r.length ok0 ∧ bo = [] ∧ so = [.s (.slice oa0 r.length ok0) 3 1 r.length oc0] ∧ OL (Rep.int .i64) G oc0 r) := by
 unfold poly_times at h
 try dsimp only at h
 refine RetS.of (vs := [_, _, _]) Tryz.func200 rfl Tryz.ntmps200 [(0, _), (1, _), (2, _)] ⟨rfl, rfl, rfl, trivial⟩ rfl hG fun w0 S0 hS0 B0 => ?_
 refine .seq ?_;refine .region rfl ?_;refine .av rfl rfl ?_;refine .re ?_;refine .seq ?_;refine .region rfl ?_;refine .mv rfl rfl ?_;refine .q .ro (.len_sl rfl rfl sl22) rfl ?_;refine .mv rfl rfl ?_
 refine .q .ro (.len_sl rfl rfl sl22) rfl ?_;refine .q .ro (.addw rfl rfl) rfl ?_;refine .q .ro (.subw rfl rfl) rfl ?_
 obtain ⟨u1, hu1, r2⟩ := bind_some h; clear h
 refine .makeR (G := G) (Q := (Rep.int .i64)) .ro sl22 ty3 rfl rfl rfl ((Rep.intI .i64 0) :) rfl rfl hu1 rfl rfl (fun b3 cs4 hb3 o5 => ?_)
 refine .av rfl rfl ?_;refine .re ?_;refine .seq ?_;refine .seq ?_;refine .region rfl ?_;refine .mv rfl rfl ?_;refine .q .ro (.len_sl rfl rfl sl22) rfl ?_;refine .mv rfl rfl ?_;refine .re ?_
 refine .block ?_
 refine .loop2 (α := Nat × List Int × List Int × Option Addr × Nat × List Value) (fun y => [(7, .slice y.2.2.2.1 y.2.2.1.length y.2.2.2.2.1), (19, .int .i64 (y.1 : Int))]) [(0, _), (2, _), (17, _), (18, _)] (fun y => []) (fun y => []) [] (fun y => [.s (.slice y.2.2.2.1 y.2.2.1.length y.2.2.2.2.1) 3 1 y.2.2.1.length y.2.2.2.2.2]) [] (fun y => OL (Rep.int .i64) G y.2.2.2.2.2 y.2.2.1 ∧ List.drop y.1 x1 = y.2.1 ∧ poly_times_L1 x0 x2 y.2.1 y.1 y.2.2.1 = some r) (fun y => y.2.1.length) (0, x1, u1, (some ⟨b3, 0, none⟩), u1.length, cs4) ⟨o5, rfl, r2⟩ ⟨rfl, rfl, rfl, rfl, rfl, rfl, trivial⟩ rfl rfl rfl (fun y hI hb56 => ?_)
 obtain ⟨i46, w47, v49, a50, k51, cs52⟩ := y
 obtain ⟨o53, g48, r55⟩ := hI
 try dsimp only at o53 g48 r55
 refine .prune [(7, .slice a50 v49.length k51), (19, .int .i64 (i46 : Int)), (0, _), (2, _), (17, _), (18, _)] ⟨rfl, rfl, rfl, rfl, rfl, rfl, trivial⟩ ?_;refine .same (bl' := []) (sl' := [.s (.slice a50 v49.length k51) 3 1 v49.length cs52]) (Fs' := G :: Fs) rfl rfl rfl ?_
 cases w47 with
 | nil =>
  rw [poly_times_L1] at r55; try dsimp only at r55
  refine .seq ?_;refine .region rfl ?_;refine .q .ro (.lss rfl rfl) rfl ?_;refine .re ?_;refine .seq ?_
  refine .cond_dec rfl (fun c => absurd c (drop_nil g48)) (fun _ => ?_)
  refine .exit rfl ?_;refine .seq ?_;refine .region rfl ?_;refine .mv rfl rfl ?_;refine .av rfl rfl ?_;refine .re ?_
  cases r55
  refine .retS (c := ⟨200, none⟩) (.inr ⟨_, rfl⟩) [.tmp 6] [_] rfl Tryz.func200 Tryz.results200 ⟨RV.tmp rfl, trivial⟩ mcm ⟨a50, k51, cs52, rfl, rfl, rfl, o53⟩
 | cons x62 xs63 =>
  have r61 : poly_times_B1 x0 x2 (poly_times_L1 x0 x2 xs63 (i46 + 1)) x62 i46 v49 = some r := r55; clear r55; unfold poly_times_B1 at r61; try dsimp only at r61
  refine .seq ?_;refine .region rfl ?_;refine .q .ro (.lss rfl rfl) rfl ?_;refine .re ?_;refine .seq ?_
  refine .cond_dec rfl (fun _ => ?_) (fun c => absurd (drop_lt g48) c)
  refine .skip ?_;refine .seq ?_;refine .block ?_;refine .seq ?_;refine .region rfl ?_;refine .mv rfl rfl ?_
  obtain ⟨c64, p65, h66⟩ := SlR.get s1 (drop_idx g48)
  obtain rfl := h66
  refine .q .ro (.idxR s1 rfl rfl (drop_idx g48) sl22 ty3.sz) rfl ?_;refine .q .ro (.load_rp p65 List.mem_cons_self rfl ty3 rfl) rfl ?_;refine .av rfl rfl ?_;refine .av rfl rfl ?_;refine .re ?_;refine .region rfl ?_;refine .mv rfl rfl ?_;refine .mv rfl rfl ?_;refine .mv rfl rfl ?_
  refine .owncap 0 rfl (fun h67 => ?_)
  obtain ⟨u68, hu68, r69⟩ := bind_some r61; clear r61
  refine .q .ro (.sliceP rfl (PartV.all h67) hu68 sl22 ty3.sz (fun h => .yes' rfl h) (fun _ => .no)) rfl ?_;refine .mv rfl rfl ?_;refine .mv rfl rfl ?_
  refine .toV 0 rfl (fun vb70 po71 va72 vb73 => ?_)
  obtain ⟨u74, hu74, r75⟩ := bind_some r69; clear r69
  refine .lendP 0 27 rfl va72 o53 (PartV.psub (PartV.all h67) hu68) rfl hu74 rfl (fun a76 k77 h78 o79 va80 => ?_)
  obtain ⟨u82, hu82, r83⟩ := bind_some r75; clear r75
  refine .callS (b1 := []) (b2 := []) (s1 := [_]) [_, _, _, _] [] .ro rfl rfl Tryz.call67 rfl rfl (residue_Field_AddTimes_c (G := G) List.mem_cons_self va80 o79 s2 hu82) rfl (fun v85 bo so h84 => ?_)
  obtain ⟨cs86, rfl, rfl, rfl, o87, hl88⟩ := h84
  refine .same (bl' := []) (sl' := [_]) rfl rfl rfl ?_
  refine .backP 0 rfl va72 o53 rfl hu74 o87 hl88 (fun cs90 hl92 o91 va93 => ?_)
  refine .ofV 0 rfl vb73 hl92 o91 rfl ?_;refine .reval 7 hl92 rfl ?_;refine .reval 25 hl92 rfl ?_;refine .re ?_;refine .prune [(7, _), (19, _), (0, _), (2, _), (17, _), (18, _)] ⟨rfl, rfl, rfl, rfl, rfl, rfl, trivial⟩ ?_;refine .inBlock ?_;refine .region rfl ?_;refine .q .ro (.addw rfl rfl) rfl ?_;refine .mv rfl rfl ?_
  refine .re ?_
  refine .prune _ ?_ (Cov.same rfl rfl rfl (hb56 ((i46 + 1), xs63, (lcpy v49 u68.1 u74.length u82), a50, k51, cs90) ⟨o91, (drop_succ g48), r83⟩ (Nat.lt_succ_self _)))
  exact ⟨rfl, (congrArg (fun z => some (Value.int .i64 z)) (idx_wrap (SlR.len s1) g48)), rfl, rfl, rfl, rfl, trivial⟩
theorem poly_Interpolate_c {Fs : List Hp} {G : Hp} {x0_0 : Int} {a1 : Option Addr} {k1 : Nat} {x1 : List (Int × Int)} {r : ((List Int) × Int)} (hG : G ∈ Fs) (s1 : SlR (Rep.pair (Rep.int .i64) (Rep.int .i64)) G a1 k1 x1) (h : poly_Interpolate x0_0 x1 = some r) : RetS Tryz.prog 188 #[.agg #[.int .i64 x0_0], .slice a1 x1.length k1] Fs [] [] (fun v bo so => ∃ (oa0 : Option Addr) (ok0 : Nat) (oc0 : List Value), v = .tuple #[.slice oa0 r.1.length ok0, .int .i64 r.2] ∧ bo = [] ∧ so = [.s (.slice oa0 r.1.length ok0) 3 1 r.1.length oc0] ∧ OL (Rep.int .i64) G oc0 r.1) := by
 unfold poly_Interpolate at h
 try dsimp only at h
 refine RetS.of (vs := [_, _]) Tryz.func188 rfl Tryz.ntmps188 [(0, _), (1, _)] ⟨rfl, rfl, trivial⟩ rfl hG fun w0 S0 hS0 B0 => ?_
 refine .seq ?_;refine .region rfl ?_
 refine .box [_] .ro rfl rfl rfl (fun b1 hb1 => ?_)
 refine .av rfl rfl ?_;refine .av rfl rfl ?_;refine .re ?_;refine .seq ?_;refine .region rfl ?_;refine .av rfl rfl ?_;refine .av rfl rfl ?_;refine .re ?_;refine .seq ?_
 refine .seq ?_;refine .region rfl ?_;refine .mv rfl rfl ?_;refine .q .ro (.len_sl rfl rfl sl81) rfl ?_;refine .mv rfl rfl ?_;refine .re ?_;refine .cutB (β := List Int × Option Addr × Nat × List Value × List Int × Option Addr × Nat × List Value × Int) (fun y => [(6, .slice y.2.1 y.1.length y.2.2.1), (7, .slice y.2.2.2.2.2.1 y.2.2.2.2.1.length y.2.2.2.2.2.2.1)]) [(2, _)] (fun y => G :: Fs) (fun y => [(b1, .cells #[.int .i64 y.2.2.2.2.2.2.2.2] 45 (0, 0))]) [] (fun y => [.s (.slice y.2.1 y.1.length y.2.2.1) 3 1 y.1.length y.2.2.2.1, .s (.slice y.2.2.2.2.2.1 y.2.2.2.2.1.length y.2.2.2.2.2.2.1) 3 1 y.2.2.2.2.1.length y.2.2.2.2.2.2.2.1]) [] (fun y => OL (Rep.int .i64) G y.2.2.2.1 y.1 ∧ OL (Rep.int .i64) G y.2.2.2.2.2.2.2.1 y.2.2.2.2.1 ∧ poly_Interpolate_J5 y.1 y.2.2.2.2.1 y.2.2.2.2.2.2.2.2 = some r) ⟨rfl, trivial⟩ [] rfl [] rfl ?_ ?_
 ·intro y hI
  obtain ⟨v10, a11, k12, cs13, v14, a15, k16, cs17, v18⟩ := y
  obtain ⟨o19, o20, r21⟩ := hI
  try dsimp only at o19 o20 r21
  refine .prune [(6, .slice a11 v10.length k12), (7, .slice a15 v14.length k16), (2, _)] ⟨rfl, rfl, rfl, trivial⟩ ?_;refine .same (bl' := [(b1, .cells #[.int .i64 v18] 45 (0, 0))]) (sl' := [.s (.slice a11 v10.length k12) 3 1 v10.length cs13, .s (.slice a15 v14.length k16) 3 1 v14.length cs17]) (Fs' := G :: Fs) rfl rfl rfl ?_
  unfold poly_Interpolate_J5 at r21
  try dsimp only at r21
  refine .seq ?_;refine .region rfl ?_;refine .q .ro (.load_own_a 0 [_] rfl rfl ty45 rfl) rfl ?_;refine .mv rfl rfl ?_;refine .mv rfl rfl ?_
  refine .freezeR 0 rfl rfl o19 [_] rfl B0 (fun G23 e24 B25 s26 => ?_)
  refine .freezeR 0 rfl rfl (OL.mono e24 o20) [] rfl B25 (fun G27 e28 B29 s30 => ?_)
  refine .lit [_, _] [(0, _), (1, _)] .ro sl51 ty22 rfl rfl rfl rfl rfl rfl (fun b31 hb31 => ?_)
  have o32 : OL (Rep.sl (Rep.int .i64)) G27 [.slice a11 v10.length k12, .slice a15 v14.length k16] ([v10, v14] : List (List Int)) := ((OL.cons rfl (Rep.slI (SlR.mono e28 s26)) (OL.cons rfl (Rep.slI s30) (OL.nil (Rp' := (Rep.sl (Rep.int .i64)))))) :)
  refine .reval 42 (n' := ([v10, v14] : List (List Int)).length) rfl rfl ?_
  refine .freezeR 0 rfl rfl o32 [] rfl B29 (fun G33 e34 B35 s36 => ?_)
  obtain ⟨u37, hu37, r38⟩ := bind_some r21; clear r21
  refine .callS (b1 := []) (b2 := [_]) (s1 := []) [_, _] [] .ro rfl rfl Tryz.call194 rfl rfl (poly_open_c (G := G33) List.mem_cons_self s36 hu37) rfl (fun v39 bo so h40 => ?_)
  obtain ⟨rfl, rfl, rfl⟩ := h40
  refine .same (bl' := [_]) (sl' := []) rfl rfl rfl ?_;refine .mv rfl rfl ?_;refine .q .ro (.extract rfl rfl) rfl ?_;refine .q .ro (.extract rfl rfl) rfl ?_;refine .av rfl rfl ?_;refine .av rfl rfl ?_;refine .re ?_;refine .seq ?_;refine .seq ?_
  refine .region rfl ?_;refine .mv rfl rfl ?_;refine .q .ro (.neq rfl rfl) rfl ?_;refine .re ?_
  refine .cond_dec rfl (fun c41 => ?_) (fun c41 => ?_)
  ·have r42 := ifT r38 c41; clear r38
   refine .seq ?_;refine .region rfl ?_;refine .mv rfl rfl ?_;refine .av rfl rfl ?_;refine .av rfl rfl ?_;refine .re ?_;refine .prune [(4, _), (5, _)] ⟨rfl, rfl, trivial⟩ ?_;refine .own_nil 3 1 ?_
   cases r42
   refine .drop 1 0 [] _ rfl rfl ?_
   refine .retS (c := ⟨188, none⟩) (.inr ⟨_, rfl⟩) [.tmp 4, .tmp 5] [_, _] rfl Tryz.func188 Tryz.results188 ⟨RV.tmp rfl, RV.tmp rfl, trivial⟩ mcm ⟨none, 0, [], rfl, rfl, rfl, (OL.nil (Rp' := (Rep.int .i64)))⟩
  ·have r43 := ifF r38 c41; clear r38
   refine .skip ?_;refine .seq ?_;refine .region rfl ?_
   refine .mkMap (Value.int .i64) (Value.bool) .ro rfl (fun b44 hb44 => ?_)
   refine .av rfl rfl ?_;refine .re ?_;refine .prune [(6, _), (7, _), (10, _), (12, _)] ⟨rfl, rfl, rfl, rfl, trivial⟩ ?_;refine .seq ?_;refine .seq ?_;refine .region rfl ?_;refine .mv rfl rfl ?_;refine .q .ro (.len_sl rfl rfl sl22) rfl ?_;refine .mv rfl rfl ?_
   refine .re ?_;refine .cutB (β := (List (Int × Bool)) × Int) (fun y => []) [(6, _), (7, _), (10, _)] (fun y => G33 :: Fs) (fun y => [(b44, mObj (Value.int .i64) (Value.bool) y.1), (b1, .cells #[.int .i64 y.2] 45 (0, 0))]) [] (fun y => []) [] (fun y => (poly_Interpolate_J3 v10 v14 u37.1) y.1 y.2 = some r) ⟨rfl, rfl, rfl, trivial⟩ [] rfl [] rfl ?_ ?_
   ·intro y hI
    obtain ⟨v46, v47⟩ := y
    have r48 := hI; clear hI
    try dsimp only at r48
    refine .prune [(6, _), (7, _), (10, _)] ⟨rfl, rfl, rfl, trivial⟩ ?_;refine .same (bl' := [(b44, mObj (Value.int .i64) (Value.bool) v46), (b1, .cells #[.int .i64 v47] 45 (0, 0))]) (sl' := []) (Fs' := G33 :: Fs) rfl rfl rfl ?_
    unfold poly_Interpolate_J3 at r48
    try dsimp only at r48
    refine .seq ?_;refine .region rfl ?_;refine .av rfl rfl ?_;refine .re ?_;refine .seq ?_;refine .region rfl ?_
    refine .lit [_] [(0, _)] .ro sl22 ty3 rfl rfl rfl rfl rfl rfl (fun b49 hb49 => ?_)
    have o50 : OL (Rep.int .i64) G33 [.int .i64 1] ([1] : List Int) := ((OL.cons rfl (Rep.intI .i64 1) (OL.nil (Rp' := (Rep.int .i64)))) :)
    refine .reval 62 (n' := ([1] : List Int).length) rfl rfl ?_;refine .av rfl rfl ?_;refine .re ?_;refine .seq ?_;refine .seq ?_;refine .region rfl ?_;refine .mv rfl rfl ?_;refine .q .ro (.len_sl rfl rfl sl22) rfl ?_;refine .mv rfl rfl ?_
    refine .re ?_;refine .cutB (β := Hp × List Int × Option Addr × Nat × List Value × (List (Int × Bool)) × Int) (fun y => [(15, .slice y.2.2.1 y.2.1.length y.2.2.2.1)]) [] (fun y => y.1 :: Fs) (fun y => [(b44, mObj (Value.int .i64) (Value.bool) y.2.2.2.2.2.1), (b1, .cells #[.int .i64 y.2.2.2.2.2.2] 45 (0, 0))]) [] (fun y => [.s (.slice y.2.2.1 y.2.1.length y.2.2.2.1) 3 1 y.2.1.length y.2.2.2.2.1]) [] (fun y => HpLe G33 y.1 ∧ Bd w0 S0 Fs y.1 ∧ OL (Rep.int .i64) y.1 y.2.2.2.2.1 y.2.1 ∧ poly_Interpolate_J1 y.2.1 y.2.2.2.2.2.1 y.2.2.2.2.2.2 = some r) trivial [] rfl [] rfl ?_ ?_
    ·intro y hI
     obtain ⟨G52, v53, a54, k55, cs56, v57, v58⟩ := y
     obtain ⟨e59, B60, o61, r62⟩ := hI
     try dsimp only at e59 B60 o61 r62
     refine .prune [(15, .slice a54 v53.length k55)] ⟨rfl, trivial⟩ ?_;refine .same (bl' := [(b44, mObj (Value.int .i64) (Value.bool) v57), (b1, .cells #[.int .i64 v58] 45 (0, 0))]) (sl' := [.s (.slice a54 v53.length k55) 3 1 v53.length cs56]) (Fs' := G52 :: Fs) rfl rfl rfl ?_
     unfold poly_Interpolate_J1 at r62
     try dsimp only at r62
     refine .seq ?_;refine .region rfl ?_;refine .mv rfl rfl ?_
     refine .freezeR 0 rfl rfl o61 [] rfl B60 (fun G63 e65 B66 s68 => ?_)
     obtain ⟨u69, hu69, r70⟩ := bind_some r62; clear r62
     refine .callS (b1 := []) (b2 := [_, _]) (s1 := []) [_] [] .ro rfl rfl Tryz.call195 rfl rfl (poly_own_c (G := G63) List.mem_cons_self s68 hu69) rfl (fun v71 bo so h72 => ?_)
     obtain ⟨a73, k74, cs75, rfl, rfl, rfl, o76⟩ := h72
     refine .same (bl' := [_, _]) (sl' := [_]) rfl rfl rfl ?_;refine .av rfl rfl ?_;refine .av rfl rfl ?_;refine .re ?_
     cases r70
     refine .drop 2 0 [] _ rfl rfl ?_
     refine .retS (c := ⟨188, none⟩) (.inr ⟨_, rfl⟩) [.tmp 4, .tmp 5] [_, _] rfl Tryz.func188 Tryz.results188 ⟨RV.tmp rfl, RV.tmp rfl, trivial⟩ mcm ⟨a73, k74, cs75, rfl, rfl, rfl, (OL.flat (Rep.flat_int _) o76)⟩
    ·intro hb78
     refine .block ?_;refine .own_nil 3 1 ?_;refine .pullS 1 rfl [_, _] rfl ?_;refine .pullS 1 rfl [_, _] rfl ?_
     refine .loop2 (α := Nat × List Int × Hp × List Int × Option Addr × Nat × List Value × List Int × Option Addr × Nat × List Value) (fun y => [(15, .slice y.2.2.2.2.1 y.2.2.2.1.length y.2.2.2.2.2.1), (16, .slice y.2.2.2.2.2.2.2.2.1 y.2.2.2.2.2.2.2.1.length y.2.2.2.2.2.2.2.2.2.1), (65, .int .i64 (y.1 : Int))]) [(7, _), (10, _), (63, _), (64, _)] (fun y => [y.2.2.1]) (fun y => []) [_, _] (fun y => [.s (.slice y.2.2.2.2.1 y.2.2.2.1.length y.2.2.2.2.2.1) 3 1 y.2.2.2.1.length y.2.2.2.2.2.2.1, .s (.slice y.2.2.2.2.2.2.2.2.1 y.2.2.2.2.2.2.2.1.length y.2.2.2.2.2.2.2.2.2.1) 3 1 y.2.2.2.2.2.2.2.1.length y.2.2.2.2.2.2.2.2.2.2]) [] (fun y => HpLe G33 y.2.2.1 ∧ Bd w0 S0 Fs y.2.2.1 ∧ OL (Rep.int .i64) y.2.2.1 y.2.2.2.2.2.2.1 y.2.2.2.1 ∧ OL (Rep.int .i64) y.2.2.1 y.2.2.2.2.2.2.2.2.2.2 y.2.2.2.2.2.2.2.1 ∧ List.drop y.1 v10 = y.2.1 ∧ poly_Interpolate_L2 poly_Interpolate_J1 v14 u37.1 v46 v47 y.2.1 y.1 y.2.2.2.1 y.2.2.2.2.2.2.2.1 = some r) (fun y => y.2.1.length) (0, v10, G33, ([] : List Int), none, 0, [], ([1] : List Int), (some ⟨b49, 0, none⟩), 1, [.int .i64 1]) ⟨(HpLe.refl _), B35, (OL.nil (Rp' := (Rep.int .i64))), o50, rfl, r48⟩ ⟨rfl, rfl, rfl, rfl, rfl, rfl, rfl, trivial⟩ rfl rfl rfl (fun y hI hb80 => ?_)
     obtain ⟨i82, w83, G84, v85, a86, k87, cs88, v89, a90, k91, cs92⟩ := y
     obtain ⟨e93, B94, o95, o96, g97, r98⟩ := hI
     try dsimp only at e93 B94 o95 o96 g97 r98
     refine .prune [(15, .slice a86 v85.length k87), (16, .slice a90 v89.length k91), (65, .int .i64 (i82 : Int)), (7, _), (10, _), (63, _), (64, _)] ⟨rfl, rfl, rfl, rfl, rfl, rfl, rfl, trivial⟩ ?_;refine .same (bl' := [_, _]) (sl' := [.s (.slice a86 v85.length k87) 3 1 v85.length cs88, .s (.slice a90 v89.length k91) 3 1 v89.length cs92]) (Fs' := G84 :: Fs) rfl rfl rfl ?_
     cases w83 with
     | nil =>
      rw [poly_Interpolate_L2] at r98; try dsimp only at r98
      refine .seq ?_;refine .region rfl ?_;refine .q .ro (.lss rfl rfl) rfl ?_;refine .re ?_;refine .seq ?_
      refine .cond_dec rfl (fun c => absurd c (drop_nil g97)) (fun _ => ?_)
      refine .exit rfl ?_;refine .pullS 1 rfl [_, _] rfl ?_;refine .drop 0 1 _ [_] rfl rfl ?_
      refine .prune _ ?_ (Cov.same rfl rfl rfl (hb78 (G84, v85, a86, k87, cs88, v46, v47) ⟨e93, B94, o95, r98⟩))
      exact ⟨rfl, trivial⟩
     | cons x99 xs100 =>
      have r101 : poly_Interpolate_B2 poly_Interpolate_J1 v14 u37.1 v46 v47 (poly_Interpolate_L2 poly_Interpolate_J1 v14 u37.1 v46 v47 xs100 (i82 + 1)) x99 i82 v85 v89 = some r := r98; clear r98; unfold poly_Interpolate_B2 at r101; try dsimp only at r101
      refine .seq ?_;refine .region rfl ?_;refine .q .ro (.lss rfl rfl) rfl ?_;refine .re ?_;refine .seq ?_
      refine .cond_dec rfl (fun _ => ?_) (fun c => absurd (drop_lt g97) c)
      refine .skip ?_;refine .seq ?_;refine .block ?_;refine .seq ?_;refine .region rfl ?_;refine .mv rfl rfl ?_
      obtain ⟨c102, p103, h104⟩ := SlR.get (SlR.mono (HpLe.trans (HpLe.trans e28 e34) e93) s26) (drop_idx g97)
      obtain rfl := h104
      refine .q .ro (.idxR (SlR.mono (HpLe.trans (HpLe.trans e28 e34) e93) s26) rfl rfl (drop_idx g97) sl22 ty3.sz) rfl ?_;refine .q .ro (.load_rp p103 List.mem_cons_self rfl ty3 rfl) rfl ?_;refine .av rfl rfl ?_;refine .av rfl rfl ?_;refine .re ?_;refine .seq ?_
      refine .freezeR 0 rfl rfl o95 [_] rfl B94 (fun G105 e106 B107 s108 => ?_)
      refine .freezeR 0 rfl rfl (OL.mono e106 o96) [] rfl B107 (fun G109 e110 B111 s112 => ?_)
      refine .drawL (.q 0 (.q 1 (.q 2 (.q 3 (.q 4 (.q 5 (.q 6 (.q 7 (.q 8 (.q 11 (.q 12 (.q 13 (.q 14 (.e 9 1 (.e 10 1 (.e 15 1 (.e 16 1 (.e 17 1 (.q 18 .nil))))))))))))))))))) [_, _] (by kernel_rfl) (by kernel_rfl) (pick_mem [0, 1] rfl) ?_;refine .dq (.move rfl) rfl ?_;refine .dq (.move rfl) rfl ?_;refine .dq (.move rfl) rfl ?_;refine .dq (.move rfl) rfl ?_
      obtain ⟨u113, hu113, r114⟩ := bind_some r101; clear r101
      obtain ⟨c115, p116, h117⟩ := SlR.get (SlR.mono (HpLe.trans (HpLe.trans (HpLe.trans e34 e93) e106) e110) s30) hu113
      obtain rfl := h117
      refine .dq (.idxR (SlR.mono (HpLe.trans (HpLe.trans (HpLe.trans e34 e93) e106) e110) s30) rfl rfl hu113 sl22 ty3.sz) rfl ?_;refine .dq (.load_rp p116 List.mem_cons_self rfl ty3 rfl) rfl ?_;refine .dq (.move rfl) rfl ?_;refine .dq (.move rfl) rfl ?_;refine .dq (.move rfl) rfl ?_;refine .dq (.move rfl) rfl ?_;refine .dq (.move rfl) rfl ?_;refine .dq (.move rfl) rfl ?_;refine .dq (.move rfl) rfl ?_
      obtain ⟨u118, hu118, r119⟩ := bind_some r114; clear r114
      refine .callS (b1 := []) (b2 := [_, _]) (s1 := []) [_, _, _] [] .d1 rfl rfl Tryz.call79 rfl rfl (residue_Field_Value_c (G := G109) List.mem_cons_self (SlR.mono e110 s108) hu118) rfl (fun v120 bo so h121 => ?_)
      obtain ⟨rfl, rfl, rfl⟩ := h121
      refine .same (bl' := [_, _]) (sl' := []) rfl rfl rfl ?_;refine .clsL (HpLe.refl _) (pick_mem [0, 1] rfl) ?_
      obtain ⟨u122, hu122, r123⟩ := bind_some r119; clear r119
      refine .callS (b1 := []) (b2 := [_, _]) (s1 := []) [_, _, _] [] .d1 rfl rfl Tryz.call190 rfl rfl (residue_Field_Sub_c (G := G109) List.mem_cons_self  hu122) rfl (fun v124 bo so h125 => ?_)
      obtain ⟨rfl, rfl, rfl⟩ := h125
      refine .same (bl' := [_, _]) (sl' := []) rfl rfl rfl ?_;refine .clsL (HpLe.refl _) (pick_mem [0, 1] rfl) ?_
      obtain ⟨u126, hu126, r127⟩ := bind_some r123; clear r123
      refine .callS (b1 := []) (b2 := [_, _]) (s1 := []) [_, _, _] [] .d1 rfl rfl Tryz.call79 rfl rfl (residue_Field_Value_c (G := G109) List.mem_cons_self s112 hu126) rfl (fun v128 bo so h129 => ?_)
      obtain ⟨rfl, rfl, rfl⟩ := h129
      refine .same (bl' := [_, _]) (sl' := []) rfl rfl rfl ?_;refine .clsL (HpLe.refl _) (pick_mem [0, 1] rfl) ?_
      obtain ⟨u130, hu130, r131⟩ := bind_some r127; clear r127
      refine .callS (b1 := []) (b2 := [_, _]) (s1 := []) [_, _] [] .d1 rfl rfl Tryz.call197 rfl rfl (residue_Field_Inverse_c (G := G109) List.mem_cons_self  hu130) rfl (fun v132 bo so h133 => ?_)
      obtain ⟨rfl, rfl, rfl⟩ := h133
      refine .same (bl' := [_, _]) (sl' := []) rfl rfl rfl ?_;refine .clsL (HpLe.refl _) (pick_mem [0, 1] rfl) ?_
      obtain ⟨u134, hu134, r135⟩ := bind_some r131; clear r131
      refine .callS (b1 := []) (b2 := [_, _]) (s1 := []) [_, _, _] [] .d1 rfl rfl Tryz.call77 rfl rfl (residue_Field_Mul_c (G := G109) List.mem_cons_self  hu134) rfl (fun v136 bo so h137 => ?_)
      obtain ⟨rfl, rfl, rfl⟩ := h137
      refine .same (bl' := [_, _]) (sl' := []) rfl rfl rfl ?_;refine .clsL (HpLe.refl _) (pick_mem [0, 1] rfl) ?_;refine .dq (.assign rfl) rfl ?_;refine .draw_end ?_;refine .prune [(15, _), (16, _), (65, _), (7, _), (10, _), (63, _), (64, _), (18, _), (19, _)] ⟨rfl, rfl, rfl, rfl, rfl, rfl, rfl, rfl, rfl, trivial⟩ ?_;refine .seq ?_;refine .region rfl ?_;refine .mv rfl rfl ?_;refine .q .ro (.len_sl rfl rfl sl22) rfl ?_
      obtain ⟨u138, hu138, r139⟩ := bind_some r135; clear r135
      refine .makeR (G := G109) (Q := (Rep.int .i64)) .ro sl22 ty3 rfl rfl rfl ((Rep.intI .i64 0) :) rfl rfl hu138 rfl rfl (fun b140 cs141 hb140 o142 => ?_)
      refine .av rfl rfl ?_;refine .re ?_;refine .seq ?_;refine .region rfl ?_;refine .mv rfl rfl ?_;refine .mv rfl rfl ?_
      refine .owncap 0 rfl (fun h143 => ?_)
      obtain ⟨u144, hu144, r145⟩ := bind_some r139; clear r139
      refine .copyG 0 (Q := (Rep.int .i64)) .ro sl22 ty3.sz rfl o142 hu144 rfl (PartV.all h143) rfl (SrcV.rd (SlR.mono e110 s108) List.mem_cons_self) rfl (fun cs146 hlcs146 o147 => ?_)
      refine .reval 90 hlcs146 rfl ?_;refine .reval 20 hlcs146 rfl ?_;refine .reval 91 hlcs146 rfl ?_;refine .re ?_;refine .seq ?_;refine .region rfl ?_;refine .mv rfl rfl ?_;refine .mv rfl rfl ?_;refine .mv rfl rfl ?_
      refine .mv rfl rfl ?_
      refine .toV 0 rfl (fun vb148 po149 va150 vb151 => ?_)
      obtain ⟨u152, hu152, r153⟩ := bind_some r145; clear r145
      refine .callS (b1 := []) (b2 := [_, _]) (s1 := [_]) [_, _, _, _] [] .ro rfl rfl Tryz.call67 rfl rfl (residue_Field_AddTimes_c (G := G109) List.mem_cons_self va150 o147 s112 hu152) rfl (fun v154 bo so h155 => ?_)
      obtain ⟨cs156, rfl, rfl, rfl, o157, hl158⟩ := h155
      refine .same (bl' := [_, _]) (sl' := [_]) rfl rfl rfl ?_;refine .ofV 0 rfl vb151 hl158 o157 rfl ?_;refine .reval 90 hl158 rfl ?_;refine .reval 20 hl158 rfl ?_;refine .reval 91 hl158 rfl ?_;refine .reval 95 hl158 rfl ?_;refine .re ?_;refine .prune [(16, _), (65, _), (7, _), (10, _), (63, _), (64, _), (18, _), (20, _)] ⟨rfl, rfl, rfl, rfl, rfl, rfl, rfl, rfl, trivial⟩ ?_;refine .seq ?_
      refine .region rfl ?_;refine .mv rfl rfl ?_;refine .av rfl rfl ?_;refine .re ?_;refine .region rfl ?_;refine .mv rfl rfl ?_;refine .mv rfl rfl ?_;refine .mv rfl rfl ?_;refine .mv rfl rfl ?_
      obtain ⟨u159, hu159, r160⟩ := bind_some r153; clear r153
      refine .callS (b1 := []) (b2 := [_, _]) (s1 := []) [_, _, _] [] .ro rfl rfl Tryz.call190 rfl rfl (residue_Field_Sub_c (G := G109) List.mem_cons_self  hu159) rfl (fun v161 bo so h162 => ?_)
      obtain ⟨rfl, rfl, rfl⟩ := h162
      refine .same (bl' := [_, _]) (sl' := [_]) rfl rfl rfl ?_
      refine .lit [_, _] [(0, _), (1, _)] .ro sl22 ty3 rfl rfl rfl rfl rfl rfl (fun b163 hb163 => ?_)
      have o164 : OL (Rep.int .i64) G109 [.int .i64 u159, .int .i64 1] ([u159, 1] : List Int) := ((OL.cons rfl (Rep.intI .i64 u159) (OL.cons rfl (Rep.intI .i64 1) (OL.nil (Rp' := (Rep.int .i64))))) :)
      refine .reval 105 (n' := ([u159, 1] : List Int).length) rfl rfl ?_
      refine .freezeR 0 rfl rfl o164 [_] rfl B111 (fun G165 e166 B167 s169 => ?_)
      obtain ⟨u170, hu170, r171⟩ := bind_some r160; clear r160
      refine .callS (b1 := []) (b2 := [_, _]) (s1 := []) [_, _, _] [] .ro rfl rfl Tryz.call200 rfl rfl (poly_times_c (G := G165) List.mem_cons_self (SlR.mono e166 s112) s169 hu170) rfl (fun v172 bo so h173 => ?_)
      obtain ⟨a174, k175, cs176, rfl, rfl, rfl, o177⟩ := h173
      refine .same (bl' := [_, _]) (sl' := [_, _]) rfl rfl rfl ?_;refine .av rfl rfl ?_;refine .re ?_;refine .inBlock ?_;refine .region rfl ?_;refine .q .ro (.addw rfl rfl) rfl ?_;refine .mv rfl rfl ?_;refine .re ?_;refine .pullS 1 rfl [_, _] rfl ?_
      refine .prune _ ?_ (Cov.same rfl rfl rfl (hb80 ((i82 + 1), xs100, G165, u152, (some ⟨b140, 0, none⟩), u138.length, cs156, u170, a174, k175, cs176) ⟨(HpLe.trans (HpLe.trans (HpLe.trans e93 e106) e110) e166), B167, (OL.mono e166 o157), o177, (drop_succ g97), r171⟩ (Nat.lt_succ_self _)))
      exact ⟨rfl, rfl, (congrArg (fun z => some (Value.int .i64 z)) (idx_wrap (SlR.len (SlR.mono (HpLe.trans e28 e34) s26)) g97)), rfl, rfl, rfl, rfl, trivial⟩
   ·intro hb178
    refine .block ?_
    refine .loop2 (α := Nat × List Int × (List (Int × Bool))) (fun y => [(52, .int .i64 (y.1 : Int))]) [(6, _), (7, _), (10, _), (12, _), (50, _), (51, _)] (fun y => []) (fun y => [(b44, mObj (Value.int .i64) (Value.bool) y.2.2)]) [_] (fun y => []) [] (fun y => List.drop y.1 v10 = y.2.1 ∧ poly_Interpolate_L4 (poly_Interpolate_J3 v10 v14 u37.1) v18 y.2.1 y.2.2 = some r) (fun y => y.2.1.length) (0, v10, ([] : List (Int × Bool))) ⟨rfl, r43⟩ ⟨rfl, rfl, rfl, rfl, rfl, rfl, rfl, trivial⟩ rfl rfl rfl (fun y hI hb179 => ?_)
    obtain ⟨i180, w181, v182⟩ := y
    obtain ⟨g183, r184⟩ := hI
    try dsimp only at g183 r184
    refine .prune [(52, .int .i64 (i180 : Int)), (6, _), (7, _), (10, _), (12, _), (50, _), (51, _)] ⟨rfl, rfl, rfl, rfl, rfl, rfl, rfl, trivial⟩ ?_;refine .same (bl' := [(b44, mObj (Value.int .i64) (Value.bool) v182), _]) (sl' := []) (Fs' := G33 :: Fs) rfl rfl rfl ?_
    cases w181 with
    | nil =>
     rw [poly_Interpolate_L4] at r184; try dsimp only at r184
     refine .seq ?_;refine .region rfl ?_;refine .q .ro (.lss rfl rfl) rfl ?_;refine .re ?_;refine .seq ?_
     refine .cond_dec rfl (fun c => absurd c (drop_nil g183)) (fun _ => ?_)
     refine .exit rfl ?_
     refine .prune _ ?_ (Cov.same rfl rfl rfl (hb178 (v182, v18) r184))
     exact ⟨rfl, rfl, rfl, trivial⟩
    | cons x185 xs186 =>
     have r187 : poly_Interpolate_B4 (poly_Interpolate_J3 v10 v14 u37.1) v18 (poly_Interpolate_L4 (poly_Interpolate_J3 v10 v14 u37.1) v18 xs186) x185 v182 = some r := r184; clear r184; unfold poly_Interpolate_B4 at r187; try dsimp only at r187
     refine .seq ?_;refine .region rfl ?_;refine .q .ro (.lss rfl rfl) rfl ?_;refine .re ?_;refine .seq ?_
     refine .cond_dec rfl (fun _ => ?_) (fun c => absurd (drop_lt g183) c)
     refine .skip ?_;refine .seq ?_;refine .block ?_;refine .seq ?_;refine .region rfl ?_
     obtain ⟨c189, p191, h192⟩ := SlR.get (SlR.mono (HpLe.trans e28 e34) s26) (drop_idx g183)
     obtain rfl := h192
     refine .q .ro (.idxR (SlR.mono (HpLe.trans e28 e34) s26) rfl rfl (drop_idx g183) sl22 ty3.sz) rfl ?_;refine .q .ro (.load_rp p191 List.mem_cons_self rfl ty3 rfl) rfl ?_;refine .av rfl rfl ?_;refine .re ?_;refine .seq ?_;refine .seq ?_;refine .region rfl ?_;refine .mv rfl rfl ?_;refine .mv rfl rfl ?_
     refine .q .ro (.mapGet 0 (f := Value.int .i64) (g := Value.bool) (l := v182) (x := x185) (z := false) rfl rfl rfl Tryz.underlying303 Tryz.underlying3 ik_int ij_int (by kernel_rfl)) rfl ?_;refine .re ?_
     refine .cond rfl (fun c193 => ?_) (fun c193 => ?_)
     ·have r196 := ifT r187 c193; clear r187
      refine .seq ?_;refine .region rfl ?_;refine .av rfl rfl ?_;refine .av rfl rfl ?_;refine .re ?_;refine .prune [(4, _), (5, _)] ⟨rfl, rfl, trivial⟩ ?_;refine .own_nil 3 1 ?_
      cases r196
      refine .drop 2 0 [] _ rfl rfl ?_
      refine .retS (c := ⟨188, none⟩) (.inr ⟨_, rfl⟩) [.tmp 4, .tmp 5] [_, _] rfl Tryz.func188 Tryz.results188 ⟨RV.tmp rfl, RV.tmp rfl, trivial⟩ mcm ⟨none, 0, [], rfl, rfl, rfl, (OL.nil (Rp' := (Rep.int .i64)))⟩
     ·have r198 := ifBF r187 c193; clear r187
      refine .skip ?_;refine .region rfl ?_;refine .mv rfl rfl ?_;refine .mv rfl rfl ?_;refine .mapPut 0 (f := Value.int .i64) (g := Value.bool) (l := v182) (x := x185) (y := true) (.inl rfl) .ro rfl rfl rfl rfl Tryz.underlying303 Tryz.underlying3 ik_int ij_int _ rfl ?_;refine .re ?_;refine .inBlock ?_;refine .region rfl ?_;refine .q .ro (.addw rfl rfl) rfl ?_
      refine .mv rfl rfl ?_;refine .re ?_
      refine .prune _ ?_ (Cov.same rfl rfl rfl (hb179 ((i180 + 1), xs186, (mput v182 x185 true)) ⟨(drop_succ g183), r198⟩ (Nat.lt_succ_self _)))
      exact ⟨(congrArg (fun z => some (Value.int .i64 z)) (idx_wrap (SlR.len (SlR.mono (HpLe.trans e28 e34) s26)) g183)), rfl, rfl, rfl, rfl, rfl, rfl, trivial⟩
 ·intro hb199
  refine .block ?_;refine .own_nil 3 1 ?_;refine .own_nil 3 1 ?_;refine .pullS 1 rfl [_, _] rfl ?_
  refine .loop2 (α := Nat × (List (Int × Int)) × List Int × Option Addr × Nat × List Value × List Int × Option Addr × Nat × List Value) (fun y => [(6, .slice y.2.2.2.1 y.2.2.1.length y.2.2.2.2.1), (7, .slice y.2.2.2.2.2.2.2.1 y.2.2.2.2.2.2.1.length y.2.2.2.2.2.2.2.2.1), (23, .int .i64 (y.1 : Int))]) [(2, _), (21, _), (22, _)] (fun y => []) (fun y => []) [_] (fun y => [.s (.slice y.2.2.2.1 y.2.2.1.length y.2.2.2.2.1) 3 1 y.2.2.1.length y.2.2.2.2.2.1, .s (.slice y.2.2.2.2.2.2.2.1 y.2.2.2.2.2.2.1.length y.2.2.2.2.2.2.2.2.1) 3 1 y.2.2.2.2.2.2.1.length y.2.2.2.2.2.2.2.2.2]) [] (fun y => OL (Rep.int .i64) G y.2.2.2.2.2.1 y.2.2.1 ∧ OL (Rep.int .i64) G y.2.2.2.2.2.2.2.2.2 y.2.2.2.2.2.2.1 ∧ List.drop y.1 x1 = y.2.1 ∧ poly_Interpolate_L6 poly_Interpolate_J5 x0_0 y.2.1 y.2.2.1 y.2.2.2.2.2.2.1 = some r) (fun y => y.2.1.length) (0, x1, ([] : List Int), none, 0, [], ([] : List Int), none, 0, []) ⟨(OL.nil (Rp' := (Rep.int .i64))), (OL.nil (Rp' := (Rep.int .i64))), rfl, h⟩ ⟨rfl, rfl, rfl, rfl, rfl, rfl, trivial⟩ rfl rfl rfl (fun y hI hb201 => ?_)
  obtain ⟨i202, w203, v204, a205, k206, cs207, v208, a209, k210, cs211⟩ := y
  obtain ⟨o212, o213, g214, r215⟩ := hI
  try dsimp only at o212 o213 g214 r215
  refine .prune [(6, .slice a205 v204.length k206), (7, .slice a209 v208.length k210), (23, .int .i64 (i202 : Int)), (2, _), (21, _), (22, _)] ⟨rfl, rfl, rfl, rfl, rfl, rfl, trivial⟩ ?_;refine .same (bl' := [_]) (sl' := [.s (.slice a205 v204.length k206) 3 1 v204.length cs207, .s (.slice a209 v208.length k210) 3 1 v208.length cs211]) (Fs' := G :: Fs) rfl rfl rfl ?_
  cases w203 with
  | nil =>
   rw [poly_Interpolate_L6] at r215; try dsimp only at r215
   refine .seq ?_;refine .region rfl ?_;refine .q .ro (.lss rfl rfl) rfl ?_;refine .re ?_;refine .seq ?_
   refine .cond_dec rfl (fun c => absurd c (drop_nil g214)) (fun _ => ?_)
   refine .exit rfl ?_
   refine .prune _ ?_ (Cov.same rfl rfl rfl (hb199 (v204, a205, k206, cs207, v208, a209, k210, cs211, x0_0) ⟨o212, o213, r215⟩))
   exact ⟨rfl, rfl, rfl, trivial⟩
  | cons x216 xs217 =>
   have r218 : poly_Interpolate_B6 poly_Interpolate_J5 x0_0 (poly_Interpolate_L6 poly_Interpolate_J5 x0_0 xs217) x216 v204 v208 = some r := r215; clear r215; unfold poly_Interpolate_B6 at r218; try dsimp only at r218
   refine .seq ?_;refine .region rfl ?_;refine .q .ro (.lss rfl rfl) rfl ?_;refine .re ?_;refine .seq ?_
   refine .cond_dec rfl (fun _ => ?_) (fun c => absurd (drop_lt g214) c)
   refine .skip ?_;refine .seq ?_;refine .block ?_;refine .seq ?_;refine .region rfl ?_
   obtain ⟨c219, p220, h221⟩ := SlR.get s1 (drop_idx g214)
   obtain ⟨_, _, rfl, rfl, rfl⟩ := h221
   refine .q .ro (.idxR s1 rfl rfl (drop_idx g214) sl81 ty168.sz) rfl ?_;refine .q .ro (.load_rp_a [_, _] p220 List.mem_cons_self rfl ty168 rfl) rfl ?_
   refine .alloc .ro ty168 rfl (fun b222 hb222 => ?_)
   refine .store 0 [_, _] [_, _] .ro rfl rfl rfl ty168 rfl rfl rfl rfl ?_;refine .re ?_;refine .drawL (.q 0 (.q 1 (.q 2 (.q 5 (.q 6 (.q 7 (.alt (.e 3 1 (.alt (.e 4 1 (.e 8 1 (.e 9 1 (.q 10 (.q 11 .nil))))) (.e 8 1 (.e 4 1 (.e 9 1 (.q 10 (.q 11 .nil))))))) (.e 8 1 (.e 3 1 (.e 4 1 (.e 9 1 (.q 10 (.q 11 .nil))))))))))))) [_, _] (by kernel_rfl) (by kernel_rfl) (pick_mem [0, 1] rfl) ?_
   obtain ⟨u223, hu223, r224⟩ := bind_some r218; clear r218
   obtain ⟨u225, hu225, r226⟩ := bind_some r224; clear r224
   refine .dq (.move rfl) rfl ?_;refine .dq (.fieldAddr 0 rfl fl168_0 ty3.sz rfl) rfl ?_;refine .dq (.load_own 0 rfl rfl ty3 rfl) rfl ?_;refine .dq (.move rfl) rfl ?_;refine .dq (.fieldAddr 1 rfl fl168_1 ty3.sz rfl) rfl ?_;refine .dq (.load_own 0 rfl rfl ty3 rfl) rfl ?_;refine .alt ?_ ?_
   ·refine .lit [_] [(0, _)] .d1 sl22 ty3 rfl rfl rfl rfl rfl rfl (fun b227 hb227 => ?_)
    have o228 : OL (Rep.int .i64) G [.int .i64 x216.1] ([x216.1] : List Int) := ((OL.cons rfl (Rep.intI .i64 x216.1) (OL.nil (Rp' := (Rep.int .i64)))) :)
    refine .reval 30 (n' := ([x216.1] : List Int).length) rfl rfl ?_;refine .clsL (HpLe.refl _) (pick_mem [0, 1] rfl) ?_;refine .alt ?_ ?_
    ·refine .appO (Q := (Rep.int .i64)) 0 .d1 sl22 ty3 rfl rfl rfl rfl rfl rfl o212 o228 rfl rfl rfl B0 hu223 rfl (fun a229 k230 cs231 o232 => ?_)
     refine .clsL (HpLe.refl _) (pick_mem [0, 1] rfl) ?_
     refine .lit [_] [(0, _)] .d1 sl22 ty3 rfl rfl rfl rfl rfl rfl (fun b233 hb233 => ?_)
     have o234 : OL (Rep.int .i64) G [.int .i64 x216.2] ([x216.2] : List Int) := ((OL.cons rfl (Rep.intI .i64 x216.2) (OL.nil (Rp' := (Rep.int .i64)))) :)
     refine .reval 35 (n' := ([x216.2] : List Int).length) rfl rfl ?_;refine .clsL (HpLe.refl _) (pick_mem [0, 1] rfl) ?_
     refine .appO (Q := (Rep.int .i64)) 1 .d1 sl22 ty3 rfl rfl rfl rfl rfl rfl o213 o234 rfl rfl rfl B0 hu225 rfl (fun a235 k236 cs237 o238 => ?_)
     refine .clsL (HpLe.refl _) (pick_mem [0, 1] rfl) ?_;refine .dq (.assign rfl) rfl ?_;refine .dq (.assign rfl) rfl ?_;refine .draw_end ?_;refine .prune [(6, _), (7, _), (23, _), (2, _), (21, _), (22, _)] ⟨rfl, rfl, rfl, rfl, rfl, rfl, trivial⟩ ?_;refine .inBlock ?_;refine .region rfl ?_;refine .q .ro (.addw rfl rfl) rfl ?_;refine .mv rfl rfl ?_
     refine .re ?_;refine .drop 1 0 [_] _ rfl rfl ?_
     refine .prune _ ?_ (Cov.same rfl rfl rfl (hb201 ((i202 + 1), xs217, u223, a229, k230, cs231, u225, a235, k236, cs237) ⟨o232, o238, (drop_succ g214), r226⟩ (Nat.lt_succ_self _)))
     exact ⟨rfl, rfl, (congrArg (fun z => some (Value.int .i64 z)) (idx_wrap (SlR.len s1) g214)), rfl, rfl, rfl, trivial⟩
    ·refine .lit [_] [(0, _)] .d1 sl22 ty3 rfl rfl rfl rfl rfl rfl (fun b239 hb239 => ?_)
     have o240 : OL (Rep.int .i64) G [.int .i64 x216.2] ([x216.2] : List Int) := ((OL.cons rfl (Rep.intI .i64 x216.2) (OL.nil (Rp' := (Rep.int .i64)))) :)
     refine .reval 35 (n' := ([x216.2] : List Int).length) rfl rfl ?_;refine .clsL (HpLe.refl _) (pick_mem [0, 1] rfl) ?_;refine .pullS 1 rfl [_, _, _, _] rfl ?_
     refine .appO (Q := (Rep.int .i64)) 1 .d1 sl22 ty3 rfl rfl rfl rfl rfl rfl o212 o228 rfl rfl rfl B0 hu223 rfl (fun a241 k242 cs243 o244 => ?_)
     refine .clsL (HpLe.refl _) (pick_mem [0, 1] rfl) ?_
     refine .appO (Q := (Rep.int .i64)) 1 .d1 sl22 ty3 rfl rfl rfl rfl rfl rfl o213 o240 rfl rfl rfl B0 hu225 rfl (fun a245 k246 cs247 o248 => ?_)
     refine .clsL (HpLe.refl _) (pick_mem [0, 1] rfl) ?_;refine .dq (.assign rfl) rfl ?_;refine .dq (.assign rfl) rfl ?_;refine .draw_end ?_;refine .prune [(6, _), (7, _), (23, _), (2, _), (21, _), (22, _)] ⟨rfl, rfl, rfl, rfl, rfl, rfl, trivial⟩ ?_;refine .inBlock ?_;refine .region rfl ?_;refine .q .ro (.addw rfl rfl) rfl ?_;refine .mv rfl rfl ?_
     refine .re ?_;refine .drop 1 0 [_] _ rfl rfl ?_
     refine .prune _ ?_ (Cov.same rfl rfl rfl (hb201 ((i202 + 1), xs217, u223, a241, k242, cs243, u225, a245, k246, cs247) ⟨o244, o248, (drop_succ g214), r226⟩ (Nat.lt_succ_self _)))
     exact ⟨rfl, rfl, (congrArg (fun z => some (Value.int .i64 z)) (idx_wrap (SlR.len s1) g214)), rfl, rfl, rfl, trivial⟩
   ·refine .lit [_] [(0, _)] .d1 sl22 ty3 rfl rfl rfl rfl rfl rfl (fun b249 hb249 => ?_)
    have o250 : OL (Rep.int .i64) G [.int .i64 x216.2] ([x216.2] : List Int) := ((OL.cons rfl (Rep.intI .i64 x216.2) (OL.nil (Rp' := (Rep.int .i64)))) :)
    refine .reval 35 (n' := ([x216.2] : List Int).length) rfl rfl ?_;refine .clsL (HpLe.refl _) (pick_mem [0, 1] rfl) ?_
    refine .lit [_] [(0, _)] .d1 sl22 ty3 rfl rfl rfl rfl rfl rfl (fun b251 hb251 => ?_)
    have o252 : OL (Rep.int .i64) G [.int .i64 x216.1] ([x216.1] : List Int) := ((OL.cons rfl (Rep.intI .i64 x216.1) (OL.nil (Rp' := (Rep.int .i64)))) :)
    refine .reval 30 (n' := ([x216.1] : List Int).length) rfl rfl ?_;refine .clsL (HpLe.refl _) (pick_mem [0, 1] rfl) ?_
    refine .appO (Q := (Rep.int .i64)) 1 .d1 sl22 ty3 rfl rfl rfl rfl rfl rfl o212 o252 rfl rfl rfl B0 hu223 rfl (fun a253 k254 cs255 o256 => ?_)
    refine .clsL (HpLe.refl _) (pick_mem [0, 1] rfl) ?_
    refine .appO (Q := (Rep.int .i64)) 1 .d1 sl22 ty3 rfl rfl rfl rfl rfl rfl o213 o250 rfl rfl rfl B0 hu225 rfl (fun a257 k258 cs259 o260 => ?_)
    refine .clsL (HpLe.refl _) (pick_mem [0, 1] rfl) ?_;refine .dq (.assign rfl) rfl ?_;refine .dq (.assign rfl) rfl ?_;refine .draw_end ?_;refine .prune [(6, _), (7, _), (23, _), (2, _), (21, _), (22, _)] ⟨rfl, rfl, rfl, rfl, rfl, rfl, trivial⟩ ?_;refine .inBlock ?_;refine .region rfl ?_;refine .q .ro (.addw rfl rfl) rfl ?_;refine .mv rfl rfl ?_
    refine .re ?_;refine .drop 1 0 [_] _ rfl rfl ?_
    refine .prune _ ?_ (Cov.same rfl rfl rfl (hb201 ((i202 + 1), xs217, u223, a253, k254, cs255, u225, a257, k258, cs259) ⟨o256, o260, (drop_succ g214), r226⟩ (Nat.lt_succ_self _)))
    exact ⟨rfl, rfl, (congrArg (fun z => some (Value.int .i64 z)) (idx_wrap (SlR.len s1) g214)), rfl, rfl, rfl, trivial⟩
theorem code_first_c {Fs : List Hp} {G : Hp} {a0 : Option Addr} {k0 : Nat} {x0 : List (Int × Bool)} {x1 : Int} {r : (List (Int × Int))} (hG : G ∈ Fs) (s0 : SlR (Rep.pair (Rep.int .i64) Rep.bool) G a0 k0 x0) (h : code_first x0 x1 = some r) : RetS Tryz.prog 189 #[.slice a0 x0.length k0, .int .i64 x1] Fs [] [] (fun v bo so => ∃ (oa0 : Option Addr) (ok0 : Nat) (oc0 : List Value), v = .slice oa0 r.length ok0 ∧ bo = [] ∧ so = [.s (.slice oa0 r.length ok0) 168 2 r.length oc0] ∧ OL (Rep.pair (Rep.int .i64) (Rep.int .i64)) G oc0 r) := by
 unfold code_first at h
 try dsimp only at h
 refine RetS.of (vs := [_, _]) Tryz.func189 rfl Tryz.ntmps189 [(0, _), (1, _)] ⟨rfl, rfl, trivial⟩ rfl hG fun w0 S0 hS0 B0 => ?_
 refine .marks0 ?_;refine .seq ?_;refine .region rfl ?_
 refine .box [_] .ro rfl rfl rfl (fun b1 hb1 => ?_)
 refine .av rfl rfl ?_;refine .re ?_;refine .seq ?_;refine .region rfl ?_
 refine .alloc .ro ty81 rfl (fun b2 hb2 => ?_)
 refine .re ?_;refine .seq ?_;refine .seq ?_;refine .region rfl ?_;refine .mv rfl rfl ?_
 obtain ⟨u3, hu3, r4⟩ := bind_some h; clear h
 refine .callW (b1 := []) (b2 := [_, _]) (s1 := []) [_] [] .ro rfl rfl Tryz.call199 rfl rfl (code_known_c (G := G) List.mem_cons_self s0 hu3) rfl B0 (fun v6 bo so G7 e8 B9 h5 => ?_)
 obtain ⟨F11, c12, rfl, rfl, rfl, hc13, hi14⟩ := h5
 refine .same (bl' := [_, _]) (sl' := [_]) rfl rfl rfl ?_;refine .re ?_;refine .cutBD (β := MK × (List (Int × Int)) × Option Addr × Nat × List Value) (fun y => mks y.1.1) (fun y => []) [(5, _)] (fun y => G7 :: Fs) (fun y => [(b2, .cells #[.slice y.2.2.1 y.2.1.length y.2.2.2.1] 81 (0, 0))]) [_] (fun y => [.g (marksG y.1), .s (.slice y.2.2.1 y.2.1.length y.2.2.2.1) 168 2 y.2.1.length y.2.2.2.2]) [] (fun y => OL (Rep.pair (Rep.int .i64) (Rep.int .i64)) G7 y.2.2.2.2 y.2.1 ∧ code_first_J1 y.2.1 = some r) ⟨rfl, trivial⟩ [1] rfl [] rfl ?_ ?_
 ·intro y hI
  obtain ⟨mk10, v15, a16, k17, cs18⟩ := y
  obtain ⟨o19, r20⟩ := hI
  try dsimp only at o19 r20
  refine .prune [(5, _)] ⟨rfl, trivial⟩ ?_;refine .same (bl' := [(b2, .cells #[.slice a16 v15.length k17] 81 (0, 0)), _]) (sl' := [.g (marksG mk10), .s (.slice a16 v15.length k17) 168 2 v15.length cs18]) (Fs' := G7 :: Fs) rfl rfl rfl ?_
  unfold code_first_J1 at r20
  try dsimp only at r20
  refine .seq ?_;refine .region rfl ?_;refine .q .ro (.load_own 0 rfl rfl ty81 rfl) rfl ?_;refine .av rfl rfl ?_;refine .re ?_
  cases r20
  refine .drop 2 0 [] _ rfl rfl ?_
  refine .out (.inr ⟨_, rfl⟩) rfl (Cov.unmarkAll _ _ ?_)
  refine .outS (c := ⟨189, none⟩) [.tmp 4] [_] Tryz.func189 Tryz.results189 ⟨RV.tmp rfl, trivial⟩ mcm ⟨a16, k17, cs18, rfl, rfl, rfl, (OL.flat (Rep.flat_pair (Rep.flat_int _) (Rep.flat_int _)) o19)⟩
 ·intro hb21
  refine .block ?_;refine .own_nil 168 2 ?_;refine .pull 1 rfl [_, _] rfl ?_;refine .pull 1 rfl [_, _] rfl ?_;refine .rangeX (α := (List (Int × Int)) × Option Addr × Nat × List Value) (β := (List (Int × Int)) × Option Addr × Nat × List Value) (fun y => []) (fun y => [(b2, .cells #[.slice y.2.1 y.1.length y.2.2.1] 81 (0, 0)), (b1, .cells #[.int .i64 x1] 3 (0, 0))]) (fun y => [.s (.slice y.2.1 y.1.length y.2.2.1) 168 2 y.1.length y.2.2.2]) (fun y => []) (fun y => [(b2, .cells #[.slice y.2.1 y.1.length y.2.2.1] 81 (0, 0)), (b1, .cells #[.int .i64 x1] 3 (0, 0))]) (fun y => [.s (.slice y.2.1 y.1.length y.2.2.1) 168 2 y.1.length y.2.2.2]) (fun _ => (.exit 0)) (fun i y => OL (Rep.pair (Rep.int .i64) (Rep.int .i64)) G7 y.2.2.2 y.1 ∧ code_first_L2 code_first_J1 x1 (List.drop i u3) y.1 = some r) (fun y => OL (Rep.pair (Rep.int .i64) (Rep.int .i64)) G7 y.2.2.2 y.1 ∧ code_first_J1 y.1 = some r) (([] : List (Int × Int)), none, 0, [])  c12 rfl rfl hc13 rfl (by simp) rfl rfl (hi14 _ G7 (HpLe.refl _) List.mem_cons_self) (fun _ _ hv => by obtain ⟨_, _, hv⟩ := hv; exact (Yr.len _ hv).trans rfl) (by kernel_rfl) ⟨(OL.nil (Rp' := (Rep.pair (Rep.int .i64) (Rep.int .i64)))), r4⟩ ?_ ?_ ?_
  ·intro l22 tm23 D24 i25 y v26 hV27 hI w28 S29 hw30
   obtain ⟨v31, a32, k33, cs34⟩ := y
   obtain ⟨o35, r36⟩ := hI
   try dsimp only at o35 r36
   obtain ⟨x37, h38, h39⟩ := hV27
   refine .dup (G := G7) List.mem_cons_self ?_
   obtain ⟨_, _, rfl, h40, h41⟩ := h39
   obtain ⟨v42, rfl, h43⟩ := h40
   obtain ⟨rfl, _⟩ := List.cons.inj h43
   obtain ⟨v44, rfl, h45⟩ := h41
   obtain ⟨rfl, _⟩ := List.cons.inj h45
   rw [drop_cons h38] at r36
   have r46 : code_first_B2 code_first_J1 x1 (code_first_L2 code_first_J1 x1 (List.drop (i25 + 1) u3)) x37 v31 = some r := r36; clear r36; unfold code_first_B2 at r46; try dsimp only at r46
   refine .prune [(10, .int .i64 x37.1), (11, .int .i64 x37.2), (3, _), (5, _)] ⟨rfl, rfl, rfl, rfl, trivial⟩ ?_;refine .same (bl' := [(b2, .cells #[.slice a32 v31.length k33] 81 (0, 0)), (b1, .cells #[.int .i64 x1] 3 (0, 0)), _]) (sl' := [.s (.slice a32 v31.length k33) 168 2 v31.length cs34]) (Fs' := G7 :: (G7 :: Fs)) rfl rfl rfl ?_;refine .seq ?_;refine .region rfl ?_;refine .av rfl rfl ?_;refine .re ?_;refine .region rfl ?_;refine .av rfl rfl ?_;refine .re ?_
   refine .beginRound 2 rfl rfl [_, _, _] rfl ?_;refine .block ?_;refine .seq ?_;refine .seq ?_;refine .region rfl ?_;refine .q .ro (.load_own 0 rfl rfl ty81 rfl) rfl ?_;refine .q .ro (.len_sl rfl rfl sl81) rfl ?_;refine .q .ro (.load_own 1 rfl rfl ty3 rfl) rfl ?_;refine .q .ro (.eql rfl rfl) rfl ?_
   refine .re ?_
   refine .cond_dec rfl (fun c47 => ?_) (fun c47 => ?_)
   ·have r48 := ifT r46 c47; clear r46
    refine .round_exit (v31, a32, k33, cs34) 2 rfl rfl ⟨o35, r48⟩ rfl rfl rfl (fun F hF => List.mem_cons_of_mem _ hF) (by simp) rfl
   ·have r49 := ifF r46 c47; clear r46
    refine .skip ?_;refine .region rfl ?_;refine .q .ro (.load_own 0 rfl rfl ty81 rfl) rfl ?_;refine .mv rfl rfl ?_;refine .mv rfl rfl ?_;refine .q .ro (.build [_, _] [(0, _), (1, _)] ty168 pl168 rfl rfl) rfl ?_
    refine .lit [_, _] [(0, _)] .ro sl81 ty168 rfl rfl rfl rfl rfl rfl (fun b50 hb50 => ?_)
    have o51 : OL (Rep.pair (Rep.int .i64) (Rep.int .i64)) G7 [.int .i64 x37.1, .int .i64 x37.2] ([x37] : List (Int × Int)) := ((OL.cons rfl (Rep.pairI (Rep.intI .i64 x37.1) (Rep.intI .i64 x37.2)) (OL.nil (Rp' := (Rep.pair (Rep.int .i64) (Rep.int .i64))))) :)
    refine .reval 20 (n' := ([x37] : List (Int × Int)).length) rfl rfl ?_
    obtain ⟨u52, hu52, r53⟩ := bind_some r49; clear r49
    refine .appO (Q := (Rep.pair (Rep.int .i64) (Rep.int .i64))) 0 .ro sl81 ty168 rfl rfl rfl rfl rfl rfl o35 o51 rfl rfl rfl (Bd.fin List.mem_cons_self) hu52 rfl (fun a54 k55 cs56 o57 => ?_)
    refine .store 0 [_] [_, _, _] .ro rfl rfl rfl ty81 rfl rfl rfl rfl ?_;refine .re ?_;refine .prune [] trivial ?_;refine .inBlock ?_
    refine .round_endX (u52, a54, k55, cs56) 2 rfl rfl ⟨o57, r53⟩ rfl rfl (fun F hF => List.mem_cons_of_mem _ hF) (by simp)
  ·intro q58 y hI hb59
   obtain ⟨v31, a32, k33, cs34⟩ := y
   obtain ⟨o35, r36⟩ := hI
   try dsimp only at o35 r36
   refine .prune [(5, _)] ⟨rfl, trivial⟩ ?_;refine .same (bl' := [(b2, .cells #[.slice a32 v31.length k33] 81 (0, 0)), (b1, .cells #[.int .i64 x1] 3 (0, 0)), _]) (sl' := [.s (.slice a32 v31.length k33) 168 2 v31.length cs34, _]) (Fs' := G7 :: Fs) rfl rfl rfl ?_;refine .pullS 1 rfl [_, _] rfl ?_
   refine .mkmerge 2 rfl [_, _] rfl (fun mk60 => ?_)
   rw [List.drop_length] at r36; rw [code_first_L2] at r36; try dsimp only at r36
   refine .inBlock ?_
   refine .prune _ ?_ (Cov.same rfl rfl rfl (hb21 (mk60, v31, a32, k33, cs34) ⟨o35, r36⟩))
   exact ⟨rfl, trivial⟩
  ·intro q58 y hI hb59
   obtain ⟨x61, a62, k63, cs65⟩ := y
   obtain ⟨o66, r36⟩ := hI
   try dsimp only at o66 r36
   refine .prune [(5, _)] ⟨rfl, trivial⟩ ?_;refine .same (bl' := [(b2, .cells #[.slice a62 x61.length k63] 81 (0, 0)), (b1, .cells #[.int .i64 x1] 3 (0, 0)), _]) (sl' := [.s (.slice a62 x61.length k63) 168 2 x61.length cs65, _]) (Fs' := G7 :: Fs) rfl rfl rfl ?_;refine .pullS 1 rfl [_, _] rfl ?_
   refine .mkmerge 2 rfl [_, _] rfl (fun mk67 => ?_)
   refine .exit rfl ?_
   refine .prune _ ?_ (Cov.same rfl rfl rfl (hb21 (mk67, x61, a62, k63, cs65) ⟨o66, r36⟩))
   exact ⟨rfl, trivial⟩
theorem code_Fill_c {Fs : List Hp} {G : Hp} {x0_0 : Int} {a1 : Option Addr} {k1 : Nat} {x1 : List (Int × Bool)} {x2 : Int} {r : ((List Int) × Int)} (hG : G ∈ Fs) (s1 : SlR (Rep.pair (Rep.int .i64) Rep.bool) G a1 k1 x1) (h : code_Fill x0_0 x1 x2 = some r) : RetS Tryz.prog 170 #[.agg #[.int .i64 x0_0], .slice a1 x1.length k1, .int .i64 x2] Fs [] [] (fun v bo so => ∃ (oa0 : Option Addr) (ok0 : Nat) (oc0 : List Value), v = .tuple #[.slice oa0 r.1.length ok0, .int .i64 r.2] ∧ bo = [] ∧ so = [.s (.slice oa0 r.1.length ok0) 3 1 r.1.length oc0] ∧ OL (Rep.int .i64) G oc0 r.1) := by
 unfold code_Fill at h
 try dsimp only at h
 refine RetS.of (vs := [_, _, _]) Tryz.func170 rfl Tryz.ntmps170 [(0, _), (1, _), (2, _)] ⟨rfl, rfl, rfl, trivial⟩ rfl hG fun w0 S0 hS0 B0 => ?_
 refine .seq ?_;refine .region rfl ?_
 refine .box [_] .ro rfl rfl rfl (fun b1 hb1 => ?_)
 refine .av rfl rfl ?_;refine .av rfl rfl ?_;refine .re ?_;refine .seq ?_;refine .region rfl ?_;refine .q .ro (.load_own_a 0 [_] rfl rfl ty45 rfl) rfl ?_;refine .mv rfl rfl ?_
 obtain ⟨u2, hu2, r3⟩ := bind_some h; clear h
 refine .callS (b1 := []) (b2 := [_]) (s1 := []) [_, _] [] .ro rfl rfl Tryz.call187 rfl rfl (code_cells_c (G := G) List.mem_cons_self s1 hu2) rfl (fun v5 bo so h4 => ?_)
 obtain ⟨rfl, rfl, rfl⟩ := h4
 refine .same (bl' := [_]) (sl' := []) rfl rfl rfl ?_;refine .mv rfl rfl ?_;refine .q .ro (.extract rfl rfl) rfl ?_;refine .q .ro (.extract rfl rfl) rfl ?_;refine .q .ro (.extract rfl rfl) rfl ?_;refine .av rfl rfl ?_;refine .av rfl rfl ?_;refine .av rfl rfl ?_;refine .re ?_
 refine .seq ?_;refine .block ?_;refine .seq ?_;refine .region rfl ?_;refine .mv rfl rfl ?_;refine .q .ro (.neq rfl rfl) rfl ?_;refine .av rfl rfl ?_;refine .re ?_;refine .prune [(1, _), (2, _), (3, _), (9, _), (10, _), (18, _)] ⟨rfl, rfl, rfl, rfl, rfl, rfl, trivial⟩ ?_
 refine .cond_dec rfl (fun c6 => ?_) (fun c6 => ?_)
 ·have r7 := ifT r3 c6; clear r3
  refine .seq ?_;refine .region rfl ?_;refine .mv rfl rfl ?_;refine .av rfl rfl ?_;refine .av rfl rfl ?_;refine .re ?_;refine .own_nil 3 1 ?_
  cases r7
  refine .drop 1 0 [] _ rfl rfl ?_
  refine .retS (c := ⟨170, none⟩) (.inr ⟨_, rfl⟩) [.tmp 6, .tmp 7] [_, _] rfl Tryz.func170 Tryz.results170 ⟨RV.tmp rfl, RV.tmp rfl, trivial⟩ mcm ⟨none, 0, [], rfl, rfl, rfl, (OL.nil (Rp' := (Rep.int .i64)))⟩
 ·have r9 := ifF r3 c6; clear r3
  refine .seq ?_;refine .region rfl ?_;refine .mv rfl rfl ?_;refine .q .ro (.lss rfl rfl) rfl ?_;refine .mv rfl rfl ?_;refine .cutR 5 (β := Unit) (fun y => [(30, .bool (decide ((x2 < 1) ∨ ((x1.length : Int) < x2))))]) [(1, _), (2, _), (3, _), (9, _)] (fun y => G :: Fs) (fun y => []) [_] (fun y => []) [] (fun y => True) ⟨rfl, rfl, rfl, rfl, trivial⟩ [0] rfl [] rfl ?_ ?_
  ·rintro _ _
   refine .prune [(30, .bool (decide ((x2 < 1) ∨ ((x1.length : Int) < x2)))), (1, _), (2, _), (3, _), (9, _)] ⟨rfl, rfl, rfl, rfl, rfl, trivial⟩ ?_;refine .same (bl' := [_]) (sl' := []) (Fs' := G :: Fs) rfl rfl rfl ?_;refine .av rfl rfl ?_;refine .re ?_
   refine .cond_dec rfl (fun c14 => ?_) (fun c14 => ?_)
   ·have r15 := ifT r9 c14; clear r9
    refine .seq ?_;refine .region rfl ?_;refine .av rfl rfl ?_;refine .av rfl rfl ?_;refine .re ?_;refine .own_nil 3 1 ?_
    cases r15
    refine .drop 1 0 [] _ rfl rfl ?_
    refine .retS (c := ⟨170, none⟩) (.inr ⟨_, rfl⟩) [.tmp 6, .tmp 7] [_, _] rfl Tryz.func170 Tryz.results170 ⟨RV.tmp rfl, RV.tmp rfl, trivial⟩ mcm ⟨none, 0, [], rfl, rfl, rfl, (OL.nil (Rp' := (Rep.int .i64)))⟩
   ·have r17 := ifF r9 c14; clear r9
    refine .seq ?_;refine .region rfl ?_;refine .mv rfl rfl ?_;refine .mv rfl rfl ?_;refine .q .ro (.lss rfl rfl) rfl ?_;refine .av rfl rfl ?_;refine .re ?_
    refine .cond_dec rfl (fun c18 => ?_) (fun c18 => ?_)
    ·have r19 := ifT r17 c18; clear r17
     refine .seq ?_;refine .region rfl ?_;refine .av rfl rfl ?_;refine .av rfl rfl ?_;refine .re ?_;refine .own_nil 3 1 ?_
     cases r19
     refine .drop 1 0 [] _ rfl rfl ?_
     refine .retS (c := ⟨170, none⟩) (.inr ⟨_, rfl⟩) [.tmp 6, .tmp 7] [_, _] rfl Tryz.func170 Tryz.results170 ⟨RV.tmp rfl, RV.tmp rfl, trivial⟩ mcm ⟨none, 0, [], rfl, rfl, rfl, (OL.nil (Rp' := (Rep.int .i64)))⟩
    ·have r21 := ifF r17 c18; clear r17
     refine .skip ?_;refine .inBlock ?_;refine .seq ?_;refine .drawL (.q 0 (.q 1 (.q 2 (.e 3 1 (.e 4 1 (.q 5 (.q 6 (.q 7 (.q 8 .nil))))))))) [_] (by kernel_rfl) (by kernel_rfl) (pick_mem [0] rfl) ?_;refine .dq (.load_own_a 0 [_] rfl rfl ty45 rfl) rfl ?_;refine .dq (.move rfl) rfl ?_;refine .dq (.move rfl) rfl ?_
     obtain ⟨u22, hu22, r23⟩ := bind_some r21; clear r21
     refine .callS (b1 := []) (b2 := [_]) (s1 := []) [_, _] [] .d1 rfl rfl Tryz.call189 rfl rfl (code_first_c (G := G) List.mem_cons_self s1 hu22) rfl (fun v25 bo so h24 => ?_)
     obtain ⟨a27, k28, cs29, rfl, rfl, rfl, o30⟩ := h24
     refine .same (bl' := [_]) (sl' := [_]) rfl rfl rfl ?_;refine .clsL (HpLe.refl _) (pick_mem [0] rfl) ?_
     refine .freezeR 0 rfl rfl o30 [] rfl B0 (fun G31 e32 B33 s34 => ?_)
     obtain ⟨u36, hu36, r37⟩ := bind_some r23; clear r23
     refine .callS (b1 := []) (b2 := [_]) (s1 := []) [_, _] [] .d1 rfl rfl Tryz.call188 rfl rfl (poly_Interpolate_c (G := G31) List.mem_cons_self s34 hu36) rfl (fun v39 bo so h38 => ?_)
     obtain ⟨a41, k42, cs43, rfl, rfl, rfl, o44⟩ := h38
     refine .same (bl' := [_]) (sl' := [_]) rfl rfl rfl ?_;refine .clsL e32 (pick_mem [0] rfl) ?_;refine .dq (.extract rfl rfl) rfl ?_;refine .dq (.extract rfl rfl) rfl ?_;refine .dq (.assign rfl) rfl ?_;refine .dq (.assign rfl) rfl ?_;refine .draw_end ?_;refine .prune [(6, _), (7, _)] ⟨rfl, rfl, trivial⟩ ?_
     cases r37
     refine .drop 1 0 [] _ rfl rfl ?_
     refine .retS (c := ⟨170, none⟩) (.inr ⟨_, rfl⟩) [.tmp 6, .tmp 7] [_, _] rfl Tryz.func170 Tryz.results170 ⟨RV.tmp rfl, RV.tmp rfl, trivial⟩ mcm ⟨a41, k42, cs43, rfl, rfl, rfl, (OL.flat (Rep.flat_int _) o44)⟩
  ·intro hb11
   refine .split 25 rfl (fun c10 => ?_) (fun c10 => ?_)
   ·refine .g_off rfl rfl rfl ?_
    refine .g_off rfl rfl rfl ?_;refine .g_off rfl rfl rfl ?_;refine .g_off rfl rfl rfl ?_;refine .q .ro (.pick_t rfl rfl) rfl ?_
    refine .prune _ ?_ (Cov.same rfl rfl rfl (hb11 () trivial))
    exact ⟨dor_t c10, rfl, rfl, rfl, rfl, trivial⟩
   ·refine .g_on rfl ?_
    refine .mv rfl rfl ?_;refine .g_on rfl ?_;refine .mv rfl rfl ?_;refine .g_on rfl ?_;refine .q .ro (.len_sl rfl rfl sl218) rfl ?_;refine .g_on rfl ?_;refine .q .ro (.gtr rfl rfl) rfl ?_;refine .q .ro (.pick_f rfl rfl) rfl ?_
    refine .prune _ ?_ (Cov.same rfl rfl rfl (hb11 () trivial))
    exact ⟨dor_f c10, rfl, rfl, rfl, rfl, trivial⟩
theorem unique_of_c {Fs : List Hp} {G : Hp} {x0 : Int} {r : (Option Int)} (hG : G ∈ Fs)  (h : unique_of x0 = some r) : RetS Tryz.prog 171 #[.int .i64 x0] Fs [] [] (fun v bo so => v = (ifc233 r) ∧ bo = [] ∧ so = []) := by
 unfold unique_of at h
 try dsimp only at h
 refine RetS.of (vs := [_]) Tryz.func171 rfl Tryz.ntmps171 [(0, _)] ⟨rfl, trivial⟩ rfl hG fun w0 S0 hS0 B0 => ?_
 refine .seq ?_;refine .region rfl ?_;refine .av rfl rfl ?_;refine .re ?_;refine .seq ?_;refine .seq ?_;refine .region rfl ?_;refine .mv rfl rfl ?_;refine .q .ro (.eql rfl rfl) rfl ?_
 refine .re ?_
 refine .cond_dec rfl (fun c1 => ?_) (fun c1 => ?_)
 ·have r2 := ifT h c1; clear h
  refine .seq ?_;refine .region rfl ?_;refine .av rfl rfl ?_;refine .re ?_
  cases r2
  refine .retS (c := ⟨171, none⟩) (.inr ⟨_, rfl⟩) [.tmp 2] [_] rfl Tryz.func171 Tryz.results171 ⟨RV.tmp rfl, trivial⟩ mcm ⟨rfl, rfl, rfl⟩
 ·have r3 := ifF h c1; clear h
  refine .skip ?_;refine .seq ?_;refine .region rfl ?_;refine .mv rfl rfl ?_;refine .q .ro (.build [_] [(0, _)] ty268 pl268 rfl rfl) rfl ?_;refine .q .ro (.cast (show _ = ifc233 (some x0) from rfl) (.mkIface rfl (by kernel_rfl))) rfl ?_;refine .av rfl rfl ?_;refine .re ?_
  cases r3
  refine .retS (c := ⟨171, none⟩) (.inr ⟨_, rfl⟩) [.tmp 2] [_] rfl Tryz.func171 Tryz.results171 ⟨RV.tmp rfl, trivial⟩ mcm ⟨rfl, rfl, rfl⟩
theorem unique_Radius_c {Fs : List Hp} {G : Hp} {x0 : Int} {x1 : Int} {r : (Int × Int)} (hG : G ∈ Fs)  (h : unique_Radius x0 x1 = some r) : RetS Tryz.prog 172 #[.int .i64 x0, .int .i64 x1] Fs [] [] (fun v bo so => v = .tuple #[.int .i64 r.1, .int .i64 r.2] ∧ bo = [] ∧ so = []) := by
 unfold unique_Radius at h
 try dsimp only at h
 refine RetS.of (vs := [_, _]) Tryz.func172 rfl Tryz.ntmps172 [(0, _), (1, _)] ⟨rfl, rfl, trivial⟩ rfl hG fun w0 S0 hS0 B0 => ?_
 refine .seq ?_;refine .region rfl ?_;refine .av rfl rfl ?_;refine .av rfl rfl ?_;refine .re ?_;refine .seq ?_;refine .seq ?_;refine .region rfl ?_;refine .mv rfl rfl ?_
 refine .q .ro (.lss rfl rfl) rfl ?_;refine .mv rfl rfl ?_;refine .cutR 3 (β := Unit) (fun y => [(11, .bool (decide ((x1 < 1) ∨ (x0 < 0))))]) [(0, _), (1, _)] (fun y => G :: Fs) (fun y => []) [] (fun y => []) [] (fun y => True) ⟨rfl, rfl, trivial⟩ [] rfl [] rfl ?_ ?_
 ·rintro _ _
  refine .prune [(11, .bool (decide ((x1 < 1) ∨ (x0 < 0)))), (0, _), (1, _)] ⟨rfl, rfl, rfl, trivial⟩ ?_;refine .same (bl' := []) (sl' := []) (Fs' := G :: Fs) rfl rfl rfl ?_;refine .mv rfl rfl ?_;refine .cutR 3 (β := Unit) (fun y => [(15, .bool (decide (((x1 < 1) ∨ (x0 < 0)) ∨ (32 < x0))))]) [(0, _), (1, _)] (fun y => G :: Fs) (fun y => []) [] (fun y => []) [] (fun y => True) ⟨rfl, rfl, trivial⟩ [] rfl [] rfl ?_ ?_
  ·rintro _ _
   refine .prune [(15, .bool (decide (((x1 < 1) ∨ (x0 < 0)) ∨ (32 < x0)))), (0, _), (1, _)] ⟨rfl, rfl, rfl, trivial⟩ ?_;refine .same (bl' := []) (sl' := []) (Fs' := G :: Fs) rfl rfl rfl ?_;refine .re ?_
   refine .cond_dec rfl (fun c9 => ?_) (fun c9 => ?_)
   ·have r10 := ifT h c9; clear h
    refine .seq ?_;refine .region rfl ?_;refine .av rfl rfl ?_;refine .av rfl rfl ?_;refine .re ?_
    cases r10
    refine .retS (c := ⟨172, none⟩) (.inr ⟨_, rfl⟩) [.tmp 4, .tmp 5] [_, _] rfl Tryz.func172 Tryz.results172 ⟨RV.tmp rfl, RV.tmp rfl, trivial⟩ mcm ⟨rfl, rfl, rfl⟩
   ·have r11 := ifF h c9; clear h
    refine .skip ?_;refine .seq ?_;refine .seq ?_;refine .region rfl ?_;refine .mv rfl rfl ?_;refine .mv rfl rfl ?_;refine .q .ro (.lss rfl rfl) rfl ?_;refine .re ?_
    refine .cond_dec rfl (fun c12 => ?_) (fun c12 => ?_)
    ·have r13 := ifT r11 c12; clear r11
     refine .seq ?_;refine .region rfl ?_;refine .av rfl rfl ?_;refine .av rfl rfl ?_;refine .re ?_
     cases r13
     refine .retS (c := ⟨172, none⟩) (.inr ⟨_, rfl⟩) [.tmp 4, .tmp 5] [_, _] rfl Tryz.func172 Tryz.results172 ⟨RV.tmp rfl, RV.tmp rfl, trivial⟩ mcm ⟨rfl, rfl, rfl⟩
    ·have r14 := ifF r11 c12; clear r11
     refine .skip ?_;refine .seq ?_;refine .region rfl ?_;refine .mv rfl rfl ?_;refine .mv rfl rfl ?_;refine .q .ro (.subw rfl rfl) rfl ?_;refine .q .ro (.quow rfl rfl (by decide)) rfl ?_;refine .av rfl rfl ?_;refine .av rfl rfl ?_
     refine .re ?_
     cases r14
     refine .retS (c := ⟨172, none⟩) (.inr ⟨_, rfl⟩) [.tmp 4, .tmp 5] [_, _] rfl Tryz.func172 Tryz.results172 ⟨RV.tmp rfl, RV.tmp rfl, trivial⟩ mcm ⟨rfl, rfl, rfl⟩
  ·intro hb6
   refine .split 12 rfl (fun c5 => ?_) (fun c5 => ?_)
   ·refine .g_off rfl rfl rfl ?_
    refine .g_off rfl rfl rfl ?_;refine .q .ro (.pick_t rfl rfl) rfl ?_
    refine .prune _ ?_ (Cov.same rfl rfl rfl (hb6 () trivial))
    exact ⟨dor_t c5, rfl, rfl, trivial⟩
   ·refine .g_on rfl ?_
    refine .mv rfl rfl ?_;refine .g_on rfl ?_;refine .q .ro (.gtr rfl rfl) rfl ?_;refine .q .ro (.pick_f rfl rfl) rfl ?_
    refine .prune _ ?_ (Cov.same rfl rfl rfl (hb6 () trivial))
    exact ⟨dor_f c5, rfl, rfl, trivial⟩
 ·intro hb2
  refine .split 8 rfl (fun c1 => ?_) (fun c1 => ?_)
  ·refine .g_off rfl rfl rfl ?_
   refine .g_off rfl rfl rfl ?_;refine .q .ro (.pick_t rfl rfl) rfl ?_
   refine .prune _ ?_ (Cov.same rfl rfl rfl (hb2 () trivial))
   exact ⟨dor_t c1, rfl, rfl, trivial⟩
  ·refine .g_on rfl ?_
   refine .mv rfl rfl ?_;refine .g_on rfl ?_;refine .q .ro (.lss rfl rfl) rfl ?_;refine .q .ro (.pick_f rfl rfl) rfl ?_
   refine .prune _ ?_ (Cov.same rfl rfl rfl (hb2 () trivial))
   exact ⟨dor_f c1, rfl, rfl, trivial⟩
theorem unique_count_c {Fs : List Hp} {G : Hp} {a0 : Option Addr} {k0 : Nat} {x0 : List (Int × Bool)} {r : Int} (hG : G ∈ Fs) (s0 : SlR (Rep.pair (Rep.int .i64) Rep.bool) G a0 k0 x0) (h : unique_count x0 = some r) : RetS Tryz.prog 173 #[.slice a0 x0.length k0] Fs [] [] (fun v bo so => v = .int .i64 r ∧ bo = [] ∧ so = []) := by
 unfold unique_count at h
 try dsimp only at h
 refine RetS.of (vs := [_]) Tryz.func173 rfl Tryz.ntmps173 [(0, _)] ⟨rfl, trivial⟩ rfl hG fun w0 S0 hS0 B0 => ?_
 refine .seq ?_;refine .region rfl ?_;refine .av rfl rfl ?_;refine .re ?_;refine .seq ?_;refine .region rfl ?_;refine .av rfl rfl ?_;refine .re ?_;refine .seq ?_
 refine .seq ?_;refine .region rfl ?_;refine .mv rfl rfl ?_;refine .q .ro (.len_sl rfl rfl sl218) rfl ?_;refine .mv rfl rfl ?_;refine .re ?_;refine .block ?_
 refine .loop2 (α := Nat × (List (Int × Bool)) × Int) (fun y => [(3, .int .i64 y.2.2), (8, .int .i64 (y.1 : Int))]) [(6, _), (7, _)] (fun y => []) (fun y => []) [] (fun y => []) [] (fun y => List.drop y.1 x0 = y.2.1 ∧ unique_count_L1 y.2.1 y.2.2 = some r) (fun y => y.2.1.length) (0, x0, 0) ⟨rfl, h⟩ ⟨rfl, rfl, rfl, rfl, trivial⟩ rfl rfl rfl (fun y hI hb22 => ?_)
 obtain ⟨i17, w18, v20⟩ := y
 obtain ⟨g19, r21⟩ := hI
 try dsimp only at g19 r21
 refine .prune [(3, .int .i64 v20), (8, .int .i64 (i17 : Int)), (6, _), (7, _)] ⟨rfl, rfl, rfl, rfl, trivial⟩ ?_;refine .same (bl' := []) (sl' := []) (Fs' := G :: Fs) rfl rfl rfl ?_
 cases w18 with
 | nil =>
  rw [unique_count_L1] at r21; try dsimp only at r21
  refine .seq ?_;refine .region rfl ?_;refine .q .ro (.lss rfl rfl) rfl ?_;refine .re ?_;refine .seq ?_
  refine .cond_dec rfl (fun c => absurd c (drop_nil g19)) (fun _ => ?_)
  refine .exit rfl ?_;refine .seq ?_;refine .region rfl ?_;refine .mv rfl rfl ?_;refine .av rfl rfl ?_;refine .re ?_
  cases r21
  refine .retS (c := ⟨173, none⟩) (.inr ⟨_, rfl⟩) [.tmp 2] [_] rfl Tryz.func173 Tryz.results173 ⟨RV.tmp rfl, trivial⟩ mcm ⟨rfl, rfl, rfl⟩
 | cons x26 xs27 =>
  have r25 : unique_count_B1 (unique_count_L1 xs27) x26 v20 = some r := r21; clear r21; unfold unique_count_B1 at r25; try dsimp only at r25
  refine .seq ?_;refine .region rfl ?_;refine .q .ro (.lss rfl rfl) rfl ?_;refine .re ?_;refine .seq ?_
  refine .cond_dec rfl (fun _ => ?_) (fun c => absurd (drop_lt g19) c)
  refine .skip ?_;refine .seq ?_;refine .block ?_;refine .seq ?_;refine .region rfl ?_
  obtain ⟨c28, p29, h30⟩ := SlR.get s0 (drop_idx g19)
  obtain ⟨_, _, rfl, rfl, rfl⟩ := h30
  refine .q .ro (.idxR s0 rfl rfl (drop_idx g19) sl218 ty220.sz) rfl ?_;refine .q .ro (.load_rp_a [_, _] p29 List.mem_cons_self rfl ty220 rfl) rfl ?_
  refine .alloc .ro ty220 rfl (fun b31 hb31 => ?_)
  refine .store 0 [_, _] [_] .ro rfl rfl rfl ty220 rfl rfl rfl rfl ?_;refine .re ?_;refine .seq ?_;refine .region rfl ?_;refine .q .ro (.fieldAddr 1 rfl fl220_1 ty4.sz rfl) rfl ?_;refine .q .ro (.load_own 0 rfl rfl ty4 rfl) rfl ?_;refine .re ?_
  refine .cond rfl (fun c32 => ?_) (fun c32 => ?_)
  ·have r33 := ifT r25 c32; clear r25
   refine .region rfl ?_;refine .mv rfl rfl ?_;refine .q .ro (.addw rfl rfl) rfl ?_;refine .av rfl rfl ?_;refine .re ?_;refine .inBlock ?_;refine .region rfl ?_;refine .q .ro (.addw rfl rfl) rfl ?_;refine .mv rfl rfl ?_
   refine .re ?_;refine .drop 1 0 [] _ rfl rfl ?_
   refine .prune _ ?_ (Cov.same rfl rfl rfl (hb22 ((i17 + 1), xs27, (w64 (v20 + 1))) ⟨(drop_succ g19), r33⟩ (Nat.lt_succ_self _)))
   exact ⟨rfl, (congrArg (fun z => some (Value.int .i64 z)) (idx_wrap (SlR.len s0) g19)), rfl, rfl, trivial⟩
  ·have r34 := ifBF r25 c32; clear r25
   refine .skip ?_;refine .inBlock ?_;refine .region rfl ?_;refine .q .ro (.addw rfl rfl) rfl ?_;refine .mv rfl rfl ?_;refine .re ?_;refine .drop 1 0 [] _ rfl rfl ?_
   refine .prune _ ?_ (Cov.same rfl rfl rfl (hb22 ((i17 + 1), xs27, v20) ⟨(drop_succ g19), r34⟩ (Nat.lt_succ_self _)))
   exact ⟨rfl, (congrArg (fun z => some (Value.int .i64 z)) (idx_wrap (SlR.len s0) g19)), rfl, rfl, trivial⟩
end Go.Proofs.YtfcicopgdahmcaaGreatDoor
end
