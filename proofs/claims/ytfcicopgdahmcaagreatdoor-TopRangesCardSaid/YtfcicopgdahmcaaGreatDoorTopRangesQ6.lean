/- What the proof needs, gathered by wip/gen/shake.py. -/
import Derived.Calls
import Derived.Deep.Quiet
import Derived.Below
import Derived.Laws.AppendOwn
import Derived.WalkKit
import Derived.Laws.OwnMore
import Derived.Deep.Slices
import Derived.ChangeOld
import Derived.ArgAppend
import Derived.RangeFuncIn
import Derived.RangeFuncRecord
import Derived.RangeFuncLeaves
import Derived.Laws.MakeOwn
import Derived.IntWalk
import Derived.Laws.IdiomStrings
import Derived.Laws.Cover3
import Derived.Laws.CopyOwn
import Derived.MapKept
import Derived.RangeFuncNested
import Derived.Test.YtfcicopgdahmcaaGreatDoorRows
import Derived.LaidEql
import Derived.Stop.Asserts
import Derived.RowKitTokens
import Derived.Test.YtfcicopgdahmcaaGreatDoorCards
import Derived.LaidLaws
import Derived.Look8
import Derived.MakeChecks
import Derived.Test.YtfcicopgdahmcaaGreatDoorTie
import Derived.LaidMore
import Derived.Lay
import Derived.SevenTiedAt
import Derived.Stop.Joined
import Derived.ProofKit
import Derived.OpenShut
import Derived.ShutString
import Derived.Test.YtfcicopgdahmcaaGreatDoorTopRangesQ5

section
set_option maxHeartbeats 4000000
set_option maxRecDepth 100000
namespace Go.Proofs.YtfcicopgdahmcaaGreatDoor
open Go.RowKit
set_option linter.unusedSimpArgs false
set_option linter.unusedVariables false
set_option synthInstance.maxSize 2000
set_option synthInstance.maxHeartbeats 400000
theorem slices_Compact_Lintint_c {Fs : List Hp} {G : Hp} {a0 : Option Addr} {k0 : Nat} {x0 : List Int} {cc0 : List Value} {bb0 : Option Nat} {pre0 post0 : List Value} {r : ((Int × Int) × (List Int))} (hG : G ∈ Fs) (vva0 : VA a0 bb0 x0.length k0 pre0 cc0) (oo0 : OL (Rep.int .i64) G cc0 x0) (h : slices_Compact_Lintint x0 = some r) : RetS Tryz.prog 130 #[.slice a0 x0.length k0] Fs [] [.g (viewG bb0 3 pre0 cc0 post0)] (fun v bo so => ∃ pq0 : Value, ∃ lc0 : List Value, v = pq0 ∧ bo = [] ∧ so = [.g (viewG bb0 3 pre0 lc0 post0)] ∧ PartV a0 1 pq0 r.1.1.toNat (r.1.2 - r.1.1).toNat ∧ OL (Rep.int .i64) G lc0 r.2 ∧ r.2.length = x0.length) := by
 unfold slices_Compact_Lintint at h
 try dsimp only at h
 refine RetS.of (vs := [_]) Tryz.func130 rfl Tryz.ntmps130 [(0, _)] ⟨rfl, trivial⟩ rfl hG fun w0 S0 hS0 B0 => ?_
 refine .seq ?_;refine .region rfl ?_;refine .av rfl rfl ?_;refine .re ?_;refine .seq ?_;refine .seq ?_;refine .region rfl ?_;refine .mv rfl rfl ?_;refine .q .ro (.len_sl rfl rfl sl22) rfl ?_
 refine .q .ro (.lss rfl rfl) rfl ?_;refine .re ?_
 refine .cond_dec rfl (fun c2 => ?_) (fun c2 => ?_)
 ·have r3 := ifT h c2; clear h
  refine .seq ?_;refine .region rfl ?_;refine .mv rfl rfl ?_;refine .av rfl rfl ?_;refine .re ?_
  cases r3
  refine .retS (c := ⟨130, none⟩) (.inr ⟨_, rfl⟩) [.tmp 2] [_] rfl Tryz.func130 Tryz.results130 ⟨RV.tmp rfl, trivial⟩ mcm ⟨_, cc0, rfl, rfl, rfl, (PartV.all vva0.1), oo0, rfl⟩
 ·have r4 := ifF h c2; clear h
  refine .skip ?_;refine .seq ?_;refine .seq ?_;refine .region rfl ?_;refine .av rfl rfl ?_;refine .re ?_;refine .block ?_
  refine .loop2 (α := Nat × Int) (fun y => [(3, .int .i64 y.2)]) [(0, _)] (fun y => []) (fun y => []) [] (fun y => []) [_] (fun y => slices_Compact_Lintint_L5 x0 y.1 y.2 = some r) (fun y => y.1) (big, 1) r4 ⟨rfl, rfl, trivial⟩ rfl rfl rfl (fun y hI hb10 => ?_)
  obtain ⟨n11, v12⟩ := y
  have r13 := hI; clear hI
  try dsimp only at r13
  refine .prune [(3, .int .i64 v12), (0, _)] ⟨rfl, rfl, trivial⟩ ?_;refine .same (bl' := []) (sl' := [_]) (Fs' := G :: Fs) rfl rfl rfl ?_
  obtain ⟨m14, rfl⟩ : ∃ m, n11 = m + 1 := by cases n11 with | zero => exact absurd (show (none : Option _) = some _ from r13) (by simp) | succ m => exact ⟨m, rfl⟩
  have r15 : slices_Compact_Lintint_B5 x0 (slices_Compact_Lintint_L5 x0 m14) v12 = some r := r13; clear r13; unfold slices_Compact_Lintint_B5 at r15; try dsimp only at r15
  refine .seq ?_;refine .seq ?_;refine .region rfl ?_;refine .mv rfl rfl ?_;refine .mv rfl rfl ?_;refine .q .ro (.len_sl rfl rfl sl22) rfl ?_;refine .q .ro (.lss rfl rfl) rfl ?_;refine .re ?_
  refine .cond_dec rfl (fun c16 => ?_) (fun c16 => ?_)
  ·have r17 := ifT r15 c16; clear r15
   refine .skip ?_;refine .seq ?_;refine .block ?_;refine .seq ?_;refine .cutG (β := Bool) (fun y => [(25, .bool y)]) [(3, _), (0, _)] (fun y => G :: Fs) (fun y => []) [] (fun y => []) [_] (fun y => (slices_Compact_Lintint_J4 (slices_Compact_Lintint_L5 x0 m14) v12 x0) y = some r) ⟨rfl, rfl, trivial⟩ [] rfl [0] rfl ?_ ?_
   ·intro v18 hI
    have r19 := hI; clear hI
    refine .prune [(25, .bool v18), (3, _), (0, _)] ⟨rfl, rfl, rfl, trivial⟩ ?_;refine .same (bl' := []) (sl' := [_]) (Fs' := G :: Fs) rfl rfl rfl ?_
    unfold slices_Compact_Lintint_J4 at r19
    try dsimp only at r19
    refine .cond rfl (fun c20 => ?_) (fun c20 => ?_)
    ·have r21 := ifT r19 c20; clear r19
     refine .seq ?_;refine .region rfl ?_;refine .mv rfl rfl ?_;refine .mv rfl rfl ?_
     obtain ⟨u23, hu23, r24⟩ := bind_some r21; clear r21
     refine .q .ro (.sliceP rfl (PartV.all vva0.1) hu23 sl22 ty3.sz (fun h => .yes' rfl h) (fun _ => .no)) rfl ?_;refine .av rfl rfl ?_;refine .re ?_;refine .seq ?_;refine .seq ?_;refine .region rfl ?_;refine .av rfl rfl ?_;refine .re ?_;refine .cutB (β := Int × List Int × List Value) (fun y => [(3, .int .i64 y.1), (0, .slice a0 y.2.1.length k0)]) [] (fun y => G :: Fs) (fun y => []) [] (fun y => [.g (viewG bb0 3 pre0 y.2.2 post0)]) [] (fun y => OL (Rep.int .i64) G y.2.2 y.2.1 ∧ VA a0 bb0 y.2.1.length k0 pre0 y.2.2 ∧ y.2.1.length = x0.length ∧ slices_Compact_Lintint_J1 y.1 y.2.1 = some r) trivial [] rfl [] rfl ?_ ?_
     ·intro y hI
      obtain ⟨v25, v26, cs27⟩ := y
      obtain ⟨o28, va29, hl30, r31⟩ := hI
      try dsimp only at o28 va29 hl30 r31
      refine .prune [(3, .int .i64 v25), (0, .slice a0 v26.length k0)] ⟨rfl, rfl, trivial⟩ ?_;refine .same (bl' := []) (sl' := [.g (viewG bb0 3 pre0 cs27 post0)]) (Fs' := G :: Fs) rfl rfl rfl ?_
      unfold slices_Compact_Lintint_J1 at r31
      try dsimp only at r31
      refine .seq ?_;refine .region rfl ?_;refine .mv rfl rfl ?_;refine .mv rfl rfl ?_
      obtain ⟨u32, hu32, r33⟩ := bind_some r31; clear r31
      refine .q .ro (.sliceP rfl (PartV.all va29.1) hu32 sl22 ty3.sz (fun h => .yes' rfl h) (fun _ => .no)) rfl ?_
      obtain ⟨u34, hu34, r35⟩ := bind_some r33; clear r33
      refine .clearP 0 (Q := (Rep.int .i64)) .ro sl22 ty3 ((Rep.intI .i64 0) :) rfl va29 o28 rfl hu34 rfl (PartV.psub (PartV.all va29.1) hu32) (fun cs36 hl37 o38 va39 => ?_)
      refine .reval 0 hl37 rfl ?_;refine .reval 54 hl37 rfl ?_;refine .re ?_;refine .seq ?_;refine .region rfl ?_;refine .mv rfl rfl ?_;refine .mv rfl rfl ?_
      obtain ⟨u40, hu40, r41⟩ := bind_some r35; clear r35
      refine .q .ro (.sliceP rfl (PartV.all va39.1) hu40 sl22 ty3.sz (fun _ => .no) (fun h => .yes' rfl h)) rfl ?_;refine .av rfl rfl ?_;refine .re ?_
      cases r41
      refine .retS (c := ⟨130, none⟩) (.inr ⟨_, rfl⟩) [.tmp 2] [_] rfl Tryz.func130 Tryz.results130 ⟨RV.tmp rfl, trivial⟩ mcm ⟨_, cs36, rfl, rfl, rfl, (PartV.psub (PartV.all va39.1) hu40), o38, (hl37.trans hl30)⟩
     ·intro hb42
      refine .block ?_
      refine .loop2 (α := Nat × Int × Int × List Int × List Value) (fun y => [(3, .int .i64 y.2.1), (5, .int .i64 y.2.2.1), (0, .slice a0 y.2.2.2.1.length k0)]) [(4, _)] (fun y => []) (fun y => []) [] (fun y => [.g (viewG bb0 3 pre0 y.2.2.2.2 post0)]) [] (fun y => OL (Rep.int .i64) G y.2.2.2.2 y.2.2.2.1 ∧ VA a0 bb0 y.2.2.2.1.length k0 pre0 y.2.2.2.2 ∧ y.2.2.2.1.length = x0.length ∧ slices_Compact_Lintint_L3 slices_Compact_Lintint_J1 u23.1 u23.2 y.1 y.2.1 y.2.2.1 y.2.2.2.1 = some r) (fun y => y.1) (big, v12, 1, x0, cc0) ⟨oo0, vva0, rfl, r24⟩ ⟨rfl, rfl, rfl, rfl, trivial⟩ rfl rfl rfl (fun y hI hb43 => ?_)
      obtain ⟨n44, v45, v46, v47, cs48⟩ := y
      obtain ⟨o49, va50, hl51, r52⟩ := hI
      try dsimp only at o49 va50 hl51 r52
      refine .prune [(3, .int .i64 v45), (5, .int .i64 v46), (0, .slice a0 v47.length k0), (4, _)] ⟨rfl, rfl, rfl, rfl, trivial⟩ ?_;refine .same (bl' := []) (sl' := [.g (viewG bb0 3 pre0 cs48 post0)]) (Fs' := G :: Fs) rfl rfl rfl ?_
      obtain ⟨m53, rfl⟩ : ∃ m, n44 = m + 1 := by cases n44 with | zero => exact absurd (show (none : Option _) = some _ from r52) (by simp) | succ m => exact ⟨m, rfl⟩
      have r54 : slices_Compact_Lintint_B3 slices_Compact_Lintint_J1 u23.1 u23.2 (slices_Compact_Lintint_L3 slices_Compact_Lintint_J1 u23.1 u23.2 m53) v45 v46 v47 = some r := r52; clear r52; unfold slices_Compact_Lintint_B3 at r54; try dsimp only at r54
      refine .seq ?_;refine .seq ?_;refine .region rfl ?_;refine .mv rfl rfl ?_;refine .mv rfl rfl ?_;refine .q .ro (.len_p rfl (PartV.psub (PartV.all vva0.1) hu23) sl22) rfl ?_;refine .q .ro (.lss rfl rfl) rfl ?_;refine .re ?_
      refine .cond_dec rfl (fun c55 => ?_) (fun c55 => ?_)
      ·have r56 := ifT r54 c55; clear r54
       refine .skip ?_;refine .seq ?_;refine .block ?_;refine .seq ?_;refine .cutG (β := Bool) (fun y => [(44, .bool y)]) [(3, _), (5, _), (0, _), (4, _)] (fun y => G :: Fs) (fun y => []) [] (fun y => []) [_] (fun y => (slices_Compact_Lintint_J2 (slices_Compact_Lintint_L3 slices_Compact_Lintint_J1 u23.1 u23.2 m53) v45 v46 u23.1 u23.2 v47) y = some r) ⟨rfl, rfl, rfl, rfl, trivial⟩ [] rfl [0] rfl ?_ ?_
       ·intro v57 hI
        have r58 := hI; clear hI
        refine .prune [(44, .bool v57), (3, _), (5, _), (0, _), (4, _)] ⟨rfl, rfl, rfl, rfl, rfl, trivial⟩ ?_;refine .same (bl' := []) (sl' := [_]) (Fs' := G :: Fs) rfl rfl rfl ?_
        unfold slices_Compact_Lintint_J2 at r58
        try dsimp only at r58
        refine .cond rfl (fun c59 => ?_) (fun c59 => ?_)
        ·have r60 := ifT r58 c59; clear r58
         refine .seq ?_;refine .region rfl ?_;refine .mv rfl rfl ?_;refine .mv rfl rfl ?_;refine .mv rfl rfl ?_;refine .mv rfl rfl ?_
         obtain ⟨u61, hu61, r62⟩ := bind_some r60; clear r60
         obtain ⟨u63, hu63, r65⟩ := bind_some r62; clear r62
         obtain ⟨c66, p67, h68⟩ := OL.get o49 hu63
         obtain rfl := h68
         refine .q .ro (.idxPV 0 rfl va50 o49 rfl (PartV.psub (PartV.all vva0.1) hu23) rfl hu61 hu63 sl22 ty3.sz rfl rfl) rfl ?_;refine .q .ro (.loadV 0 0 rfl va50 o49 rfl rfl hu63 p67 rfl (.inl ⟨rfl, rfl⟩) ty3 rfl) rfl ?_
         obtain ⟨u69, hu69, r70⟩ := bind_some r65; clear r65
         obtain ⟨c71, p72, h73⟩ := OL.get o49 hu69
         obtain rfl := h73
         refine .q .ro (.idxV 0 rfl va50 o49 rfl rfl hu69 sl22 ty3.sz rfl rfl) rfl ?_
         obtain ⟨u74, hu74, r75⟩ := bind_some r70; clear r70
         refine .storeV 0 0 (Q := (Rep.int .i64)) .ro rfl va50 rfl rfl o49 hu74 rfl (.inl ⟨rfl, rfl⟩) rfl ty3 p72 ((Rep.intI .i64 u63) :) rfl rfl (fun cs76 hlcs76 o77 va78 => ?_)
         refine .reval 0 hlcs76 rfl ?_;refine .reval 45 hlcs76 rfl ?_;refine .re ?_;refine .region rfl ?_;refine .mv rfl rfl ?_;refine .q .ro (.addw rfl rfl) rfl ?_;refine .av rfl rfl ?_;refine .re ?_;refine .inBlock ?_
         refine .region rfl ?_;refine .mv rfl rfl ?_;refine .q .ro (.addw rfl rfl) rfl ?_;refine .av rfl rfl ?_;refine .re ?_
         refine .prune _ ?_ (Cov.same rfl rfl rfl (hb43 (m53, (w64 (v45 + 1)), (w64 (v46 + 1)), u74, cs76) ⟨o77, va78, (hlcs76.trans hl51), r75⟩ (Nat.lt_succ_self _)))
         exact ⟨rfl, rfl, rfl, rfl, trivial⟩
        ·have r79 := ifBF r58 c59; clear r58
         refine .skip ?_;refine .inBlock ?_;refine .region rfl ?_;refine .mv rfl rfl ?_;refine .q .ro (.addw rfl rfl) rfl ?_;refine .av rfl rfl ?_;refine .re ?_
         refine .prune _ ?_ (Cov.same rfl rfl rfl (hb43 (m53, v45, (w64 (v46 + 1)), v47, cs48) ⟨o49, va50, hl51, r79⟩ (Nat.lt_succ_self _)))
         exact ⟨rfl, rfl, rfl, rfl, trivial⟩
       ·intro hb80
        refine .drawL (.q 0 (.q 1 (.q 4 (.q 5 (.q 6 (.alt (.e 2 1 (.alt (.e 3 1 (.e 7 1 (.e 8 1 (.q 9 .nil)))) (.e 7 1 (.alt (.e 3 1 (.e 8 1 (.q 9 .nil))) (.e 8 1 (.e 3 1 (.q 9 .nil))))))) (.e 7 1 (.alt (.e 2 1 (.alt (.e 3 1 (.e 8 1 (.q 9 .nil))) (.e 8 1 (.e 3 1 (.q 9 .nil))))) (.e 8 1 (.e 2 1 (.e 3 1 (.q 9 .nil)))))))))))) [] (by kernel_rfl) (by kernel_rfl) (pick_mem [] rfl) ?_
        obtain ⟨u81, hu81, r82⟩ := bind_some r56; clear r56
        obtain ⟨u83, hu83, r84⟩ := bind_some r82; clear r82
        obtain ⟨u85, hu85, r86⟩ := bind_some r84; clear r84
        obtain ⟨u87, hu87, r88⟩ := bind_some r86; clear r86
        refine .dq (.move rfl) rfl ?_;refine .dq (.move rfl) rfl ?_;refine .dq (.move rfl) rfl ?_;refine .dq (.move rfl) rfl ?_;refine .dq (.subw rfl rfl) rfl ?_;refine .alt ?_ ?_
        ·obtain ⟨c89, p90, h91⟩ := OL.get o49 hu83
         obtain rfl := h91
         refine .q .d1 (.idxPV 0 rfl va50 o49 rfl (PartV.psub (PartV.all vva0.1) hu23) rfl hu81 hu83 sl22 ty3.sz rfl rfl) rfl ?_;refine .clsL (HpLe.refl _) (pick_mem [] rfl) ?_;refine .alt ?_ ?_
         ·refine .q .d1 (.loadV 0 0 rfl va50 o49 rfl rfl hu83 p90 rfl (.inl ⟨rfl, rfl⟩) ty3 rfl) rfl ?_
          refine .clsL (HpLe.refl _) (pick_mem [] rfl) ?_
          obtain ⟨c92, p93, h94⟩ := OL.get o49 hu87
          obtain rfl := h94
          refine .q .d1 (.idxPV 0 rfl va50 o49 rfl (PartV.psub (PartV.all vva0.1) hu23) rfl hu85 hu87 sl22 ty3.sz rfl rfl) rfl ?_;refine .clsL (HpLe.refl _) (pick_mem [] rfl) ?_;refine .q .d1 (.loadV 0 0 rfl va50 o49 rfl rfl hu87 p93 rfl (.inl ⟨rfl, rfl⟩) ty3 rfl) rfl ?_;refine .clsL (HpLe.refl _) (pick_mem [] rfl) ?_;refine .dq (.neq rfl rfl) rfl ?_;refine .draw_end ?_;refine .prune [(3, _), (5, _), (0, _), (4, _), (44, _)] ⟨rfl, rfl, rfl, rfl, rfl, trivial⟩ ?_
          refine .prune _ ?_ (Cov.same rfl rfl rfl (hb80 ((decide (u83 ≠ u87))) r88))
          exact ⟨rfl, rfl, rfl, rfl, rfl, trivial⟩
         ·obtain ⟨c95, p96, h97⟩ := OL.get o49 hu87
          obtain rfl := h97
          refine .q .d1 (.idxPV 0 rfl va50 o49 rfl (PartV.psub (PartV.all vva0.1) hu23) rfl hu85 hu87 sl22 ty3.sz rfl rfl) rfl ?_;refine .clsL (HpLe.refl _) (pick_mem [] rfl) ?_;refine .alt ?_ ?_
          ·refine .q .d1 (.loadV 0 0 rfl va50 o49 rfl rfl hu83 p90 rfl (.inl ⟨rfl, rfl⟩) ty3 rfl) rfl ?_
           refine .clsL (HpLe.refl _) (pick_mem [] rfl) ?_;refine .q .d1 (.loadV 0 0 rfl va50 o49 rfl rfl hu87 p96 rfl (.inl ⟨rfl, rfl⟩) ty3 rfl) rfl ?_;refine .clsL (HpLe.refl _) (pick_mem [] rfl) ?_;refine .dq (.neq rfl rfl) rfl ?_;refine .draw_end ?_;refine .prune [(3, _), (5, _), (0, _), (4, _), (44, _)] ⟨rfl, rfl, rfl, rfl, rfl, trivial⟩ ?_
           refine .prune _ ?_ (Cov.same rfl rfl rfl (hb80 ((decide (u83 ≠ u87))) r88))
           exact ⟨rfl, rfl, rfl, rfl, rfl, trivial⟩
          ·refine .q .d1 (.loadV 0 0 rfl va50 o49 rfl rfl hu87 p96 rfl (.inl ⟨rfl, rfl⟩) ty3 rfl) rfl ?_
           refine .clsL (HpLe.refl _) (pick_mem [] rfl) ?_;refine .q .d1 (.loadV 0 0 rfl va50 o49 rfl rfl hu83 p90 rfl (.inl ⟨rfl, rfl⟩) ty3 rfl) rfl ?_;refine .clsL (HpLe.refl _) (pick_mem [] rfl) ?_;refine .dq (.neq rfl rfl) rfl ?_;refine .draw_end ?_;refine .prune [(3, _), (5, _), (0, _), (4, _), (44, _)] ⟨rfl, rfl, rfl, rfl, rfl, trivial⟩ ?_
           refine .prune _ ?_ (Cov.same rfl rfl rfl (hb80 ((decide (u83 ≠ u87))) r88))
           exact ⟨rfl, rfl, rfl, rfl, rfl, trivial⟩
        ·obtain ⟨c98, p99, h100⟩ := OL.get o49 hu87
         obtain rfl := h100
         refine .q .d1 (.idxPV 0 rfl va50 o49 rfl (PartV.psub (PartV.all vva0.1) hu23) rfl hu85 hu87 sl22 ty3.sz rfl rfl) rfl ?_;refine .clsL (HpLe.refl _) (pick_mem [] rfl) ?_;refine .alt ?_ ?_
         ·obtain ⟨c101, p102, h103⟩ := OL.get o49 hu83
          obtain rfl := h103
          refine .q .d1 (.idxPV 0 rfl va50 o49 rfl (PartV.psub (PartV.all vva0.1) hu23) rfl hu81 hu83 sl22 ty3.sz rfl rfl) rfl ?_;refine .clsL (HpLe.refl _) (pick_mem [] rfl) ?_;refine .alt ?_ ?_
          ·refine .q .d1 (.loadV 0 0 rfl va50 o49 rfl rfl hu83 p102 rfl (.inl ⟨rfl, rfl⟩) ty3 rfl) rfl ?_
           refine .clsL (HpLe.refl _) (pick_mem [] rfl) ?_;refine .q .d1 (.loadV 0 0 rfl va50 o49 rfl rfl hu87 p99 rfl (.inl ⟨rfl, rfl⟩) ty3 rfl) rfl ?_;refine .clsL (HpLe.refl _) (pick_mem [] rfl) ?_;refine .dq (.neq rfl rfl) rfl ?_;refine .draw_end ?_;refine .prune [(3, _), (5, _), (0, _), (4, _), (44, _)] ⟨rfl, rfl, rfl, rfl, rfl, trivial⟩ ?_
           refine .prune _ ?_ (Cov.same rfl rfl rfl (hb80 ((decide (u83 ≠ u87))) r88))
           exact ⟨rfl, rfl, rfl, rfl, rfl, trivial⟩
          ·refine .q .d1 (.loadV 0 0 rfl va50 o49 rfl rfl hu87 p99 rfl (.inl ⟨rfl, rfl⟩) ty3 rfl) rfl ?_
           refine .clsL (HpLe.refl _) (pick_mem [] rfl) ?_;refine .q .d1 (.loadV 0 0 rfl va50 o49 rfl rfl hu83 p102 rfl (.inl ⟨rfl, rfl⟩) ty3 rfl) rfl ?_;refine .clsL (HpLe.refl _) (pick_mem [] rfl) ?_;refine .dq (.neq rfl rfl) rfl ?_;refine .draw_end ?_;refine .prune [(3, _), (5, _), (0, _), (4, _), (44, _)] ⟨rfl, rfl, rfl, rfl, rfl, trivial⟩ ?_
           refine .prune _ ?_ (Cov.same rfl rfl rfl (hb80 ((decide (u83 ≠ u87))) r88))
           exact ⟨rfl, rfl, rfl, rfl, rfl, trivial⟩
         ·refine .q .d1 (.loadV 0 0 rfl va50 o49 rfl rfl hu87 p99 rfl (.inl ⟨rfl, rfl⟩) ty3 rfl) rfl ?_
          refine .clsL (HpLe.refl _) (pick_mem [] rfl) ?_
          obtain ⟨c104, p105, h106⟩ := OL.get o49 hu83
          obtain rfl := h106
          refine .q .d1 (.idxPV 0 rfl va50 o49 rfl (PartV.psub (PartV.all vva0.1) hu23) rfl hu81 hu83 sl22 ty3.sz rfl rfl) rfl ?_;refine .clsL (HpLe.refl _) (pick_mem [] rfl) ?_;refine .q .d1 (.loadV 0 0 rfl va50 o49 rfl rfl hu83 p105 rfl (.inl ⟨rfl, rfl⟩) ty3 rfl) rfl ?_;refine .clsL (HpLe.refl _) (pick_mem [] rfl) ?_;refine .dq (.neq rfl rfl) rfl ?_;refine .draw_end ?_;refine .prune [(3, _), (5, _), (0, _), (4, _), (44, _)] ⟨rfl, rfl, rfl, rfl, rfl, trivial⟩ ?_
          refine .prune _ ?_ (Cov.same rfl rfl rfl (hb80 ((decide (u83 ≠ u87))) r88))
          exact ⟨rfl, rfl, rfl, rfl, rfl, trivial⟩
      ·have r107 := ifF r54 c55; clear r54
       refine .exit rfl ?_
       refine .prune _ ?_ (Cov.same rfl rfl rfl (hb42 (v45, v47, cs48) ⟨o49, va50, hl51, r107⟩))
       exact ⟨rfl, rfl, trivial⟩
    ·have r108 := ifBF r19 c20; clear r19
     refine .skip ?_;refine .inBlock ?_;refine .region rfl ?_;refine .mv rfl rfl ?_;refine .q .ro (.addw rfl rfl) rfl ?_;refine .av rfl rfl ?_;refine .re ?_
     refine .prune _ ?_ (Cov.same rfl rfl rfl (hb10 (m14, (w64 (v12 + 1))) r108 (Nat.lt_succ_self _)))
     exact ⟨rfl, rfl, trivial⟩
   ·intro hb109
    refine .drawL (.q 0 (.q 1 (.q 4 (.q 5 (.q 6 (.alt (.e 2 1 (.alt (.e 3 1 (.e 7 1 (.e 8 1 (.q 9 .nil)))) (.e 7 1 (.alt (.e 3 1 (.e 8 1 (.q 9 .nil))) (.e 8 1 (.e 3 1 (.q 9 .nil))))))) (.e 7 1 (.alt (.e 2 1 (.alt (.e 3 1 (.e 8 1 (.q 9 .nil))) (.e 8 1 (.e 3 1 (.q 9 .nil))))) (.e 8 1 (.e 2 1 (.e 3 1 (.q 9 .nil)))))))))))) [] (by kernel_rfl) (by kernel_rfl) (pick_mem [] rfl) ?_
    obtain ⟨u110, hu110, r111⟩ := bind_some r17; clear r17
    obtain ⟨u112, hu112, r113⟩ := bind_some r111; clear r111
    refine .dq (.move rfl) rfl ?_;refine .dq (.move rfl) rfl ?_;refine .dq (.move rfl) rfl ?_;refine .dq (.move rfl) rfl ?_;refine .dq (.subw rfl rfl) rfl ?_;refine .alt ?_ ?_
    ·obtain ⟨c114, p115, h116⟩ := OL.get oo0 hu110
     obtain rfl := h116
     refine .q .d1 (.idxV 0 rfl vva0 oo0 rfl rfl hu110 sl22 ty3.sz rfl rfl) rfl ?_;refine .clsL (HpLe.refl _) (pick_mem [] rfl) ?_;refine .alt ?_ ?_
     ·refine .q .d1 (.loadV 0 0 rfl vva0 oo0 rfl rfl hu110 p115 rfl (.inl ⟨rfl, rfl⟩) ty3 rfl) rfl ?_
      refine .clsL (HpLe.refl _) (pick_mem [] rfl) ?_
      obtain ⟨c117, p118, h119⟩ := OL.get oo0 hu112
      obtain rfl := h119
      refine .q .d1 (.idxV 0 rfl vva0 oo0 rfl rfl hu112 sl22 ty3.sz rfl rfl) rfl ?_;refine .clsL (HpLe.refl _) (pick_mem [] rfl) ?_;refine .q .d1 (.loadV 0 0 rfl vva0 oo0 rfl rfl hu112 p118 rfl (.inl ⟨rfl, rfl⟩) ty3 rfl) rfl ?_;refine .clsL (HpLe.refl _) (pick_mem [] rfl) ?_;refine .dq (.eql rfl rfl) rfl ?_;refine .draw_end ?_;refine .prune [(3, _), (0, _), (25, _)] ⟨rfl, rfl, rfl, trivial⟩ ?_
      refine .prune _ ?_ (Cov.same rfl rfl rfl (hb109 ((decide (u110 = u112))) r113))
      exact ⟨rfl, rfl, rfl, trivial⟩
     ·obtain ⟨c120, p121, h122⟩ := OL.get oo0 hu112
      obtain rfl := h122
      refine .q .d1 (.idxV 0 rfl vva0 oo0 rfl rfl hu112 sl22 ty3.sz rfl rfl) rfl ?_;refine .clsL (HpLe.refl _) (pick_mem [] rfl) ?_;refine .alt ?_ ?_
      ·refine .q .d1 (.loadV 0 0 rfl vva0 oo0 rfl rfl hu110 p115 rfl (.inl ⟨rfl, rfl⟩) ty3 rfl) rfl ?_
       refine .clsL (HpLe.refl _) (pick_mem [] rfl) ?_;refine .q .d1 (.loadV 0 0 rfl vva0 oo0 rfl rfl hu112 p121 rfl (.inl ⟨rfl, rfl⟩) ty3 rfl) rfl ?_;refine .clsL (HpLe.refl _) (pick_mem [] rfl) ?_;refine .dq (.eql rfl rfl) rfl ?_;refine .draw_end ?_;refine .prune [(3, _), (0, _), (25, _)] ⟨rfl, rfl, rfl, trivial⟩ ?_
       refine .prune _ ?_ (Cov.same rfl rfl rfl (hb109 ((decide (u110 = u112))) r113))
       exact ⟨rfl, rfl, rfl, trivial⟩
      ·refine .q .d1 (.loadV 0 0 rfl vva0 oo0 rfl rfl hu112 p121 rfl (.inl ⟨rfl, rfl⟩) ty3 rfl) rfl ?_
       refine .clsL (HpLe.refl _) (pick_mem [] rfl) ?_;refine .q .d1 (.loadV 0 0 rfl vva0 oo0 rfl rfl hu110 p115 rfl (.inl ⟨rfl, rfl⟩) ty3 rfl) rfl ?_;refine .clsL (HpLe.refl _) (pick_mem [] rfl) ?_;refine .dq (.eql rfl rfl) rfl ?_;refine .draw_end ?_;refine .prune [(3, _), (0, _), (25, _)] ⟨rfl, rfl, rfl, trivial⟩ ?_
       refine .prune _ ?_ (Cov.same rfl rfl rfl (hb109 ((decide (u110 = u112))) r113))
       exact ⟨rfl, rfl, rfl, trivial⟩
    ·obtain ⟨c123, p124, h125⟩ := OL.get oo0 hu112
     obtain rfl := h125
     refine .q .d1 (.idxV 0 rfl vva0 oo0 rfl rfl hu112 sl22 ty3.sz rfl rfl) rfl ?_;refine .clsL (HpLe.refl _) (pick_mem [] rfl) ?_;refine .alt ?_ ?_
     ·obtain ⟨c126, p127, h128⟩ := OL.get oo0 hu110
      obtain rfl := h128
      refine .q .d1 (.idxV 0 rfl vva0 oo0 rfl rfl hu110 sl22 ty3.sz rfl rfl) rfl ?_;refine .clsL (HpLe.refl _) (pick_mem [] rfl) ?_;refine .alt ?_ ?_
      ·refine .q .d1 (.loadV 0 0 rfl vva0 oo0 rfl rfl hu110 p127 rfl (.inl ⟨rfl, rfl⟩) ty3 rfl) rfl ?_
       refine .clsL (HpLe.refl _) (pick_mem [] rfl) ?_;refine .q .d1 (.loadV 0 0 rfl vva0 oo0 rfl rfl hu112 p124 rfl (.inl ⟨rfl, rfl⟩) ty3 rfl) rfl ?_;refine .clsL (HpLe.refl _) (pick_mem [] rfl) ?_;refine .dq (.eql rfl rfl) rfl ?_;refine .draw_end ?_;refine .prune [(3, _), (0, _), (25, _)] ⟨rfl, rfl, rfl, trivial⟩ ?_
       refine .prune _ ?_ (Cov.same rfl rfl rfl (hb109 ((decide (u110 = u112))) r113))
       exact ⟨rfl, rfl, rfl, trivial⟩
      ·refine .q .d1 (.loadV 0 0 rfl vva0 oo0 rfl rfl hu112 p124 rfl (.inl ⟨rfl, rfl⟩) ty3 rfl) rfl ?_
       refine .clsL (HpLe.refl _) (pick_mem [] rfl) ?_;refine .q .d1 (.loadV 0 0 rfl vva0 oo0 rfl rfl hu110 p127 rfl (.inl ⟨rfl, rfl⟩) ty3 rfl) rfl ?_;refine .clsL (HpLe.refl _) (pick_mem [] rfl) ?_;refine .dq (.eql rfl rfl) rfl ?_;refine .draw_end ?_;refine .prune [(3, _), (0, _), (25, _)] ⟨rfl, rfl, rfl, trivial⟩ ?_
       refine .prune _ ?_ (Cov.same rfl rfl rfl (hb109 ((decide (u110 = u112))) r113))
       exact ⟨rfl, rfl, rfl, trivial⟩
     ·refine .q .d1 (.loadV 0 0 rfl vva0 oo0 rfl rfl hu112 p124 rfl (.inl ⟨rfl, rfl⟩) ty3 rfl) rfl ?_
      refine .clsL (HpLe.refl _) (pick_mem [] rfl) ?_
      obtain ⟨c129, p131, h132⟩ := OL.get oo0 hu110
      obtain rfl := h132
      refine .q .d1 (.idxV 0 rfl vva0 oo0 rfl rfl hu110 sl22 ty3.sz rfl rfl) rfl ?_;refine .clsL (HpLe.refl _) (pick_mem [] rfl) ?_;refine .q .d1 (.loadV 0 0 rfl vva0 oo0 rfl rfl hu110 p131 rfl (.inl ⟨rfl, rfl⟩) ty3 rfl) rfl ?_;refine .clsL (HpLe.refl _) (pick_mem [] rfl) ?_;refine .dq (.eql rfl rfl) rfl ?_;refine .draw_end ?_;refine .prune [(3, _), (0, _), (25, _)] ⟨rfl, rfl, rfl, trivial⟩ ?_
      refine .prune _ ?_ (Cov.same rfl rfl rfl (hb109 ((decide (u110 = u112))) r113))
      exact ⟨rfl, rfl, rfl, trivial⟩
  ·have r133 := ifF r15 c16; clear r15
   refine .exit rfl ?_;refine .seq ?_;refine .region rfl ?_;refine .mv rfl rfl ?_;refine .av rfl rfl ?_;refine .re ?_
   cases r133
   refine .retS (c := ⟨130, none⟩) (.inr ⟨_, rfl⟩) [.tmp 2] [_] rfl Tryz.func130 Tryz.results130 ⟨RV.tmp rfl, trivial⟩ mcm ⟨_, cc0, rfl, rfl, rfl, (PartV.all vva0.1), oo0, rfl⟩
theorem columns_Columns_All_c {Fs : List Hp} {G : Hp} {x0_0 : Int} {x0_1 : Int} {a0_2 : Option Addr} {k0_2 : Nat} {x0_2 : List (Bool × (List Int))} {x1 : Int} {r : ((List (List Int)) × (List Int) × Int)} (hG : G ∈ Fs) (hg0 : Rp G (.pointer (some ⟨0, 0, none⟩)) [ifc233 (some 12)]) (s0_2 : SlR (Rep.pair Rep.bool (Rep.sl (Rep.int .i64))) G a0_2 k0_2 x0_2) (h : columns_Columns_All (x0_0, x0_1, x0_2) x1 = some r) : RetW Tryz.prog 85 #[.agg #[.int .i64 x0_0, .int .i64 x0_1, .slice a0_2 x0_2.length k0_2], .int .i64 x1, .func (.func 86) #[] #[]] Fs [] [] (fun v bo so G => ∃ (oa0 : Option Addr) (ok0 : Nat) (oc0 : List Value), ∃ (oa1 : Option Addr) (ok1 : Nat) (oc1 : List Value), v = .tuple #[.slice oa0 r.1.length ok0, .slice oa1 r.2.1.length ok1, .int .i64 r.2.2] ∧ bo = [] ∧ so = [.s (.slice oa0 r.1.length ok0) 22 1 r.1.length oc0, .s (.slice oa1 r.2.1.length ok1) 3 1 r.2.1.length oc1] ∧ OL (Rep.sl (Rep.int .i64)) G oc0 r.1 ∧ OL (Rep.int .i64) G oc1 r.2.1) := by
 unfold columns_Columns_All at h
 try dsimp only at h
 refine RetW.of (vs := [_, _, _]) Tryz.func85 rfl Tryz.ntmps85 [(0, _), (1, _), (2, _)] ⟨rfl, rfl, rfl, trivial⟩ rfl hG fun w0 S0 hS0 B0 => ?_
 refine .seq ?_;refine .region rfl ?_
 refine .box [_, _, _] .ro rfl rfl rfl (fun b1 hb1 => ?_)
 refine .av rfl rfl ?_;refine .av rfl rfl ?_;refine .av rfl rfl ?_;refine .re ?_;refine .seq ?_;refine .region rfl ?_;refine .av rfl rfl ?_;refine .re ?_;refine .seq ?_
 refine .region rfl ?_;refine .av rfl rfl ?_;refine .re ?_;refine .seq ?_;refine .seq ?_;refine .region rfl ?_;refine .mv rfl rfl ?_;refine .mv rfl rfl ?_;refine .re ?_
 refine .cutB (β := Hp × List (List Int) × Option Addr × Nat × List Value × List Int × Option Addr × Nat × List Value × Int × Int) (fun y => [(9, .slice y.2.2.1 y.2.1.length y.2.2.2.1), (10, .slice y.2.2.2.2.2.2.1 y.2.2.2.2.2.1.length y.2.2.2.2.2.2.2.1)]) [] (fun y => y.1 :: Fs) (fun y => [(b1, .cells #[.int .i64 y.2.2.2.2.2.2.2.2.2.1, .int .i64 y.2.2.2.2.2.2.2.2.2.2, .slice a0_2 x0_2.length k0_2] 162 (0, 0))]) [] (fun y => [.s (.slice y.2.2.1 y.2.1.length y.2.2.2.1) 22 1 y.2.1.length y.2.2.2.2.1, .s (.slice y.2.2.2.2.2.2.1 y.2.2.2.2.2.1.length y.2.2.2.2.2.2.2.1) 3 1 y.2.2.2.2.2.1.length y.2.2.2.2.2.2.2.2.1]) [] (fun y => HpLe G y.1 ∧ Bd w0 S0 Fs y.1 ∧ OL (Rep.sl (Rep.int .i64)) y.1 y.2.2.2.2.1 y.2.1 ∧ OL (Rep.int .i64) y.1 y.2.2.2.2.2.2.2.2.1 y.2.2.2.2.2.1 ∧ columns_Columns_All_J1 y.2.1 y.2.2.2.2.2.1 y.2.2.2.2.2.2.2.2.2.1 y.2.2.2.2.2.2.2.2.2.2 = some r) trivial [] rfl [] rfl ?_ ?_
 ·intro y hI
  obtain ⟨G10, v11, a12, k13, cs14, v15, a16, k17, cs18, v19, v20⟩ := y
  obtain ⟨e21, B23, o24, o25, r26⟩ := hI
  try dsimp only at e21 B23 o24 o25 r26
  refine .prune [(9, .slice a12 v11.length k13), (10, .slice a16 v15.length k17)] ⟨rfl, rfl, trivial⟩ ?_;refine .same (bl' := [(b1, .cells #[.int .i64 v19, .int .i64 v20, .slice a0_2 x0_2.length k0_2] 162 (0, 0))]) (sl' := [.s (.slice a12 v11.length k13) 22 1 v11.length cs14, .s (.slice a16 v15.length k17) 3 1 v15.length cs18]) (Fs' := G10 :: Fs) rfl rfl rfl ?_
  unfold columns_Columns_All_J1 at r26
  try dsimp only at r26
  refine .seq ?_;refine .region rfl ?_;refine .mv rfl rfl ?_
  refine .toV 1 rfl (fun vb27 po28 va29 vb30 => ?_)
  obtain ⟨u31, hu31, r32⟩ := bind_some r26; clear r26
  refine .pullS 1 rfl [_, _] rfl ?_
  refine .callS (b1 := []) (b2 := [_]) (s1 := [_]) [_] [] .ro rfl rfl Tryz.call129 rfl rfl (slices_Sort_Lintint_c (G := G10) List.mem_cons_self va29 o25 hu31) rfl (fun v33 bo so h34 => ?_)
  obtain ⟨cs35, rfl, rfl, rfl, o36, hl37⟩ := h34
  refine .same (bl' := [_]) (sl' := [_, _]) rfl rfl rfl ?_;refine .ofV 0 rfl vb30 hl37 o36 rfl ?_;refine .reval 10 hl37 rfl ?_;refine .reval 37 hl37 rfl ?_;refine .re ?_;refine .seq ?_;refine .region rfl ?_;refine .mv rfl rfl ?_;refine .mv rfl rfl ?_
  refine .toV 0 rfl (fun vb38 po39 va40 vb41 => ?_)
  obtain ⟨u42, hu42, r43⟩ := bind_some r32; clear r32
  refine .callS (b1 := []) (b2 := [_]) (s1 := [_]) [_] [] .ro rfl rfl Tryz.call130 rfl rfl (slices_Compact_Lintint_c (G := G10) List.mem_cons_self va40 o36 hu42) rfl (fun v44 bo so h45 => ?_)
  obtain ⟨vv46, cs47, rfl, rfl, rfl, pv48, o49, hl50⟩ := h45
  refine .same (bl' := [_]) (sl' := [_, _]) rfl rfl rfl ?_;refine .ofV 0 rfl vb41 hl50 o49 rfl ?_;refine .reval 10 hl50 rfl ?_;refine .reval 37 hl50 rfl ?_;refine .reval 40 hl50 rfl ?_
  refine .openB (sB := [_]) (s2 := [_]) rfl B23 (fun G52 e53 B54 hr55 hc56 => ?_)
  have s57 := SlR.rd o49 rfl e53 (hr55 _ (List.mem_of_getElem? (i := 0) rfl))
  obtain ⟨u58, hu58, r59⟩ := bind_some r43; clear r43
  obtain ⟨a60, k61, h62, s63⟩ := SlR.part s57 pv48 hu58
  refine .revalV 41 h62.symm rfl ?_
  obtain ⟨u65, hu65, r66⟩ := bind_some r59; clear r59
  refine .callS (b1 := []) (b2 := [_]) (s1 := []) [_] [] .ro rfl rfl Tryz.call100 rfl rfl (slices_Clone_Lintint_c (G := G52) List.mem_cons_self s63 hu65) rfl (fun v67 bo so h68 => ?_)
  obtain ⟨a69, k70, cs71, rfl, rfl, rfl, o72⟩ := h68
  refine .same (bl' := [_]) (sl' := [_, _]) rfl rfl rfl ?_;refine .av rfl rfl ?_;refine .av rfl rfl ?_;refine .av rfl rfl ?_
  have o73 := OL.flat (G := G10) (Rep.flat_int _) o72
  refine hc56 _ _ _ _ _ _ (HpLe.refl _) ?_
  refine .re ?_
  cases r66
  refine .drop 1 0 [] _ rfl rfl ?_;refine .pullS 1 rfl [_, _, _] rfl ?_;refine .pullS 2 rfl [_, _, _] rfl ?_;refine .pullS 2 rfl [_, _, _] rfl ?_;refine .drop 0 1 _ [_, _] rfl rfl ?_
  refine .retW (c := ⟨85, none⟩) (.inr ⟨_, rfl⟩) [.tmp 6, .tmp 7, .tmp 8] [_, _, _] rfl Tryz.func85 Tryz.results85 ⟨RV.tmp rfl, RV.tmp rfl, RV.tmp rfl, trivial⟩ mcm List.mem_cons_self B23 (by subst hS0; simp [blks]) (fun G' hg => ⟨a12, k13, cs14, a69, k70, cs71, rfl, rfl, rfl, (OL.mono hg o24), (OL.mono hg o73)⟩)
 ·intro hb74
  refine .block ?_;refine .own_nil 22 1 ?_;refine .own_nil 3 1 ?_;refine .pullS 1 rfl [_, _] rfl ?_
  refine .loop2 (α := Nat × Hp × List (List Int) × Option Addr × Nat × List Value × List Int × Option Addr × Nat × List Value × Int) (fun y => [(9, .slice y.2.2.2.1 y.2.2.1.length y.2.2.2.2.1), (10, .slice y.2.2.2.2.2.2.2.1 y.2.2.2.2.2.2.1.length y.2.2.2.2.2.2.2.2.1), (15, .int .i64 y.2.2.2.2.2.2.2.2.2.2)]) [(2, _), (3, _), (14, _)] (fun y => [y.2.1]) (fun y => []) [_] (fun y => [.s (.slice y.2.2.2.1 y.2.2.1.length y.2.2.2.2.1) 22 1 y.2.2.1.length y.2.2.2.2.2.1, .s (.slice y.2.2.2.2.2.2.2.1 y.2.2.2.2.2.2.1.length y.2.2.2.2.2.2.2.2.1) 3 1 y.2.2.2.2.2.2.1.length y.2.2.2.2.2.2.2.2.2.1]) [] (fun y => HpLe G y.2.1 ∧ Bd w0 S0 Fs y.2.1 ∧ OL (Rep.sl (Rep.int .i64)) y.2.1 y.2.2.2.2.2.1 y.2.2.1 ∧ OL (Rep.int .i64) y.2.1 y.2.2.2.2.2.2.2.2.2.1 y.2.2.2.2.2.2.1 ∧ columns_Columns_All_L2 columns_Columns_All_J1 x1 x0_0 x0_1 x0_2 y.1 y.2.2.1 y.2.2.2.2.2.2.1 y.2.2.2.2.2.2.2.2.2.2 = some r) (fun y => y.1) (big, G, ([] : List (List Int)), none, 0, [], ([] : List Int), none, 0, [], 0) ⟨(HpLe.refl _), B0, (OL.nil (Rp' := (Rep.sl (Rep.int .i64)))), (OL.nil (Rp' := (Rep.int .i64))), h⟩ ⟨rfl, rfl, rfl, rfl, rfl, rfl, trivial⟩ rfl rfl rfl (fun y hI hb75 => ?_)
  obtain ⟨n76, G77, v78, a79, k80, cs81, v82, a83, k84, cs87, v88⟩ := y
  obtain ⟨e89, B90, o91, o92, r93⟩ := hI
  try dsimp only at e89 B90 o91 o92 r93
  refine .prune [(9, .slice a79 v78.length k80), (10, .slice a83 v82.length k84), (15, .int .i64 v88), (2, _), (3, _), (14, _)] ⟨rfl, rfl, rfl, rfl, rfl, rfl, trivial⟩ ?_;refine .same (bl' := [_]) (sl' := [.s (.slice a79 v78.length k80) 22 1 v78.length cs81, .s (.slice a83 v82.length k84) 3 1 v82.length cs87]) (Fs' := G77 :: Fs) rfl rfl rfl ?_
  obtain ⟨m94, rfl⟩ : ∃ m, n76 = m + 1 := by cases n76 with | zero => exact absurd (show (none : Option _) = some _ from r93) (by simp) | succ m => exact ⟨m, rfl⟩
  have r95 : columns_Columns_All_B2 columns_Columns_All_J1 x1 x0_0 x0_1 x0_2 (columns_Columns_All_L2 columns_Columns_All_J1 x1 x0_0 x0_1 x0_2 m94) v78 v82 v88 = some r := r93; clear r93; unfold columns_Columns_All_B2 at r95; try dsimp only at r95
  refine .seq ?_;refine .region rfl ?_;refine .q .ro (.lss rfl rfl) rfl ?_;refine .re ?_;refine .seq ?_
  refine .cond_dec rfl (fun c96 => ?_) (fun c96 => ?_)
  ·have r97 := ifT r95 c96; clear r95
   refine .skip ?_;refine .seq ?_;refine .block ?_;refine .seq ?_;refine .region rfl ?_;refine .mv rfl rfl ?_;refine .av rfl rfl ?_;refine .re ?_;refine .seq ?_
   refine .region rfl ?_;refine .mv rfl rfl ?_;refine .q .ro (.load_own_a 0 [_, _, _] rfl rfl ty162 rfl) rfl ?_;refine .mv rfl rfl ?_
   obtain ⟨u98, hu98, r99⟩ := bind_some r97; clear r97
   refine .callW (b1 := []) (b2 := [_]) (s1 := []) [_, _] [] .ro rfl rfl Tryz.call86 rfl rfl (columns_Columns_Decode_c (G := G77) List.mem_cons_self (Rp.mono e89 hg0) (SlR.mono e89 s0_2) hu98) rfl B90 (fun v101 bo so G102 e103 B104 h105 => ?_)
   obtain ⟨a106, k107, a108, k109, rfl, rfl, rfl, s110, s111⟩ := h105
   refine .same (bl' := [_]) (sl' := [_, _]) rfl rfl rfl ?_;refine .mv rfl rfl ?_;refine .q .ro (.extract rfl rfl) rfl ?_;refine .q .ro (.extract rfl rfl) rfl ?_
   refine .alloc .ro ty215 rfl (fun b112 hb112 => ?_)
   refine .store 0 [_, _] [_, _] .ro rfl rfl rfl ty215 rfl rfl rfl rfl ?_;refine .av rfl rfl ?_;refine .re ?_;refine .seq ?_;refine .seq ?_;refine .region rfl ?_;refine .mv rfl rfl ?_;refine .q .ro (.neq rfl rfl) rfl ?_;refine .re ?_
   refine .cond_dec rfl (fun c113 => ?_) (fun c113 => ?_)
   ·have r114 := ifT r99 c113; clear r99
    refine .seq ?_;refine .region rfl ?_;refine .av rfl rfl ?_;refine .av rfl rfl ?_;refine .av rfl rfl ?_;refine .re ?_;refine .prune [(6, _), (7, _), (8, _)] ⟨rfl, rfl, rfl, trivial⟩ ?_;refine .own_nil 22 1 ?_;refine .own_nil 3 1 ?_
    cases r114
    refine .drop 2 0 [] _ rfl rfl ?_;refine .pullS 1 rfl [_, _, _, _] rfl ?_;refine .pullS 3 rfl [_, _, _, _] rfl ?_;refine .pullS 3 rfl [_, _, _, _] rfl ?_;refine .drop 0 2 _ [_, _] rfl rfl ?_
    refine .retW (c := ⟨85, none⟩) (.inr ⟨_, rfl⟩) [.tmp 6, .tmp 7, .tmp 8] [_, _, _] rfl Tryz.func85 Tryz.results85 ⟨RV.tmp rfl, RV.tmp rfl, RV.tmp rfl, trivial⟩ mcm List.mem_cons_self B104 (by subst hS0; simp [blks]) (fun G' hg => ⟨none, 0, [], none, 0, [], rfl, rfl, rfl, (OL.mono hg (OL.nil (Rp' := (Rep.sl (Rep.int .i64))))), (OL.mono hg (OL.nil (Rp' := (Rep.int .i64))))⟩)
   ·have r115 := ifF r99 c113; clear r99
    refine .skip ?_;refine .drawL (.q 0 (.q 1 (.q 2 (.q 5 (.q 6 (.q 7 (.e 3 1 (.e 4 1 (.e 8 1 (.q 9 (.q 10 .nil))))))))))) [_, _] (by kernel_rfl) (by kernel_rfl) (pick_mem [0, 1] rfl) ?_;refine .dq (.move rfl) rfl ?_;refine .dq (.fieldAddr 0 rfl fl215_0 ty22.sz rfl) rfl ?_;refine .dq (.load_own 0 rfl rfl ty22 rfl) rfl ?_;refine .dq (.move rfl) rfl ?_;refine .dq (.fieldAddr 1 rfl fl215_1 ty22.sz rfl) rfl ?_;refine .dq (.load_own 0 rfl rfl ty22 rfl) rfl ?_
    refine .lit [_] [(0, _)] .d1 sl51 ty22 rfl rfl rfl rfl rfl rfl (fun b116 hb116 => ?_)
    have o117 : OL (Rep.sl (Rep.int .i64)) G102 [.slice a106 u98.1.1.length k107] ([u98.1.1] : List (List Int)) := ((OL.cons rfl (Rep.slI s110) (OL.nil (Rp' := (Rep.sl (Rep.int .i64))))) :)
    refine .reval 30 (n' := ([u98.1.1] : List (List Int)).length) rfl rfl ?_;refine .clsL (HpLe.refl _) (pick_mem [0, 1] rfl) ?_
    obtain ⟨u118, hu118, r119⟩ := bind_some r115; clear r115
    refine .appO (Q := (Rep.sl (Rep.int .i64))) 0 .d1 sl51 ty22 rfl rfl rfl rfl rfl rfl (OL.mono e103 o91) o117 rfl rfl rfl B104 hu118 rfl (fun a120 k121 cs122 o123 => ?_)
    refine .clsL (HpLe.refl _) (pick_mem [0, 1] rfl) ?_
    obtain ⟨u124, hu124, r125⟩ := bind_some r119; clear r119
    refine .appR (Q := (Rep.int .i64)) 1 .d1 sl22 ty3 rfl rfl rfl rfl rfl (OL.mono e103 o92) rfl rfl s111 rfl List.mem_cons_self hu124 rfl (fun a126 k127 cs128 o131 => ?_)
    refine .clsL (HpLe.refl _) (pick_mem [0, 1] rfl) ?_;refine .dq (.assign rfl) rfl ?_;refine .dq (.assign rfl) rfl ?_;refine .draw_end ?_;refine .prune [(9, _), (10, _), (15, _), (2, _), (3, _), (14, _)] ⟨rfl, rfl, rfl, rfl, rfl, rfl, trivial⟩ ?_;refine .inBlock ?_;refine .region rfl ?_;refine .q .ro (.addw rfl rfl) rfl ?_;refine .mv rfl rfl ?_
    refine .re ?_;refine .drop 1 0 [_] _ rfl rfl ?_
    refine .prune _ ?_ (Cov.same rfl rfl rfl (hb75 (m94, G102, u118, a120, k121, cs122, u124, a126, k127, cs128, (w64 (v88 + 1))) ⟨(HpLe.trans e89 e103), B104, o123, o131, r125⟩ (Nat.lt_succ_self _)))
    exact ⟨rfl, rfl, rfl, rfl, rfl, rfl, trivial⟩
  ·have r132 := ifF r95 c96; clear r95
   refine .exit rfl ?_
   refine .prune _ ?_ (Cov.same rfl rfl rfl (hb74 (G77, v78, a79, k80, cs81, v82, a83, k84, cs87, x0_0, x0_1) ⟨e89, B90, o91, o92, r132⟩))
   exact ⟨rfl, rfl, trivial⟩
theorem columns_Coefficient_c {Fs : List Hp} {G : Hp} {a0 : Option Addr} {k0 : Nat} {x0 : List Int} {x1 : Int} {r : Int} (hG : G ∈ Fs) (s0 : SlR (Rep.int .i64) G a0 k0 x0) (h : columns_Coefficient x0 x1 = some r) : RetS Tryz.prog 114 #[.slice a0 x0.length k0, .int .i64 x1] Fs [] [] (fun v bo so => v = .int .i64 r ∧ bo = [] ∧ so = []) := by
 unfold columns_Coefficient at h
 try dsimp only at h
 refine RetS.of (vs := [_, _]) Tryz.func114 rfl Tryz.ntmps114 [(0, _), (1, _)] ⟨rfl, rfl, trivial⟩ rfl hG fun w0 S0 hS0 B0 => ?_
 refine .seq ?_;refine .region rfl ?_;refine .av rfl rfl ?_;refine .re ?_;refine .seq ?_;refine .seq ?_;refine .region rfl ?_;refine .mv rfl rfl ?_;refine .mv rfl rfl ?_
 refine .q .ro (.len_sl rfl rfl sl22) rfl ?_;refine .q .ro (.lss rfl rfl) rfl ?_;refine .re ?_
 refine .cond_dec rfl (fun c1 => ?_) (fun c1 => ?_)
 ·have r2 := ifT h c1; clear h
  refine .seq ?_;refine .region rfl ?_;refine .mv rfl rfl ?_;refine .mv rfl rfl ?_
  obtain ⟨u3, hu3, r4⟩ := bind_some r2; clear r2
  obtain ⟨c5, p6, h7⟩ := SlR.get s0 hu3
  obtain rfl := h7
  refine .q .ro (.idxR s0 rfl rfl hu3 sl22 ty3.sz) rfl ?_;refine .q .ro (.load_rp p6 List.mem_cons_self rfl ty3 rfl) rfl ?_;refine .av rfl rfl ?_;refine .re ?_
  cases r4
  refine .retS (c := ⟨114, none⟩) (.inr ⟨_, rfl⟩) [.tmp 4] [_] rfl Tryz.func114 Tryz.results114 ⟨RV.tmp rfl, trivial⟩ mcm ⟨rfl, rfl, rfl⟩
 ·have r8 := ifF h c1; clear h
  refine .skip ?_;refine .seq ?_;refine .region rfl ?_;refine .av rfl rfl ?_;refine .re ?_
  cases r8
  refine .retS (c := ⟨114, none⟩) (.inr ⟨_, rfl⟩) [.tmp 4] [_] rfl Tryz.func114 Tryz.results114 ⟨RV.tmp rfl, trivial⟩ mcm ⟨rfl, rfl, rfl⟩
theorem curve_Decode_c {Fs : List Hp} {G : Hp} {x0_0 : Int} {x1_0 : Int} {x1_1 : Int} {x2 : Int} {a3 : Option Addr} {k3 : Nat} {x3 : List (Bool × (List Int))} {r : (((List Int) × (List Int)) × Int)} (hG : G ∈ Fs) (hg0 : Rp G (.pointer (some ⟨0, 0, none⟩)) [ifc233 (some 12)]) (s3 : SlR (Rep.pair Rep.bool (Rep.sl (Rep.int .i64))) G a3 k3 x3) (h : curve_Decode x0_0 (x1_0, x1_1) x2 x3 = some r) : RetW Tryz.prog 50 #[.agg #[.int .i64 x0_0], .agg #[.int .i64 x1_0, .int .i64 x1_1], .int .i64 x2, .slice a3 x3.length k3] Fs [] [] (fun v bo so G => ∃ a0 : Option Addr, ∃ k0 : Nat, ∃ a1 : Option Addr, ∃ k1 : Nat, v = .tuple #[.agg #[.slice a0 r.1.1.length k0, .slice a1 r.1.2.length k1], .int .i64 r.2] ∧ bo = [] ∧ so = [] ∧ SlR (Rep.int .i64) G a0 k0 r.1.1 ∧ SlR (Rep.int .i64) G a1 k1 r.1.2) := by
 unfold curve_Decode at h
 try dsimp only at h
 refine RetW.of (vs := [_, _, _, _]) Tryz.func50 rfl Tryz.ntmps50 [(0, _), (1, _), (2, _), (3, _)] ⟨rfl, rfl, rfl, rfl, trivial⟩ rfl hG fun w0 S0 hS0 B0 => ?_
 refine .seq ?_;refine .region rfl ?_
 refine .box [_] .ro rfl rfl rfl (fun b1 hb1 => ?_)
 refine .box [_, _] .ro rfl rfl rfl (fun b2 hb2 => ?_)
 refine .alloc .ro ty65 rfl (fun b3 hb3 => ?_)
 refine .av rfl rfl ?_;refine .re ?_;refine .seq ?_;refine .seq ?_;refine .region rfl ?_;refine .q .ro (.load_own_a 2 [_] rfl rfl ty45 rfl) rfl ?_;refine .q .ro (.load_own_a 1 [_, _] rfl rfl ty69 rfl) rfl ?_
 obtain ⟨u4, hu4, r5⟩ := bind_some h; clear h
 refine .callS (b1 := []) (b2 := [_, _, _]) (s1 := []) [_, _] [] .ro rfl rfl Tryz.call113 rfl rfl (curve_Check_c (G := G) List.mem_cons_self  hu4) rfl (fun v7 bo so h6 => ?_)
 obtain ⟨rfl, rfl, rfl⟩ := h6
 refine .same (bl' := [_, _, _]) (sl' := []) rfl rfl rfl ?_;refine .av rfl rfl ?_;refine .re ?_;refine .seq ?_;refine .region rfl ?_;refine .mv rfl rfl ?_;refine .q .ro (.neq rfl rfl) rfl ?_;refine .re ?_
 refine .cond_dec rfl (fun c8 => ?_) (fun c8 => ?_)
 ·have r9 := ifT r5 c8; clear r5
  refine .seq ?_;refine .region rfl ?_;refine .q .ro (.build [_, _] [] ty65 pl65 rfl rfl) rfl ?_;refine .mv rfl rfl ?_;refine .store 0 [_, _] [_, _, _] .ro rfl rfl rfl ty65 rfl rfl rfl rfl ?_;refine .av rfl rfl ?_;refine .re ?_;refine .prune [(8, _), (9, _)] ⟨rfl, rfl, trivial⟩ ?_
  cases r9
  refine .retWD 3 (c := ⟨50, none⟩) (.inr ⟨_, rfl⟩) [.cell 8 65, .tmp 9] [_, _] rfl Tryz.func50 Tryz.results50 ⟨RV.cell_a 0 [_, _] rfl rfl ty65 rfl, RV.tmp rfl, trivial⟩ mcm List.mem_cons_self B0 (by subst hS0; simp [blks]) (fun G' hg => ⟨none, 0, none, 0, rfl, rfl, rfl, (SlR.mono hg (SlR.nil (Rp' := (Rep.int .i64)))), (SlR.mono hg (SlR.nil (Rp' := (Rep.int .i64))))⟩)
 ·have r10 := ifF r5 c8; clear r5
  refine .skip ?_;refine .seq ?_;refine .seq ?_;refine .region rfl ?_;refine .q .ro (.load_own_a 2 [_] rfl rfl ty45 rfl) rfl ?_;refine .mv rfl rfl ?_;refine .q .ro (.fieldAddr 0 rfl fl69_0 ty3.sz rfl) rfl ?_;refine .q .ro (.load_own 1 rfl rfl ty3 rfl) rfl ?_;refine .q .ro (.fieldAddr 1 rfl fl69_1 ty3.sz rfl) rfl ?_
  refine .q .ro (.load_own 1 rfl rfl ty3 rfl) rfl ?_;refine .q .ro (.addw rfl rfl) rfl ?_;refine .mv rfl rfl ?_
  obtain ⟨u11, hu11, r12⟩ := bind_some r10; clear r10
  refine .callS (b1 := []) (b2 := [_, _, _]) (s1 := []) [_, _, _, _, _] [] .ro rfl rfl Tryz.call84 rfl rfl (columns_Check_c (G := G) List.mem_cons_self s3 hu11) rfl (fun v14 bo so h13 => ?_)
  obtain ⟨rfl, rfl, rfl⟩ := h13
  refine .same (bl' := [_, _, _]) (sl' := []) rfl rfl rfl ?_;refine .av rfl rfl ?_;refine .re ?_;refine .prune [(2, _), (3, _), (4, _), (5, _), (8, _), (11, _)] ⟨rfl, rfl, rfl, rfl, rfl, rfl, trivial⟩ ?_;refine .seq ?_;refine .region rfl ?_;refine .mv rfl rfl ?_;refine .q .ro (.neq rfl rfl) rfl ?_;refine .re ?_
  refine .cond_dec rfl (fun c15 => ?_) (fun c15 => ?_)
  ·have r16 := ifT r12 c15; clear r12
   refine .seq ?_;refine .region rfl ?_;refine .q .ro (.build [_, _] [] ty65 pl65 rfl rfl) rfl ?_;refine .mv rfl rfl ?_;refine .store 0 [_, _] [_, _, _] .ro rfl rfl rfl ty65 rfl rfl rfl rfl ?_;refine .av rfl rfl ?_;refine .re ?_
   cases r16
   refine .retWD 3 (c := ⟨50, none⟩) (.inr ⟨_, rfl⟩) [.cell 8 65, .tmp 9] [_, _] rfl Tryz.func50 Tryz.results50 ⟨RV.cell_a 0 [_, _] rfl rfl ty65 rfl, RV.tmp rfl, trivial⟩ mcm List.mem_cons_self B0 (by subst hS0; simp [blks]) (fun G' hg => ⟨none, 0, none, 0, rfl, rfl, rfl, (SlR.mono hg (SlR.nil (Rp' := (Rep.int .i64)))), (SlR.mono hg (SlR.nil (Rp' := (Rep.int .i64))))⟩)
  ·have r17 := ifF r12 c15; clear r12
   refine .skip ?_;refine .seq ?_;refine .region rfl ?_;refine .q .ro (.load_own_a 2 [_] rfl rfl ty45 rfl) rfl ?_;refine .q .ro (.fieldAddr 1 rfl fl69_1 ty3.sz rfl) rfl ?_;refine .q .ro (.load_own 1 rfl rfl ty3 rfl) rfl ?_;refine .q .ro (.addw rfl rfl) rfl ?_;refine .mv rfl rfl ?_;refine .q .ro (.build [_, _, _] [(0, _), (1, _), (2, _)] ty162 pl162 rfl rfl) rfl ?_
   refine .alloc .ro ty162 rfl (fun b18 hb18 => ?_)
   refine .store 0 [_, _, _] [_, _, _, _] .ro rfl rfl rfl ty162 rfl rfl rfl rfl ?_;refine .re ?_;refine .seq ?_;refine .region rfl ?_;refine .q .ro (.load_own_a 0 [_, _, _] rfl rfl ty162 rfl) rfl ?_;refine .mv rfl rfl ?_
   obtain ⟨u19, hu19, r20⟩ := bind_some r17; clear r17
   refine .callW (b1 := []) (b2 := [_, _, _, _]) (s1 := []) [_, _, _] [] .ro rfl rfl Tryz.call85 rfl rfl (columns_Columns_All_c (G := G) List.mem_cons_self hg0 s3 hu19) rfl B0 (fun v22 bo so G23 e24 B25 h21 => ?_)
   obtain ⟨a28, k29, cs30, a33, k34, cs35, rfl, rfl, rfl, o31, o36⟩ := h21
   refine .same (bl' := [_, _, _, _]) (sl' := [_, _]) rfl rfl rfl ?_;refine .mv rfl rfl ?_;refine .q .ro (.extract rfl rfl) rfl ?_;refine .q .ro (.extract rfl rfl) rfl ?_;refine .q .ro (.extract rfl rfl) rfl ?_;refine .av rfl rfl ?_;refine .av rfl rfl ?_;refine .av rfl rfl ?_;refine .re ?_
   refine .prune [(8, _), (13, _), (14, _), (15, _)] ⟨rfl, rfl, rfl, rfl, trivial⟩ ?_;refine .seq ?_;refine .seq ?_;refine .region rfl ?_;refine .mv rfl rfl ?_;refine .q .ro (.neq rfl rfl) rfl ?_;refine .re ?_
   refine .cond_dec rfl (fun c37 => ?_) (fun c37 => ?_)
   ·have r38 := ifT r20 c37; clear r20
    refine .seq ?_;refine .region rfl ?_;refine .q .ro (.build [_, _] [] ty65 pl65 rfl rfl) rfl ?_;refine .mv rfl rfl ?_;refine .store 1 [_, _] [_, _, _, _] .ro rfl rfl rfl ty65 rfl rfl rfl rfl ?_;refine .av rfl rfl ?_;refine .re ?_
    cases r38
    refine .drop 0 2 _ [] rfl rfl ?_
    refine .retWD 4 (c := ⟨50, none⟩) (.inr ⟨_, rfl⟩) [.cell 8 65, .tmp 9] [_, _] rfl Tryz.func50 Tryz.results50 ⟨RV.cell_a 1 [_, _] rfl rfl ty65 rfl, RV.tmp rfl, trivial⟩ mcm List.mem_cons_self B25 (by subst hS0; simp [blks]) (fun G' hg => ⟨none, 0, none, 0, rfl, rfl, rfl, (SlR.mono hg (SlR.nil (Rp' := (Rep.int .i64)))), (SlR.mono hg (SlR.nil (Rp' := (Rep.int .i64))))⟩)
   ·have r39 := ifF r20 c37; clear r20
    refine .skip ?_;refine .seq ?_;refine .region rfl ?_;refine .mv rfl rfl ?_;refine .q .ro (.build [_, _] [(1, _)] ty65 pl65 rfl rfl) rfl ?_
    refine .alloc .ro ty65 rfl (fun b40 hb40 => ?_)
    refine .store 0 [_, _] [_, _, _, _, _] .ro rfl rfl rfl ty65 rfl rfl rfl rfl ?_;refine .re ?_;refine .seq ?_;refine .seq ?_;refine .region rfl ?_;refine .mv rfl rfl ?_;refine .q .ro (.len_sl rfl rfl sl51) rfl ?_;refine .mv rfl rfl ?_;refine .re ?_
    refine .cutB (β := List Int × Option Addr × Nat × List Value × Int × Int × Int × Int × Int) (fun y => []) [(8, _), (16, _)] (fun y => G23 :: Fs) (fun y => [(b40, .cells #[.slice y.2.1 y.1.length y.2.2.1, .slice a33 u19.2.1.length k34] 65 (0, 0)), (b18, .cells #[.int .i64 y.2.2.2.2.1, .int .i64 y.2.2.2.2.2.1, .slice a3 x3.length k3] 162 (0, 0)), (b2, .cells #[.int .i64 y.2.2.2.2.2.2.1, .int .i64 y.2.2.2.2.2.2.2.1] 69 (0, 0)), (b1, .cells #[.int .i64 y.2.2.2.2.2.2.2.2] 45 (0, 0))]) [_] (fun y => [.s (.slice y.2.1 y.1.length y.2.2.1) 3 1 y.1.length y.2.2.2.1]) [_, _] (fun y => OL (Rep.int .i64) G23 y.2.2.2.1 y.1 ∧ (curve_Decode_J1 u19.2.1) y.1 y.2.2.2.2.1 y.2.2.2.2.2.1 y.2.2.2.2.2.2.1 y.2.2.2.2.2.2.2.1 y.2.2.2.2.2.2.2.2 = some r) ⟨rfl, rfl, trivial⟩ [2] rfl [0, 1] rfl ?_ ?_
    ·intro y hI
     obtain ⟨v26, a27, k32, cs41, v42, v43, v44, v46, v47⟩ := y
     obtain ⟨o48, r49⟩ := hI
     try dsimp only at o48 r49
     refine .prune [(8, _), (16, _)] ⟨rfl, rfl, trivial⟩ ?_;refine .same (bl' := [(b40, .cells #[.slice a27 v26.length k32, .slice a33 u19.2.1.length k34] 65 (0, 0)), (b18, .cells #[.int .i64 v42, .int .i64 v43, .slice a3 x3.length k3] 162 (0, 0)), (b2, .cells #[.int .i64 v44, .int .i64 v46] 69 (0, 0)), (b1, .cells #[.int .i64 v47] 45 (0, 0)), _]) (sl' := [.s (.slice a27 v26.length k32) 3 1 v26.length cs41, _, _]) (Fs' := G23 :: Fs) rfl rfl rfl ?_
     unfold curve_Decode_J1 at r49
     try dsimp only at r49
     refine .seq ?_;refine .region rfl ?_;refine .q .ro (.load_own_a 0 [_, _] rfl rfl ty65 rfl) rfl ?_;refine .store 4 [_, _] [_, _, _, _, _] .ro rfl rfl rfl ty65 rfl rfl rfl rfl ?_;refine .av rfl rfl ?_;refine .re ?_
     refine .freezeR 0 rfl rfl o48 [_, _] rfl B25 (fun G52 e53 B54 s55 => ?_)
     refine .freezeR 1 rfl rfl (OL.mono e53 o36) [_] rfl B54 (fun G56 e57 B58 s59 => ?_)
     cases r49
     refine .drop 0 1 _ [] rfl rfl ?_
     refine .retWD 5 (c := ⟨50, none⟩) (.inr ⟨_, rfl⟩) [.cell 8 65, .tmp 9] [_, _] rfl Tryz.func50 Tryz.results50 ⟨RV.cell_a 4 [_, _] rfl rfl ty65 rfl, RV.tmp rfl, trivial⟩ mcm List.mem_cons_self B58 (by subst hS0; simp [blks]) (fun G' hg => ⟨a27, k32, a33, k34, rfl, rfl, rfl, (SlR.mono hg (SlR.mono e57 s55)), (SlR.mono hg s59)⟩)
    ·intro hb60
     refine .block ?_;refine .own_nil 3 1 ?_
     refine .loop2 (α := Nat × List (List Int) × List Int × Option Addr × Nat × List Value) (fun y => [(60, .int .i64 (y.1 : Int))]) [(8, _), (16, _), (58, _), (59, _)] (fun y => []) (fun y => [(b40, .cells #[.slice y.2.2.2.1 y.2.2.1.length y.2.2.2.2.1, .slice a33 u19.2.1.length k34] 65 (0, 0))]) [_, _, _, _] (fun y => [.s (.slice y.2.2.2.1 y.2.2.1.length y.2.2.2.2.1) 3 1 y.2.2.1.length y.2.2.2.2.2]) [_, _] (fun y => OL (Rep.int .i64) G23 y.2.2.2.2.2 y.2.2.1 ∧ List.drop y.1 u19.1 = y.2.1 ∧ curve_Decode_L2 (curve_Decode_J1 u19.2.1) x0_0 (w64 (x1_1 + 1)) x1_0 x1_1 y.2.1 y.2.2.1 = some r) (fun y => y.2.1.length) (0, u19.1, ([] : List Int), none, 0, []) ⟨(OL.nil (Rp' := (Rep.int .i64))), rfl, r39⟩ ⟨rfl, rfl, rfl, rfl, rfl, trivial⟩ rfl rfl rfl (fun y hI hb61 => ?_)
     obtain ⟨i62, w63, v66, a67, k68, cs70⟩ := y
     obtain ⟨o71, g72, r73⟩ := hI
     try dsimp only at o71 g72 r73
     refine .prune [(60, .int .i64 (i62 : Int)), (8, _), (16, _), (58, _), (59, _)] ⟨rfl, rfl, rfl, rfl, rfl, trivial⟩ ?_;refine .same (bl' := [(b40, .cells #[.slice a67 v66.length k68, .slice a33 u19.2.1.length k34] 65 (0, 0)), _, _, _, _]) (sl' := [.s (.slice a67 v66.length k68) 3 1 v66.length cs70, _, _]) (Fs' := G23 :: Fs) rfl rfl rfl ?_
     cases w63 with
     | nil =>
      rw [curve_Decode_L2] at r73; try dsimp only at r73
      refine .seq ?_;refine .region rfl ?_;refine .q .ro (.lss rfl rfl) rfl ?_;refine .re ?_;refine .seq ?_
      refine .cond_dec rfl (fun c => absurd c (drop_nil g72)) (fun _ => ?_)
      refine .exit rfl ?_;refine .pull 2 rfl [_, _, _, _, _] rfl ?_;refine .pull 4 rfl [_, _, _, _, _] rfl ?_;refine .pull 4 rfl [_, _, _, _, _] rfl ?_;refine .pull 4 rfl [_, _, _, _, _] rfl ?_;refine .pull 4 rfl [_, _, _, _, _] rfl ?_
      refine .prune _ ?_ (Cov.same rfl rfl rfl (hb60 (v66, a67, k68, cs70, x0_0, (w64 (x1_1 + 1)), x1_0, x1_1, x0_0) ⟨o71, r73⟩))
      exact ⟨rfl, rfl, trivial⟩
     | cons x74 xs75 =>
      have r76 : curve_Decode_B2 (curve_Decode_J1 u19.2.1) x0_0 (w64 (x1_1 + 1)) x1_0 x1_1 (curve_Decode_L2 (curve_Decode_J1 u19.2.1) x0_0 (w64 (x1_1 + 1)) x1_0 x1_1 xs75) x74 v66 = some r := r73; clear r73; unfold curve_Decode_B2 at r76; try dsimp only at r76
      refine .seq ?_;refine .region rfl ?_;refine .q .ro (.lss rfl rfl) rfl ?_;refine .re ?_;refine .seq ?_
      refine .cond_dec rfl (fun _ => ?_) (fun c => absurd (drop_lt g72) c)
      refine .skip ?_;refine .seq ?_;refine .block ?_;refine .seq ?_;refine .region rfl ?_
      obtain ⟨c77, p78, h79⟩ := OL.get o31 (drop_idx g72)
      obtain ⟨a80, k81, rfl, s82⟩ := h79
      refine .q .ro (.idxO 1 rfl rfl rfl (drop_idx g72) sl51 ty22.sz) rfl ?_;refine .q .ro (.loadO 1 0 rfl (drop_idx g72) p78 rfl (.inl ⟨rfl, rfl⟩) ty22 rfl) rfl ?_;refine .av rfl rfl ?_;refine .re ?_;refine .drawL (.q 0 (.q 1 (.q 2 (.e 3 1 (.e 4 1 (.e 5 1 (.q 6 (.e 7 2 .nil)))))))) [_, _, _, _, _] (by kernel_rfl) (by kernel_rfl) (pick_mem [0, 1, 2, 3, 4] rfl) ?_;refine .dq (.fieldAddr 0 rfl fl65_0 ty22.sz rfl) rfl ?_;refine .dq (.load_own 0 rfl rfl ty22 rfl) rfl ?_;refine .dq (.move rfl) rfl ?_
      obtain ⟨u83, hu83, r86⟩ := bind_some r76; clear r76
      refine .callS (b1 := []) (b2 := [_, _, _, _, _]) (s1 := []) [_, _] [] .d1 rfl rfl Tryz.call114 rfl rfl (columns_Coefficient_c (G := G23) List.mem_cons_self s82 hu83) rfl (fun v87 bo so h88 => ?_)
      obtain ⟨rfl, rfl, rfl⟩ := h88
      refine .same (bl' := [_, _, _, _, _]) (sl' := [_, _, _]) rfl rfl rfl ?_;refine .clsL (HpLe.refl _) (pick_mem [0, 1, 2, 3, 4] rfl) ?_
      refine .lit [_] [(0, _)] .d1 sl22 ty3 rfl rfl rfl rfl rfl rfl (fun b89 hb89 => ?_)
      have o90 : OL (Rep.int .i64) G23 [.int .i64 u83] ([u83] : List Int) := ((OL.cons rfl (Rep.intI .i64 u83) (OL.nil (Rp' := (Rep.int .i64)))) :)
      refine .reval 68 (n' := ([u83] : List Int).length) rfl rfl ?_;refine .clsL (HpLe.refl _) (pick_mem [0, 1, 2, 3, 4] rfl) ?_
      obtain ⟨u91, hu91, r92⟩ := bind_some r86; clear r86
      refine .appO (Q := (Rep.int .i64)) 0 .d1 sl22 ty3 rfl rfl rfl rfl rfl rfl o71 o90 rfl rfl rfl B25 hu91 rfl (fun a93 k94 cs95 o96 => ?_)
      refine .clsL (HpLe.refl _) (pick_mem [0, 1, 2, 3, 4] rfl) ?_;refine .dq (.fieldAddr 0 rfl fl65_0 ty22.sz rfl) rfl ?_;refine .store 0 [_, _] [_, _, _, _, _] .d2 rfl rfl rfl ty22 rfl rfl rfl rfl ?_;refine .draw_end ?_;refine .inBlock ?_;refine .region rfl ?_;refine .q .ro (.addw rfl rfl) rfl ?_;refine .mv rfl rfl ?_;refine .re ?_
      refine .prune _ ?_ (Cov.same rfl rfl rfl (hb61 ((i62 + 1), xs75, u91, a93, k94, cs95) ⟨o96, (drop_succ g72), r92⟩ (Nat.lt_succ_self _)))
      exact ⟨(congrArg (fun z => some (Value.int .i64 z)) (idx_wrap (OL.len' o31) g72)), rfl, rfl, rfl, rfl, trivial⟩
theorem top_awake_c {Fs : List Hp} {G : Hp}  {r : Bool} (hG : G ∈ Fs) (hg0 : Rp G (.pointer (some ⟨0, 0, none⟩)) [ifc233 (some 12)]) (h : top_awake = some r) : RetS Tryz.prog 7 #[] Fs [] [] (fun v bo so => v = .bool r ∧ bo = [] ∧ so = []) := by
 unfold top_awake at h
 try dsimp only at h
 refine RetS.of (vs := []) Tryz.func7 rfl Tryz.ntmps7 [] trivial rfl hG fun w0 S0 hS0 B0 => ?_
 refine .seq ?_;refine .region rfl ?_;refine .av rfl rfl ?_;refine .re ?_;refine .seq ?_;refine .region rfl ?_;refine .q .ro (.build [_] [(0, _)] ty45 pl45 rfl rfl) rfl ?_
 refine .alloc .ro ty45 rfl (fun b1 hb1 => ?_)
 refine .store 0 [_] [_] .ro rfl rfl rfl ty45 rfl rfl rfl rfl ?_;refine .re ?_;refine .seq ?_;refine .region rfl ?_;refine .q .ro (.build [_, _] [(0, _), (1, _)] ty69 pl69 rfl rfl) rfl ?_
 refine .alloc .ro ty69 rfl (fun b2 hb2 => ?_)
 refine .store 0 [_, _] [_, _] .ro rfl rfl rfl ty69 rfl rfl rfl rfl ?_;refine .re ?_;refine .seq ?_;refine .region rfl ?_
 refine .lit [_, _] [(0, _), (1, _)] .ro sl22 ty3 rfl rfl rfl rfl rfl rfl (fun b3 hb3 => ?_)
 have o4 : OL (Rep.int .i64) G [.int .i64 1, .int .i64 2] ([1, 2] : List Int) := ((OL.cons rfl (Rep.intI .i64 1) (OL.cons rfl (Rep.intI .i64 2) (OL.nil (Rp' := (Rep.int .i64))))) :)
 refine .reval 15 (n' := ([1, 2] : List Int).length) rfl rfl ?_
 refine .lit [_, _] [(0, _), (1, _)] .ro sl22 ty3 rfl rfl rfl rfl rfl rfl (fun b6 hb6 => ?_)
 have o7 : OL (Rep.int .i64) G [.int .i64 3, .int .i64 4] ([3, 4] : List Int) := ((OL.cons rfl (Rep.intI .i64 3) (OL.cons rfl (Rep.intI .i64 4) (OL.nil (Rp' := (Rep.int .i64))))) :)
 refine .reval 16 (n' := ([3, 4] : List Int).length) rfl rfl ?_
 refine .freezeR 1 rfl rfl o4 [_] rfl B0 (fun G9 e10 B11 s12 => ?_)
 refine .freezeR 0 rfl rfl (OL.mono e10 o7) [] rfl B11 (fun G14 e15 B16 s17 => ?_)
 refine .lit [_, _] [(0, _), (1, _)] .ro sl51 ty22 rfl rfl rfl rfl rfl rfl (fun b19 hb19 => ?_)
 have o20 : OL (Rep.sl (Rep.int .i64)) G14 [.slice (some ⟨b3, 0, none⟩) ([1, 2] : List Int).length 2, .slice (some ⟨b6, 0, none⟩) ([3, 4] : List Int).length 2] ([([1, 2] : List Int), ([3, 4] : List Int)] : List (List Int)) := ((OL.cons rfl (Rep.slI (SlR.mono e15 s12)) (OL.cons rfl (Rep.slI s17) (OL.nil (Rp' := (Rep.sl (Rep.int .i64)))))) :)
 refine .reval 17 (n' := ([([1, 2] : List Int), ([3, 4] : List Int)] : List (List Int)).length) rfl rfl ?_;refine .av rfl rfl ?_;refine .re ?_;refine .seq ?_;refine .region rfl ?_;refine .q .ro (.load_own_a 1 [_] rfl rfl ty45 rfl) rfl ?_;refine .q .ro (.load_own_a 0 [_, _] rfl rfl ty69 rfl) rfl ?_
 refine .lit [_, _] [(0, _), (1, _)] .ro sl22 ty3 rfl rfl rfl rfl rfl rfl (fun b22 hb22 => ?_)
 have o23 : OL (Rep.int .i64) G14 [.int .i64 4, .int .i64 2] ([4, 2] : List Int) := ((OL.cons rfl (Rep.intI .i64 4) (OL.cons rfl (Rep.intI .i64 2) (OL.nil (Rp' := (Rep.int .i64))))) :)
 refine .reval 21 (n' := ([4, 2] : List Int).length) rfl rfl ?_;refine .q .ro (.build [_, _] [(0, _)] ty56 pl56 rfl rfl) rfl ?_
 refine .freezeR 0 rfl rfl o23 [_] rfl B16 (fun G25 e26 B27 s28 => ?_)
 obtain ⟨u30, hu30, r31⟩ := bind_some h; clear h
 refine .callW (b1 := []) (b2 := [_, _]) (s1 := []) [_, _, _, _, _] [] .ro rfl rfl Tryz.call49 rfl rfl (curve_Queries_c (G := G25) List.mem_cons_self s28 hu30) rfl B27 (fun v33 bo so G34 e35 B36 h32 => ?_)
 obtain ⟨a38, k39, a41, k42, rfl, rfl, rfl, s40, s43⟩ := h32
 refine .same (bl' := [_, _]) (sl' := [_]) rfl rfl rfl ?_;refine .mv rfl rfl ?_;refine .q .ro (.extract rfl rfl) rfl ?_;refine .q .ro (.extract rfl rfl) rfl ?_;refine .q .ro (.extract rfl rfl) rfl ?_
 refine .alloc .ro ty56 rfl (fun b44 hb44 => ?_)
 refine .av rfl rfl ?_;refine .store 0 [_, _] [_, _, _] .ro rfl rfl rfl ty56 rfl rfl rfl rfl ?_;refine .av rfl rfl ?_;refine .re ?_;refine .prune [(1, _), (2, _), (3, _), (4, _), (6, _)] ⟨rfl, rfl, rfl, rfl, rfl, trivial⟩ ?_;refine .seq ?_;refine .seq ?_;refine .region rfl ?_;refine .mv rfl rfl ?_
 refine .q .ro (.neq rfl rfl) rfl ?_;refine .mv rfl rfl ?_;refine .cutR 4 (β := Unit) (fun y => [(33, .bool (decide ((u30.2.2 ≠ 0) ∨ ((u30.1.length : Int) ≠ 3))))]) [(1, _), (2, _), (3, _), (4, _)] (fun y => G34 :: Fs) (fun y => []) [_, _, _] (fun y => []) [_] (fun y => True) ⟨rfl, rfl, rfl, rfl, trivial⟩ [0, 1, 2] rfl [0] rfl ?_ ?_
 ·rintro _ _
  refine .prune [(33, .bool (decide ((u30.2.2 ≠ 0) ∨ ((u30.1.length : Int) ≠ 3)))), (1, _), (2, _), (3, _), (4, _)] ⟨rfl, rfl, rfl, rfl, rfl, trivial⟩ ?_;refine .same (bl' := [_, _, _]) (sl' := [_]) (Fs' := G34 :: Fs) rfl rfl rfl ?_;refine .re ?_
  refine .cond_dec rfl (fun c49 => ?_) (fun c49 => ?_)
  ·have r50 := ifT r31 c49; clear r31
   refine .seq ?_;refine .region rfl ?_;refine .av rfl rfl ?_;refine .re ?_
   cases r50
   refine .drop 3 0 [] _ rfl rfl ?_;refine .drop 0 1 _ [] rfl rfl ?_
   refine .retS (c := ⟨7, none⟩) (.inr ⟨_, rfl⟩) [.tmp 0] [_] rfl Tryz.func7 Tryz.results7 ⟨RV.tmp rfl, trivial⟩ mcm ⟨rfl, rfl, rfl⟩
  ·have r51 := ifF r31 c49; clear r31
   refine .skip ?_;refine .seq ?_
   refine .freezeR 0 rfl rfl (OL.mono (HpLe.trans e26 e35) o20) [] rfl B36 (fun G57 e58 B59 s60 => ?_)
   refine .drawL (.q 0 (.q 1 (.q 2 (.q 3 (.q 4 (.e 5 1 (.q 6 (.q 7 (.q 8 (.q 9 (.q 10 .nil))))))))))) [_, _, _] (by kernel_rfl) (by kernel_rfl) (pick_mem [0, 1, 2] rfl) ?_;refine .dq (.load_own_a 2 [_] rfl rfl ty45 rfl) rfl ?_;refine .dq (.move rfl) rfl ?_;refine .dq (.move rfl) rfl ?_
   obtain ⟨u62, hu62, r63⟩ := bind_some r51; clear r51
   obtain ⟨c64, p65, h66⟩ := SlR.get (SlR.mono e58 s40) hu62
   obtain ⟨a67, k68, rfl, s69⟩ := h66
   refine .dq (.idxR (SlR.mono e58 s40) rfl rfl hu62 sl51 ty22.sz) rfl ?_;refine .dq (.load_rp p65 List.mem_cons_self rfl ty22 rfl) rfl ?_
   obtain ⟨u70, hu70, r71⟩ := bind_some r63; clear r63
   refine .callS (b1 := []) (b2 := [_, _, _]) (s1 := []) [_, _, _, _] [] .d1 rfl rfl Tryz.call23 rfl rfl (parity_Answer_c (G := G57) List.mem_cons_self s60 s69 hu70) rfl (fun v73 bo so h72 => ?_)
   obtain ⟨a75, k76, cs77, rfl, rfl, rfl, o78⟩ := h72
   refine .same (bl' := [_, _, _]) (sl' := [_]) rfl rfl rfl ?_;refine .clsL (HpLe.refl _) (pick_mem [0, 1, 2] rfl) ?_;refine .dq (.move rfl) rfl ?_;refine .dq (.extract rfl rfl) rfl ?_;refine .dq (.extract rfl rfl) rfl ?_;refine .dq (.assign rfl) rfl ?_;refine .dq (.assign rfl) rfl ?_;refine .draw_end ?_;refine .seq ?_
   refine .drawL (.q 0 (.q 1 (.q 2 (.q 3 (.q 4 (.e 5 1 (.q 6 (.q 7 (.q 8 (.q 9 (.q 10 .nil))))))))))) [_, _, _] (by kernel_rfl) (by kernel_rfl) (pick_mem [0, 1, 2] rfl) ?_;refine .dq (.load_own_a 2 [_] rfl rfl ty45 rfl) rfl ?_;refine .dq (.move rfl) rfl ?_;refine .dq (.move rfl) rfl ?_
   obtain ⟨u79, hu79, r80⟩ := bind_some r71; clear r71
   obtain ⟨c81, p82, h83⟩ := SlR.get (SlR.mono e58 s40) hu79
   obtain ⟨a84, k85, rfl, s86⟩ := h83
   refine .dq (.idxR (SlR.mono e58 s40) rfl rfl hu79 sl51 ty22.sz) rfl ?_;refine .dq (.load_rp p82 List.mem_cons_self rfl ty22 rfl) rfl ?_
   obtain ⟨u87, hu87, r88⟩ := bind_some r80; clear r80
   refine .callS (b1 := []) (b2 := [_, _, _]) (s1 := []) [_, _, _, _] [] .d1 rfl rfl Tryz.call23 rfl rfl (parity_Answer_c (G := G57) List.mem_cons_self s60 s86 hu87) rfl (fun v90 bo so h89 => ?_)
   obtain ⟨a92, k93, cs94, rfl, rfl, rfl, o95⟩ := h89
   refine .same (bl' := [_, _, _]) (sl' := [_, _]) rfl rfl rfl ?_;refine .clsL (HpLe.refl _) (pick_mem [0, 1, 2] rfl) ?_;refine .dq (.move rfl) rfl ?_;refine .dq (.extract rfl rfl) rfl ?_;refine .dq (.extract rfl rfl) rfl ?_;refine .dq (.assign rfl) rfl ?_;refine .dq (.assign rfl) rfl ?_;refine .draw_end ?_;refine .prune [(1, _), (2, _), (7, _), (8, _), (9, _), (10, _)] ⟨rfl, rfl, rfl, rfl, rfl, rfl, trivial⟩ ?_
   refine .seq ?_;refine .region rfl ?_;refine .q .ro (.load_own_a 2 [_] rfl rfl ty45 rfl) rfl ?_;refine .q .ro (.load_own_a 1 [_, _] rfl rfl ty69 rfl) rfl ?_;refine .mv rfl rfl ?_;refine .q .ro (.build [_, _] [(0, _), (1, _)] ty63 pl63 rfl rfl) rfl ?_;refine .q .ro (.build [_, _] [] ty63 pl63 rfl rfl) rfl ?_;refine .mv rfl rfl ?_;refine .q .ro (.build [_, _] [(0, _), (1, _)] ty63 pl63 rfl rfl) rfl ?_
   refine .freezeR 1 rfl rfl o78 [_] rfl B59 (fun G96 e97 B98 s99 => ?_)
   refine .freezeR 0 rfl rfl (OL.mono e97 o95) [] rfl B98 (fun G13 e18 B21 s24 => ?_)
   refine .lit [_, _, _, _, _, _] [(0, _), (1, _), (2, _)] .ro sl60 ty63 rfl rfl rfl rfl rfl rfl (fun b29 hb29 => ?_)
   have o37 : OL (Rep.pair Rep.bool (Rep.sl (Rep.int .i64))) G13 [.bool true, .slice a75 u70.1.length k76, .bool false, .slice none 0 0, .bool true, .slice a92 u87.1.length k93] ([(true, u70.1), (false, ([] : List Int)), (true, u87.1)] : List (Bool × (List Int))) := ((OL.cons rfl (Rep.pairI (Rep.boolI true) (Rep.slI (SlR.mono e18 s99))) (OL.cons rfl (Rep.pairI (Rep.boolI false) (Rep.slI (SlR.nil (Rp' := (Rep.int .i64))))) (OL.cons rfl (Rep.pairI (Rep.boolI true) (Rep.slI s24)) (OL.nil (Rp' := (Rep.pair Rep.bool (Rep.sl (Rep.int .i64)))))))) :)
   refine .reval 60 (n' := ([(true, u70.1), (false, ([] : List Int)), (true, u87.1)] : List (Bool × (List Int))).length) rfl rfl ?_
   refine .freezeR 0 rfl rfl o37 [] rfl B21 (fun G47 e48 B52 s53 => ?_)
   obtain ⟨u54, hu54, r55⟩ := bind_some r88; clear r88
   refine .callW (b1 := []) (b2 := [_, _, _]) (s1 := []) [_, _, _, _] [] .ro rfl rfl Tryz.call50 rfl rfl (curve_Decode_c (G := G47) List.mem_cons_self (Rp.mono (HpLe.trans (HpLe.trans (HpLe.trans (HpLe.trans (HpLe.trans (HpLe.trans (HpLe.trans e10 e15) e26) e35) e58) e97) e18) e48) hg0) s53 hu54) rfl B52 (fun v61 bo so G74 e91 B100 h101 => ?_)
   obtain ⟨a102, k103, a104, k105, rfl, rfl, rfl, s106, s107⟩ := h101
   refine .same (bl' := [_, _, _]) (sl' := []) rfl rfl rfl ?_;refine .mv rfl rfl ?_;refine .q .ro (.extract rfl rfl) rfl ?_;refine .q .ro (.extract rfl rfl) rfl ?_
   refine .alloc .ro ty65 rfl (fun b108 hb108 => ?_)
   refine .store 0 [_, _] [_, _, _, _] .ro rfl rfl rfl ty65 rfl rfl rfl rfl ?_;refine .av rfl rfl ?_;refine .re ?_;refine .prune [(8, _), (10, _), (11, _), (12, _)] ⟨rfl, rfl, rfl, rfl, trivial⟩ ?_;refine .seq ?_;refine .region rfl ?_;refine .mv rfl rfl ?_;refine .q .ro (.eql rfl rfl) rfl ?_;refine .mv rfl rfl ?_
   refine .cutR 3 (β := Unit) (fun y => [(69, .bool (decide ((u70.2 = 0) ∧ (u87.2 = 0))))]) [(11, _), (12, _)] (fun y => G74 :: Fs) (fun y => []) [_, _, _, _] (fun y => []) [] (fun y => True) ⟨rfl, rfl, trivial⟩ [0, 1, 2, 3] rfl [] rfl ?_ ?_
   ·rintro _ _
    refine .prune [(69, .bool (decide ((u70.2 = 0) ∧ (u87.2 = 0)))), (11, _), (12, _)] ⟨rfl, rfl, rfl, trivial⟩ ?_;refine .same (bl' := [_, _, _, _]) (sl' := []) (Fs' := G74 :: Fs) rfl rfl rfl ?_;refine .mv rfl rfl ?_;refine .cutR 3 (β := Unit) (fun y => [(73, .bool (decide (((u70.2 = 0) ∧ (u87.2 = 0)) ∧ (u54.2 = 0))))]) [(11, _)] (fun y => G74 :: Fs) (fun y => []) [_, _, _, _] (fun y => []) [] (fun y => True) ⟨rfl, trivial⟩ [0, 1, 2, 3] rfl [] rfl ?_ ?_
    ·rintro _ _
     refine .prune [(73, .bool (decide (((u70.2 = 0) ∧ (u87.2 = 0)) ∧ (u54.2 = 0)))), (11, _)] ⟨rfl, rfl, trivial⟩ ?_;refine .same (bl' := [_, _, _, _]) (sl' := []) (Fs' := G74 :: Fs) rfl rfl rfl ?_;refine .mv rfl rfl ?_
     obtain ⟨u109, h110, r111⟩ := bind_some r55; clear r55
     refine .cutR 5 (β := Hp) (fun y => [(79, .bool u109)]) [] (fun y => y :: Fs) (fun y => []) [_, _, _, _] (fun y => []) [] (fun y => HpLe G74 y ∧ Bd w0 S0 Fs y) trivial [0, 1, 2, 3] rfl [] rfl ?_ ?_
     ·rintro G112 ⟨e113, B114⟩
      refine .prune [(79, .bool u109)] ⟨rfl, trivial⟩ ?_;refine .same (bl' := [_, _, _, _]) (sl' := []) (Fs' := G112 :: Fs) rfl rfl rfl ?_;refine .av rfl rfl ?_;refine .re ?_
      cases r111
      refine .drop 4 0 [] _ rfl rfl ?_
      refine .retS (c := ⟨7, none⟩) (.inr ⟨_, rfl⟩) [.tmp 0] [_] rfl Tryz.func7 Tryz.results7 ⟨RV.tmp rfl, trivial⟩ mcm ⟨rfl, rfl, rfl⟩
     ·intro hb115
      refine .split 74 rfl (fun c116 => ?_) (fun c116 => ?_)
      ·have r117 := ifT h110 c116
       refine .g_on rfl ?_;refine .q .ro (.fieldAddr 0 rfl fl65_0 ty22.sz rfl) rfl ?_;refine .g_on rfl ?_;refine .q .ro (.load_own 0 rfl rfl ty22 rfl) rfl ?_;refine .g_on rfl ?_
       refine .lit [_, _] [(0, _), (1, _)] .ro sl22 ty3 rfl rfl rfl rfl rfl rfl (fun b118 hb118 => ?_)
       have o119 : OL (Rep.int .i64) G74 [.int .i64 3, .int .i64 4] ([3, 4] : List Int) := ((OL.cons rfl (Rep.intI .i64 3) (OL.cons rfl (Rep.intI .i64 4) (OL.nil (Rp' := (Rep.int .i64))))) :)
       refine .reval 77 (n' := ([3, 4] : List Int).length) rfl rfl ?_;refine .g_on rfl ?_
       refine .freezeR 0 rfl rfl o119 [] rfl B100 (fun G120 e121 B122 s123 => ?_)
       obtain ⟨u124, hu124, r125⟩ := bind_some r117; clear r117
       refine .callS (b1 := []) (b2 := [_, _, _, _]) (s1 := []) [_, _] [] .ro rfl rfl Tryz.call31 rfl rfl (ref04_Same_c (G := G120) List.mem_cons_self (SlR.mono e121 s106) s123 hu124) rfl (fun v126 bo so h127 => ?_)
       obtain ⟨rfl, rfl, rfl⟩ := h127
       refine .same (bl' := [_, _, _, _]) (sl' := []) rfl rfl rfl ?_;refine .q .ro (.pick_t rfl rfl) rfl ?_
       refine .prune _ ?_ (Cov.same rfl rfl rfl (hb115 G120 ⟨e121, B122⟩))
       exact ⟨sval r125, trivial⟩
      ·have r128 := ifF h110 c116
       refine .g_off rfl rfl rfl ?_;refine .g_off rfl rfl rfl ?_;refine .g_off rfl rfl rfl ?_;refine .g_off rfl rfl rfl ?_;refine .q .ro (.pick_f rfl rfl) rfl ?_
       refine .prune _ ?_ (Cov.same rfl rfl rfl (hb115 G74 ⟨(HpLe.refl _), B100⟩))
       exact ⟨sval r128, trivial⟩
    ·intro hb129
     refine .split 70 rfl (fun c130 => ?_) (fun c130 => ?_)
     ·refine .g_on rfl ?_
      refine .mv rfl rfl ?_;refine .g_on rfl ?_;refine .q .ro (.eql rfl rfl) rfl ?_;refine .q .ro (.pick_t rfl rfl) rfl ?_
      refine .prune _ ?_ (Cov.same rfl rfl rfl (hb129 () trivial))
      exact ⟨dand_t c130, rfl, trivial⟩
     ·refine .g_off rfl rfl rfl ?_
      refine .g_off rfl rfl rfl ?_;refine .q .ro (.pick_f rfl rfl) rfl ?_
      refine .prune _ ?_ (Cov.same rfl rfl rfl (hb129 () trivial))
      exact ⟨dand_f c130, rfl, trivial⟩
   ·intro hb131
    refine .split 66 rfl (fun c132 => ?_) (fun c132 => ?_)
    ·refine .g_on rfl ?_
     refine .mv rfl rfl ?_;refine .g_on rfl ?_;refine .q .ro (.eql rfl rfl) rfl ?_;refine .q .ro (.pick_t rfl rfl) rfl ?_
     refine .prune _ ?_ (Cov.same rfl rfl rfl (hb131 () trivial))
     exact ⟨dand_t c132, rfl, rfl, trivial⟩
    ·refine .g_off rfl rfl rfl ?_
     refine .g_off rfl rfl rfl ?_;refine .q .ro (.pick_f rfl rfl) rfl ?_
     refine .prune _ ?_ (Cov.same rfl rfl rfl (hb131 () trivial))
     exact ⟨dand_f c132, rfl, rfl, trivial⟩
 ·intro hb46
  refine .split 29 rfl (fun c45 => ?_) (fun c45 => ?_)
  ·refine .g_off rfl rfl rfl ?_
   refine .g_off rfl rfl rfl ?_;refine .g_off rfl rfl rfl ?_;refine .q .ro (.pick_t rfl rfl) rfl ?_
   refine .prune _ ?_ (Cov.same rfl rfl rfl (hb46 () trivial))
   exact ⟨dor_t c45, rfl, rfl, rfl, rfl, trivial⟩
  ·refine .g_on rfl ?_
   refine .mv rfl rfl ?_;refine .g_on rfl ?_;refine .q .ro (.len_sl rfl rfl sl51) rfl ?_;refine .g_on rfl ?_;refine .q .ro (.neq rfl rfl) rfl ?_;refine .q .ro (.pick_f rfl rfl) rfl ?_
   refine .prune _ ?_ (Cov.same rfl rfl rfl (hb46 () trivial))
   exact ⟨dor_f c45, rfl, rfl, rfl, rfl, trivial⟩
theorem make_Few_c {Fs : List Hp} {G : Hp} {a0 : Option Addr} {k0 : Nat} {x0 : List Int} {r : Bool} (hG : G ∈ Fs) (s0 : SlR (Rep.int .i64) G a0 k0 x0) (h : make_Few x0 = some r) : RetS Tryz.prog 8 #[.slice a0 x0.length k0] Fs [] [] (fun v bo so => v = .bool r ∧ bo = [] ∧ so = []) := by
 unfold make_Few at h
 try dsimp only at h
 refine RetS.of (vs := [_]) Tryz.func8 rfl Tryz.ntmps8 [(0, _)] ⟨rfl, trivial⟩ rfl hG fun w0 S0 hS0 B0 => ?_
 refine .seq ?_;refine .region rfl ?_;refine .av rfl rfl ?_;refine .re ?_;refine .seq ?_;refine .region rfl ?_;refine .mv rfl rfl ?_;refine .q .ro (.len_sl rfl rfl sl22) rfl ?_;refine .q .ro (.leq rfl rfl) rfl ?_
 refine .av rfl rfl ?_;refine .re ?_
 cases h
 refine .retS (c := ⟨8, none⟩) (.inr ⟨_, rfl⟩) [.tmp 2] [_] rfl Tryz.func8 Tryz.results8 ⟨RV.tmp rfl, trivial⟩ mcm ⟨rfl, rfl, rfl⟩
theorem make_New_c {Fs : List Hp} {G : Hp} {a0 : Option Addr} {k0 : Nat} {x0 : List Int} {r : ((List Int) × Int)} (hG : G ∈ Fs) (s0 : SlR (Rep.int .i64) G a0 k0 x0) (h : make_New x0 = some r) : RetS Tryz.prog 9 #[.slice a0 x0.length k0] Fs [] [] (fun v bo so => ∃ a0 : Option Addr, ∃ k0 : Nat, ∃ b0 : Nat, v = .pointer (some ⟨b0, 0, none⟩) ∧ bo = [(b0, .cells #[.slice a0 r.1.length k0, .int .i64 r.2] 121 (0, 0))] ∧ so = [] ∧ SlR (Rep.int .i64) G a0 k0 r.1) := by
 unfold make_New at h
 try dsimp only at h
 refine RetS.of (vs := [_]) Tryz.func9 rfl Tryz.ntmps9 [(0, _)] ⟨rfl, trivial⟩ rfl hG fun w0 S0 hS0 B0 => ?_
 refine .seq ?_;refine .region rfl ?_;refine .av rfl rfl ?_;refine .re ?_;refine .seq ?_;refine .region rfl ?_;refine .mv rfl rfl ?_;refine .q .ro (.build [_, _] [(0, _)] ty121 pl121 rfl rfl) rfl ?_
 refine .box [_, _] .ro rfl rfl rfl (fun b1 hb1 => ?_)
 refine .av rfl rfl ?_;refine .re ?_
 cases h
 refine .retS (c := ⟨9, none⟩) (.inr ⟨_, rfl⟩) [.tmp 2] [_] rfl Tryz.func9 Tryz.results9 ⟨RV.tmp rfl, trivial⟩ mcm ⟨a0, k0, _, rfl, rfl, rfl, s0⟩
theorem make_Mod_c {Fs : List Hp} {G : Hp} {x0 : Int} {x1 : Int} {r : Int} (hG : G ∈ Fs)  (h : make_Mod x0 x1 = some r) : RetS Tryz.prog 62 #[.int .i64 x0, .int .i64 x1] Fs [] [] (fun v bo so => v = .int .i64 r ∧ bo = [] ∧ so = []) := by
 unfold make_Mod at h
 try dsimp only at h
 refine RetS.of (vs := [_, _]) Tryz.func62 rfl Tryz.ntmps62 [(0, _), (1, _)] ⟨rfl, rfl, trivial⟩ rfl hG fun w0 S0 hS0 B0 => ?_
 refine .seq ?_;refine .region rfl ?_;refine .av rfl rfl ?_;refine .re ?_;refine .seq ?_;refine .region rfl ?_;refine .mv rfl rfl ?_;refine .mv rfl rfl ?_
 obtain ⟨u1, hu1, r2⟩ := bind_some h; clear h
 refine .q .ro (.remt rfl rfl (nz_some hu1)) rfl ?_;refine .mv rfl rfl ?_;refine .q .ro (.addw rfl rfl) rfl ?_;refine .mv rfl rfl ?_
 obtain ⟨u3, hu3, r4⟩ := bind_some r2; clear r2
 refine .q .ro (.remt rfl rfl (nz_some hu3)) rfl ?_;refine .av rfl rfl ?_;refine .re ?_
 cases r4
 refine .retS (c := ⟨62, none⟩) (.inr ⟨_, rfl⟩) [.tmp 4] [_] rfl Tryz.func62 Tryz.results62 ⟨RV.tmp rfl, trivial⟩ mcm ⟨rfl, rfl, rfl⟩
theorem make_Deck_Next_c {Fs : List Hp} {G : Hp} {p0 : Nat} {a0_0 : Option Addr} {k0_0 : Nat} {x0_0 : List Int} {x0_1 : Int} {x1 : Int} {r : (Int × ((List Int) × Int))} (hG : G ∈ Fs) (s0_0 : SlR (Rep.int .i64) G a0_0 k0_0 x0_0) (h : make_Deck_Next (x0_0, x0_1) x1 = some r) : RetS Tryz.prog 18 #[.pointer (some ⟨p0, 0, none⟩), .int .i64 x1] Fs [(p0, .cells #[.slice a0_0 x0_0.length k0_0, .int .i64 x0_1] 121 (0, 0))] [] (fun v bo so => ∃ a0 : Option Addr, ∃ k0 : Nat, v = .int .i64 r.1 ∧ bo = [(p0, .cells #[.slice a0 r.2.1.length k0, .int .i64 r.2.2] 121 (0, 0))] ∧ so = [] ∧ SlR (Rep.int .i64) G a0 k0 r.2.1) := by
 unfold make_Deck_Next at h
 try dsimp only at h
 refine RetS.of (vs := [_, _]) Tryz.func18 rfl Tryz.ntmps18 [(0, _), (1, _)] ⟨rfl, rfl, trivial⟩ rfl hG fun w0 S0 hS0 B0 => ?_
 refine .seq ?_;refine .region rfl ?_;refine .av rfl rfl ?_;refine .re ?_;refine .seq ?_;refine .seq ?_;refine .drawL (.q 0 (.q 1 (.q 2 (.q 3 (.q 4 (.q 5 (.q 6 (.q 7 (.q 8 (.q 9 (.q 10 (.q 11 (.q 12 (.q 13 .nil)))))))))))))) [_] (by kernel_rfl) (by kernel_rfl) (pick_mem [0] rfl) ?_;refine .dq (.move rfl) rfl ?_;refine .dq (.lss rfl rfl) rfl ?_
 refine .dq (.move rfl) rfl ?_;refine .cutD 11 (β := Unit) (fun y => [(19, .bool (decide ((x1 < 1) ∨ ((x0_0.length : Int) ≤ x0_1))))]) [(0, _), (1, _)] (fun y => G :: Fs) (fun y => []) [_] (fun y => []) [] (fun y => True) ⟨rfl, rfl, trivial⟩ [0] rfl [] rfl ?_ ?_
 ·rintro _ _
  refine .prune [(19, .bool (decide ((x1 < 1) ∨ ((x0_0.length : Int) ≤ x0_1)))), (0, _), (1, _)] ⟨rfl, rfl, rfl, trivial⟩ ?_;refine .same (bl' := [_]) (sl' := []) (Fs' := G :: Fs) rfl rfl rfl ?_;refine .draw_end ?_
  refine .cond_dec rfl (fun c5 => ?_) (fun c5 => ?_)
  ·have r6 := ifT h c5; clear h
   refine .seq ?_;refine .region rfl ?_;refine .av rfl rfl ?_;refine .re ?_
   cases r6
   refine .retS (c := ⟨18, none⟩) (.inr ⟨_, rfl⟩) [.tmp 4] [_] rfl Tryz.func18 Tryz.results18 ⟨RV.tmp rfl, trivial⟩ mcm ⟨a0_0, k0_0, rfl, rfl, rfl, s0_0⟩
  ·have r7 := ifF h c5; clear h
   refine .skip ?_;refine .seq ?_;refine .drawL (.q 0 (.q 1 (.q 2 (.q 3 (.q 4 (.q 5 (.q 6 (.q 7 (.q 8 (.q 9 (.q 10 .nil))))))))))) [_] (by kernel_rfl) (by kernel_rfl) (pick_mem [0] rfl) ?_;refine .dq (.move rfl) rfl ?_;refine .dq (.nilCheck rfl rfl) rfl ?_;refine .dq (.fieldAddr 0 rfl fl121_0 ty22.sz rfl) rfl ?_;refine .dq (.load_own 0 rfl rfl ty22 rfl) rfl ?_;refine .dq (.move rfl) rfl ?_;refine .dq (.nilCheck rfl rfl) rfl ?_
   refine .dq (.fieldAddr 1 rfl fl121_1 ty3.sz rfl) rfl ?_;refine .dq (.load_own 0 rfl rfl ty3 rfl) rfl ?_
   obtain ⟨u8, hu8, r9⟩ := bind_some r7; clear r7
   obtain ⟨c10, p11, h12⟩ := SlR.get s0_0 hu8
   obtain rfl := h12
   refine .dq (.idxR s0_0 rfl rfl hu8 sl22 ty3.sz) rfl ?_;refine .dq (.load_rp p11 List.mem_cons_self rfl ty3 rfl) rfl ?_;refine .dq (.assign rfl) rfl ?_;refine .draw_end ?_;refine .seq ?_;refine .region rfl ?_;refine .mv rfl rfl ?_;refine .q .ro (.nilCheck rfl rfl) rfl ?_;refine .q .ro (.fieldAddr 1 rfl fl121_1 ty3.sz rfl) rfl ?_
   refine .q .ro (.load_own 0 rfl rfl ty3 rfl) rfl ?_;refine .q .ro (.addw rfl rfl) rfl ?_;refine .q .ro (.nilCheck rfl rfl) rfl ?_;refine .q .ro (.fieldAddr 1 rfl fl121_1 ty3.sz rfl) rfl ?_;refine .store 0 [_, _] [_] .ro rfl rfl rfl ty3 rfl rfl rfl rfl ?_;refine .re ?_;refine .prune [(1, _), (5, _)] ⟨rfl, rfl, trivial⟩ ?_;refine .seq ?_;refine .region rfl ?_
   refine .mv rfl rfl ?_;refine .mv rfl rfl ?_
   obtain ⟨u13, hu13, r14⟩ := bind_some r9; clear r9
   refine .callS (b1 := []) (b2 := [_]) (s1 := []) [_, _] [] .ro rfl rfl Tryz.call62 rfl rfl (make_Mod_c (G := G) List.mem_cons_self  hu13) rfl (fun v16 bo so h15 => ?_)
   obtain ⟨rfl, rfl, rfl⟩ := h15
   refine .same (bl' := [_]) (sl' := []) rfl rfl rfl ?_;refine .av rfl rfl ?_;refine .re ?_
   cases r14
   refine .retS (c := ⟨18, none⟩) (.inr ⟨_, rfl⟩) [.tmp 4] [_] rfl Tryz.func18 Tryz.results18 ⟨RV.tmp rfl, trivial⟩ mcm ⟨a0_0, k0_0, rfl, rfl, rfl, s0_0⟩
 ·intro hb2
  refine .split 8 rfl (fun c1 => ?_) (fun c1 => ?_)
  ·refine .dgq_off rfl rfl rfl ?_
   refine .dgq_off rfl rfl rfl ?_;refine .dgq_off rfl rfl rfl ?_;refine .dgq_off rfl rfl rfl ?_;refine .dgq_off rfl rfl rfl ?_;refine .dgq_off rfl rfl rfl ?_;refine .dgq_off rfl rfl rfl ?_;refine .dgq_off rfl rfl rfl ?_;refine .dgq_off rfl rfl rfl ?_;refine .dgq_off rfl rfl rfl ?_
   refine .dq (.pick_t rfl rfl) rfl ?_
   refine .prune _ ?_ (Cov.same rfl rfl rfl (hb2 () trivial))
   exact ⟨dor_t c1, rfl, rfl, trivial⟩
  ·refine .dgq_on rfl ?_
   refine .dq (.move rfl) rfl ?_;refine .dgq_on rfl ?_;refine .dq (.nilCheck rfl rfl) rfl ?_;refine .dgq_on rfl ?_;refine .dq (.fieldAddr 1 rfl fl121_1 ty3.sz rfl) rfl ?_;refine .dgq_on rfl ?_;refine .dq (.load_own 0 rfl rfl ty3 rfl) rfl ?_;refine .dgq_on rfl ?_;refine .dq (.move rfl) rfl ?_
   refine .dgq_on rfl ?_;refine .dq (.nilCheck rfl rfl) rfl ?_;refine .dgq_on rfl ?_;refine .dq (.fieldAddr 0 rfl fl121_0 ty22.sz rfl) rfl ?_;refine .dgq_on rfl ?_;refine .dq (.load_own 0 rfl rfl ty22 rfl) rfl ?_;refine .dgq_on rfl ?_;refine .dq (.len_sl rfl rfl sl22) rfl ?_;refine .dgq_on rfl ?_
   refine .dq (.geq rfl rfl) rfl ?_;refine .dq (.pick_f rfl rfl) rfl ?_
   refine .prune _ ?_ (Cov.same rfl rfl rfl (hb2 () trivial))
   exact ⟨dor_f c1, rfl, rfl, trivial⟩
theorem make_Word_c {Fs : List Hp} {G : Hp} {p0 : Nat} {a0_0 : Option Addr} {k0_0 : Nat} {x0_0 : List Int} {x0_1 : Int} {r : (ByteArray × ((List Int) × Int))} (hG : G ∈ Fs) (s0_0 : SlR (Rep.int .i64) G a0_0 k0_0 x0_0) (h : make_Word (x0_0, x0_1) = some r) : RetW Tryz.prog 11 #[.pointer (some ⟨p0, 0, none⟩)] Fs [(p0, .cells #[.slice a0_0 x0_0.length k0_0, .int .i64 x0_1] 121 (0, 0))] [] (fun v bo so G => ∃ a0 : Option Addr, ∃ k0 : Nat, v = .string r.1 ∧ bo = [(p0, .cells #[.slice a0 r.2.1.length k0, .int .i64 r.2.2] 121 (0, 0))] ∧ so = [] ∧ SlR (Rep.int .i64) G a0 k0 r.2.1) := by
 unfold make_Word at h
 try dsimp only at h
 refine RetW.of (vs := [_]) Tryz.func11 rfl Tryz.ntmps11 [(0, _)] ⟨rfl, trivial⟩ rfl hG fun w0 S0 hS0 B0 => ?_
 refine .seq ?_;refine .region rfl ?_;refine .av rfl rfl ?_;refine .re ?_;refine .seq ?_;refine .region rfl ?_;refine .av rfl rfl ?_;refine .re ?_;refine .seq ?_
 refine .seq ?_;refine .region rfl ?_;refine .mv rfl rfl ?_
 obtain ⟨u1, hu1, r2⟩ := bind_some h; clear h
 refine .callS (b1 := [_]) (b2 := []) (s1 := []) [_, _] [] .ro rfl rfl Tryz.call18 rfl rfl (make_Deck_Next_c (G := G) List.mem_cons_self s0_0 hu1) rfl (fun v4 bo so h3 => ?_)
 obtain ⟨a5, k6, rfl, rfl, rfl, s7⟩ := h3
 refine .same (bl' := [_]) (sl' := []) rfl rfl rfl ?_;refine .av rfl rfl ?_;refine .re ?_;refine .cutB (β := List Int × Option Addr × Nat × List Value × List Int × Option Addr × Nat × Int) (fun y => [(3, .slice y.2.1 y.1.length y.2.2.1)]) [] (fun y => G :: Fs) (fun y => [(p0, .cells #[.slice y.2.2.2.2.2.1 y.2.2.2.2.1.length y.2.2.2.2.2.2.1, .int .i64 y.2.2.2.2.2.2.2] 121 (0, 0))]) [] (fun y => [.s (.slice y.2.1 y.1.length y.2.2.1) 5 1 y.1.length y.2.2.2.1]) [] (fun y => OL (Rep.int .u8) G y.2.2.2.1 y.1 ∧ SlR (Rep.int .i64) G y.2.2.2.2.2.1 y.2.2.2.2.2.2.1 y.2.2.2.2.1 ∧ make_Word_J1 y.1 y.2.2.2.2.1 y.2.2.2.2.2.2.2 = some r) trivial [] rfl [] rfl ?_ ?_
 ·intro y hI
  obtain ⟨v97, a98, k99, cs10, v12, a13, k14, v15⟩ := y
  obtain ⟨o16, s17, r19⟩ := hI
  try dsimp only at o16 s17 r19
  refine .prune [(3, .slice a98 v97.length k99)] ⟨rfl, trivial⟩ ?_;refine .same (bl' := [(p0, .cells #[.slice a13 v12.length k14, .int .i64 v15] 121 (0, 0))]) (sl' := [.s (.slice a98 v97.length k99) 5 1 v97.length cs10]) (Fs' := G :: Fs) rfl rfl rfl ?_
  unfold make_Word_J1 at r19
  try dsimp only at r19
  refine .seq ?_;refine .region rfl ?_;refine .mv rfl rfl ?_
  refine .freezeR 0 rfl rfl o16 [] rfl B0 (fun G20 e21 B22 s23 => ?_)
  refine .q .ro (.b2s s23 List.mem_cons_self rfl Tryz.underlying123 Tryz.underlying5 Tryz.underlying9) rfl ?_;refine .av rfl rfl ?_;refine .re ?_
  cases r19
  refine .retW (c := ⟨11, none⟩) (.inr ⟨_, rfl⟩) [.tmp 2] [_] rfl Tryz.func11 Tryz.results11 ⟨RV.tmp rfl, trivial⟩ mcm List.mem_cons_self B22 (by subst hS0; simp [blks]) (fun G' hg => ⟨a13, k14, rfl, rfl, rfl, (SlR.mono hg (SlR.mono e21 s17))⟩)
 ·intro hb24
  refine .block ?_;refine .own_nil 5 1 ?_
  refine .loop2 (α := Nat × List Int × Option Addr × Nat × List Value × Int × List Int × Option Addr × Nat × Int) (fun y => [(3, .slice y.2.2.1 y.2.1.length y.2.2.2.1), (4, .int .i64 y.2.2.2.2.2.1)]) [(0, _)] (fun y => []) (fun y => [(p0, .cells #[.slice y.2.2.2.2.2.2.2.1 y.2.2.2.2.2.2.1.length y.2.2.2.2.2.2.2.2.1, .int .i64 y.2.2.2.2.2.2.2.2.2] 121 (0, 0))]) [] (fun y => [.s (.slice y.2.2.1 y.2.1.length y.2.2.2.1) 5 1 y.2.1.length y.2.2.2.2.1]) [] (fun y => OL (Rep.int .u8) G y.2.2.2.2.1 y.2.1 ∧ SlR (Rep.int .i64) G y.2.2.2.2.2.2.2.1 y.2.2.2.2.2.2.2.2.1 y.2.2.2.2.2.2.1 ∧ make_Word_L2 make_Word_J1 y.1 y.2.1 y.2.2.2.2.2.1 y.2.2.2.2.2.2.1 y.2.2.2.2.2.2.2.2.2 = some r) (fun y => y.1) (big, ([] : List Int), none, 0, [], u1.1, u1.2.1, a5, k6, u1.2.2) ⟨(OL.nil (Rp' := (Rep.int .u8))), s7, r2⟩ ⟨rfl, rfl, rfl, trivial⟩ rfl rfl rfl (fun y hI hb25 => ?_)
  obtain ⟨n26, v27, a28, k29, cs30, v31, v32, a33, k34, v35⟩ := y
  obtain ⟨o36, s37, r38⟩ := hI
  try dsimp only at o36 s37 r38
  refine .prune [(3, .slice a28 v27.length k29), (4, .int .i64 v31), (0, _)] ⟨rfl, rfl, rfl, trivial⟩ ?_;refine .same (bl' := [(p0, .cells #[.slice a33 v32.length k34, .int .i64 v35] 121 (0, 0))]) (sl' := [.s (.slice a28 v27.length k29) 5 1 v27.length cs30]) (Fs' := G :: Fs) rfl rfl rfl ?_
  obtain ⟨m39, rfl⟩ : ∃ m, n26 = m + 1 := by cases n26 with | zero => exact absurd (show (none : Option _) = some _ from r38) (by simp) | succ m => exact ⟨m, rfl⟩
  have r40 : make_Word_B2 make_Word_J1 (make_Word_L2 make_Word_J1 m39) v27 v31 v32 v35 = some r := r38; clear r38; unfold make_Word_B2 at r40; try dsimp only at r40
  refine .seq ?_;refine .seq ?_;refine .region rfl ?_;refine .mv rfl rfl ?_;refine .q .ro (.geq rfl rfl) rfl ?_;refine .re ?_
  refine .cond_dec rfl (fun c41 => ?_) (fun c41 => ?_)
  ·have r42 := ifT r40 c41; clear r40
   refine .skip ?_;refine .seq ?_;refine .block ?_;refine .region rfl ?_;refine .mv rfl rfl ?_;refine .mv rfl rfl ?_
   obtain ⟨u43, hu43, r44⟩ := bind_some r42; clear r42
   refine .callS (b1 := [_]) (b2 := []) (s1 := []) [_, _] [] .ro rfl rfl Tryz.call18 rfl rfl (make_Deck_Next_c (G := G) List.mem_cons_self s37 hu43) rfl (fun v45 bo so h46 => ?_)
   obtain ⟨a47, k48, rfl, rfl, rfl, s49⟩ := h46
   refine .same (bl' := [_]) (sl' := [_]) rfl rfl rfl ?_;refine .q .ro (.addw rfl rfl) rfl ?_;refine .q .ro (.convw Tryz.underlying3 Tryz.underlying5 rfl) rfl ?_
   refine .lit [_] [(0, _)] .ro sl123 ty5 rfl rfl rfl rfl rfl rfl (fun b50 hb50 => ?_)
   have o51 : OL (Rep.int .u8) G [.int .u8 (wu8 (w64 (97 + u43.1)))] ([(wu8 (w64 (97 + u43.1)))] : List Int) := ((OL.cons rfl (Rep.intI .u8 (wu8 (w64 (97 + u43.1)))) (OL.nil (Rp' := (Rep.int .u8)))) :)
   refine .reval 16 (n' := ([(wu8 (w64 (97 + u43.1)))] : List Int).length) rfl rfl ?_
   obtain ⟨u52, hu52, r53⟩ := bind_some r44; clear r44
   refine .appO (Q := (Rep.int .u8)) 0 .ro sl123 ty5 rfl rfl rfl rfl rfl rfl o36 o51 rfl rfl rfl B0 hu52 rfl (fun a54 k55 cs56 o57 => ?_)
   refine .av rfl rfl ?_;refine .re ?_;refine .inBlock ?_;refine .region rfl ?_;refine .mv rfl rfl ?_;refine .q .ro (.subw rfl rfl) rfl ?_;refine .av rfl rfl ?_;refine .re ?_
   refine .prune _ ?_ (Cov.same rfl rfl rfl (hb25 (m39, u52, a54, k55, cs56, (w64 (v31 - 1)), u43.2.1, a47, k48, u43.2.2) ⟨o57, s49, r53⟩ (Nat.lt_succ_self _)))
   exact ⟨rfl, rfl, rfl, trivial⟩
  ·have r58 := ifF r40 c41; clear r40
   refine .exit rfl ?_
   refine .prune _ ?_ (Cov.same rfl rfl rfl (hb24 (v27, a28, k29, cs30, v32, a33, k34, v35) ⟨o36, s37, r58⟩))
   exact ⟨rfl, trivial⟩
theorem make_Words_c {Fs : List Hp} {G : Hp} {p0 : Nat} {a0_0 : Option Addr} {k0_0 : Nat} {x0_0 : List Int} {x0_1 : Int} {x1 : Int} {r : ((List ByteArray) × ((List Int) × Int))} (hG : G ∈ Fs) (s0_0 : SlR (Rep.int .i64) G a0_0 k0_0 x0_0) (h : make_Words (x0_0, x0_1) x1 = some r) : RetW Tryz.prog 51 #[.pointer (some ⟨p0, 0, none⟩), .int .i64 x1] Fs [(p0, .cells #[.slice a0_0 x0_0.length k0_0, .int .i64 x0_1] 121 (0, 0))] [] (fun v bo so G => ∃ a0 : Option Addr, ∃ k0 : Nat, ∃ (oa0 : Option Addr) (ok0 : Nat) (oc0 : List Value), v = .slice oa0 r.1.length ok0 ∧ bo = [(p0, .cells #[.slice a0 r.2.1.length k0, .int .i64 r.2.2] 121 (0, 0))] ∧ so = [.s (.slice oa0 r.1.length ok0) 9 1 r.1.length oc0] ∧ SlR (Rep.int .i64) G a0 k0 r.2.1 ∧ OL Rep.str G oc0 r.1) := by
 unfold make_Words at h
 try dsimp only at h
 refine RetW.of (vs := [_, _]) Tryz.func51 rfl Tryz.ntmps51 [(0, _), (1, _)] ⟨rfl, rfl, trivial⟩ rfl hG fun w0 S0 hS0 B0 => ?_
 refine .seq ?_;refine .region rfl ?_;refine .av rfl rfl ?_;refine .re ?_;refine .seq ?_;refine .region rfl ?_;refine .av rfl rfl ?_;refine .re ?_;refine .seq ?_
 refine .seq ?_;refine .region rfl ?_;refine .mv rfl rfl ?_;refine .mv rfl rfl ?_;refine .q .ro (.addw rfl rfl) rfl ?_
 obtain ⟨u1, hu1, r2⟩ := bind_some h; clear h
 refine .callS (b1 := [_]) (b2 := []) (s1 := []) [_, _] [] .ro rfl rfl Tryz.call18 rfl rfl (make_Deck_Next_c (G := G) List.mem_cons_self s0_0 hu1) rfl (fun v4 bo so h3 => ?_)
 obtain ⟨a5, k6, rfl, rfl, rfl, s7⟩ := h3
 refine .same (bl' := [_]) (sl' := []) rfl rfl rfl ?_;refine .av rfl rfl ?_;refine .re ?_;refine .block ?_;refine .own_nil 9 1 ?_
 refine .loop2 (α := Nat × Hp × List ByteArray × Option Addr × Nat × List Value × Int × List Int × Option Addr × Nat × Int) (fun y => [(5, .slice y.2.2.2.1 y.2.2.1.length y.2.2.2.2.1), (6, .int .i64 y.2.2.2.2.2.2.1)]) [(0, _)] (fun y => [y.2.1]) (fun y => [(p0, .cells #[.slice y.2.2.2.2.2.2.2.2.1 y.2.2.2.2.2.2.2.1.length y.2.2.2.2.2.2.2.2.2.1, .int .i64 y.2.2.2.2.2.2.2.2.2.2] 121 (0, 0))]) [] (fun y => [.s (.slice y.2.2.2.1 y.2.2.1.length y.2.2.2.2.1) 9 1 y.2.2.1.length y.2.2.2.2.2.1]) [] (fun y => HpLe G y.2.1 ∧ Bd w0 S0 Fs y.2.1 ∧ OL Rep.str y.2.1 y.2.2.2.2.2.1 y.2.2.1 ∧ SlR (Rep.int .i64) y.2.1 y.2.2.2.2.2.2.2.2.1 y.2.2.2.2.2.2.2.2.2.1 y.2.2.2.2.2.2.2.1 ∧ make_Words_L3 y.1 y.2.2.1 y.2.2.2.2.2.2.1 y.2.2.2.2.2.2.2.1 y.2.2.2.2.2.2.2.2.2.2 = some r) (fun y => y.1) (big, G, ([] : List ByteArray), none, 0, [], u1.1, u1.2.1, a5, k6, u1.2.2) ⟨(HpLe.refl _), B0, (OL.nil (Rp' := Rep.str)), s7, r2⟩ ⟨rfl, rfl, rfl, trivial⟩ rfl rfl rfl (fun y hI hb10 => ?_)
 obtain ⟨n12, G13, v14, a15, k16, cs17, v19, v20, a21, k22, v23⟩ := y
 obtain ⟨e24, B25, o26, s28, r29⟩ := hI
 try dsimp only at e24 B25 o26 s28 r29
 refine .prune [(5, .slice a15 v14.length k16), (6, .int .i64 v19), (0, _)] ⟨rfl, rfl, rfl, trivial⟩ ?_;refine .same (bl' := [(p0, .cells #[.slice a21 v20.length k22, .int .i64 v23] 121 (0, 0))]) (sl' := [.s (.slice a15 v14.length k16) 9 1 v14.length cs17]) (Fs' := G13 :: Fs) rfl rfl rfl ?_
 obtain ⟨m30, rfl⟩ : ∃ m, n12 = m + 1 := by cases n12 with | zero => exact absurd (show (none : Option _) = some _ from r29) (by simp) | succ m => exact ⟨m, rfl⟩
 have r31 : make_Words_B3 (make_Words_L3 m30) v14 v19 v20 v23 = some r := r29; clear r29; unfold make_Words_B3 at r31; try dsimp only at r31
 refine .seq ?_;refine .seq ?_;refine .region rfl ?_;refine .mv rfl rfl ?_;refine .q .ro (.gtr rfl rfl) rfl ?_;refine .re ?_
 refine .cond_dec rfl (fun c32 => ?_) (fun c32 => ?_)
 ·have r33 := ifT r31 c32; clear r31
  refine .skip ?_;refine .seq ?_;refine .block ?_;refine .seq ?_;refine .region rfl ?_;refine .mv rfl rfl ?_
  obtain ⟨u34, hu34, r35⟩ := bind_some r33; clear r33
  refine .callW (b1 := [_]) (b2 := []) (s1 := []) [_] [] .ro rfl rfl Tryz.call11 rfl rfl (make_Word_c (G := G13) List.mem_cons_self s28 hu34) rfl B25 (fun v36 bo so G37 e38 B39 h40 => ?_)
  obtain ⟨a41, k42, rfl, rfl, rfl, s43⟩ := h40
  refine .same (bl' := [_]) (sl' := [_]) rfl rfl rfl ?_;refine .av rfl rfl ?_;refine .re ?_;refine .seq ?_;refine .region rfl ?_;refine .av rfl rfl ?_;refine .re ?_;refine .seq ?_;refine .seq ?_
  refine .region rfl ?_;refine .mv rfl rfl ?_;refine .q .ro (.len_sl rfl rfl sl27) rfl ?_;refine .mv rfl rfl ?_;refine .re ?_;refine .cutB (β := Bool × Int) (fun y => [(8, .bool y.1)]) [(5, _), (6, _), (0, _), (7, _)] (fun y => G37 :: Fs) (fun y => [(p0, .cells #[.slice a41 u34.2.1.length k42, .int .i64 y.2] 121 (0, 0))]) [] (fun y => []) [_] (fun y => (make_Words_J1 (make_Words_L3 m30) v19 u34.1 u34.2.1 v14) y.1 y.2 = some r) ⟨rfl, rfl, rfl, rfl, trivial⟩ [] rfl [0] rfl ?_ ?_
  ·intro y hI
   obtain ⟨v44, v45⟩ := y
   have r46 := hI; clear hI
   try dsimp only at r46
   refine .prune [(8, .bool v44), (5, _), (6, _), (0, _), (7, _)] ⟨rfl, rfl, rfl, rfl, rfl, trivial⟩ ?_;refine .same (bl' := [(p0, .cells #[.slice a41 u34.2.1.length k42, .int .i64 v45] 121 (0, 0))]) (sl' := [_]) (Fs' := G37 :: Fs) rfl rfl rfl ?_
   unfold make_Words_J1 at r46
   try dsimp only at r46
   refine .seq ?_;refine .region rfl ?_;refine .mv rfl rfl ?_;refine .q .ro (.not rfl) rfl ?_;refine .re ?_
   refine .cond rfl (fun c47 => ?_) (fun c47 => ?_)
   ·have r48 := ifT r46 c47; clear r46
    refine .region rfl ?_;refine .mv rfl rfl ?_;refine .mv rfl rfl ?_
    refine .lit [_] [(0, _)] .ro sl27 ty9 rfl rfl rfl rfl rfl rfl (fun b49 hb49 => ?_)
    have o50 : OL Rep.str G37 [.string u34.1] ([u34.1] : List ByteArray) := ((OL.cons rfl (Rep.strI u34.1) (OL.nil (Rp' := Rep.str))) :)
    refine .reval 38 (n' := ([u34.1] : List ByteArray).length) rfl rfl ?_
    obtain ⟨u52, hu52, r53⟩ := bind_some r48; clear r48
    refine .appO (Q := Rep.str) 0 .ro sl27 ty9 rfl rfl rfl rfl rfl rfl (OL.mono e38 o26) o50 rfl rfl rfl B39 hu52 rfl (fun a54 k55 cs56 o57 => ?_)
    refine .av rfl rfl ?_;refine .re ?_;refine .inBlock ?_;refine .region rfl ?_;refine .mv rfl rfl ?_;refine .q .ro (.subw rfl rfl) rfl ?_;refine .av rfl rfl ?_;refine .re ?_
    refine .prune _ ?_ (Cov.same rfl rfl rfl (hb10 (m30, G37, u52, a54, k55, cs56, (w64 (v19 - 1)), u34.2.1, a41, k42, v45) ⟨(HpLe.trans e24 e38), B39, o57, s43, r53⟩ (Nat.lt_succ_self _)))
    exact ⟨rfl, rfl, rfl, trivial⟩
   ·have r58 := ifBF r46 c47; clear r46
    refine .skip ?_;refine .inBlock ?_;refine .region rfl ?_;refine .mv rfl rfl ?_;refine .q .ro (.subw rfl rfl) rfl ?_;refine .av rfl rfl ?_;refine .re ?_
    refine .prune _ ?_ (Cov.same rfl rfl rfl (hb10 (m30, G37, v14, a15, k16, cs17, (w64 (v19 - 1)), u34.2.1, a41, k42, v45) ⟨(HpLe.trans e24 e38), B39, (OL.mono e38 o26), s43, r58⟩ (Nat.lt_succ_self _)))
    exact ⟨rfl, rfl, rfl, trivial⟩
  ·intro hb59
   refine .block ?_
   refine .loop2 (α := Nat × List ByteArray × Bool) (fun y => [(8, .bool y.2.2), (23, .int .i64 (y.1 : Int))]) [(5, _), (6, _), (0, _), (7, _), (21, _), (22, _)] (fun y => []) (fun y => []) [_] (fun y => []) [_] (fun y => List.drop y.1 v14 = y.2.1 ∧ make_Words_L2 (make_Words_J1 (make_Words_L3 m30) v19 u34.1 u34.2.1 v14) u34.1 u34.2.2 y.2.1 y.2.2 = some r) (fun y => y.2.1.length) (0, v14, false) ⟨rfl, r35⟩ ⟨rfl, rfl, rfl, rfl, rfl, rfl, rfl, rfl, trivial⟩ rfl rfl rfl (fun y hI hb60 => ?_)
   obtain ⟨i61, w62, v63⟩ := y
   obtain ⟨g65, r66⟩ := hI
   try dsimp only at g65 r66
   refine .prune [(8, .bool v63), (23, .int .i64 (i61 : Int)), (5, _), (6, _), (0, _), (7, _), (21, _), (22, _)] ⟨rfl, rfl, rfl, rfl, rfl, rfl, rfl, rfl, trivial⟩ ?_;refine .same (bl' := [_]) (sl' := [_]) (Fs' := G37 :: Fs) rfl rfl rfl ?_
   cases w62 with
   | nil =>
    rw [make_Words_L2] at r66; try dsimp only at r66
    refine .seq ?_;refine .region rfl ?_;refine .q .ro (.lss rfl rfl) rfl ?_;refine .re ?_;refine .seq ?_
    refine .cond_dec rfl (fun c => absurd c (drop_nil g65)) (fun _ => ?_)
    refine .exit rfl ?_
    refine .prune _ ?_ (Cov.same rfl rfl rfl (hb59 (v63, u34.2.2) r66))
    exact ⟨rfl, rfl, rfl, rfl, rfl, trivial⟩
   | cons x67 xs68 =>
    have r69 : make_Words_B2 (make_Words_J1 (make_Words_L3 m30) v19 u34.1 u34.2.1 v14) u34.1 u34.2.2 (make_Words_L2 (make_Words_J1 (make_Words_L3 m30) v19 u34.1 u34.2.1 v14) u34.1 u34.2.2 xs68) x67 v63 = some r := r66; clear r66; unfold make_Words_B2 at r69; try dsimp only at r69
    refine .seq ?_;refine .region rfl ?_;refine .q .ro (.lss rfl rfl) rfl ?_;refine .re ?_;refine .seq ?_
    refine .cond_dec rfl (fun _ => ?_) (fun c => absurd (drop_lt g65) c)
    refine .skip ?_;refine .seq ?_;refine .block ?_;refine .seq ?_;refine .region rfl ?_
    obtain ⟨c70, p71, h72⟩ := OL.get (OL.mono e38 o26) (drop_idx g65)
    obtain rfl := h72
    refine .q .ro (.idxO 0 rfl rfl rfl (drop_idx g65) sl27 ty9.sz) rfl ?_;refine .q .ro (.loadO 0 0 rfl (drop_idx g65) p71 rfl (.inl ⟨rfl, rfl⟩) ty9 rfl) rfl ?_;refine .av rfl rfl ?_;refine .re ?_;refine .region rfl ?_;refine .mv rfl rfl ?_;refine .mv rfl rfl ?_;refine .cutR 4 (β := Unit) (fun y => [(32, .bool (decide ((v63 = true) ∨ (x67 = u34.1))))]) [(8, _), (23, _), (5, _), (6, _), (0, _), (7, _), (21, _), (22, _)] (fun y => G37 :: Fs) (fun y => []) [_] (fun y => []) [_] (fun y => True) ⟨rfl, rfl, rfl, rfl, rfl, rfl, rfl, rfl, trivial⟩ [0] rfl [0] rfl ?_ ?_
    ·rintro _ _
     refine .prune [(32, .bool (decide ((v63 = true) ∨ (x67 = u34.1)))), (8, _), (23, _), (5, _), (6, _), (0, _), (7, _), (21, _), (22, _)] ⟨rfl, rfl, rfl, rfl, rfl, rfl, rfl, rfl, rfl, trivial⟩ ?_;refine .same (bl' := [_]) (sl' := [_]) (Fs' := G37 :: Fs) rfl rfl rfl ?_;refine .av rfl rfl ?_;refine .re ?_;refine .inBlock ?_;refine .region rfl ?_;refine .q .ro (.addw rfl rfl) rfl ?_;refine .mv rfl rfl ?_;refine .re ?_
     refine .prune _ ?_ (Cov.same rfl rfl rfl (hb60 ((i61 + 1), xs68, (decide ((v63 = true) ∨ (x67 = u34.1)))) ⟨(drop_succ g65), r69⟩ (Nat.lt_succ_self _)))
     exact ⟨rfl, (congrArg (fun z => some (Value.int .i64 z)) (idx_wrap (OL.len' o26) g65)), rfl, rfl, rfl, rfl, rfl, rfl, trivial⟩
    ·intro hb73
     refine .split_b 28 rfl (fun c74 => ?_) (fun c74 => ?_)
     ·refine .g_off rfl rfl rfl ?_
      refine .g_off rfl rfl rfl ?_;refine .g_off rfl rfl rfl ?_;refine .q .ro (.pick_t rfl rfl) rfl ?_
      refine .prune _ ?_ (Cov.same rfl rfl rfl (hb73 () trivial))
      exact ⟨dor_t c74, rfl, rfl, rfl, rfl, rfl, rfl, rfl, rfl, trivial⟩
     ·refine .g_on rfl ?_
      refine .mv rfl rfl ?_;refine .g_on rfl ?_;refine .mv rfl rfl ?_;refine .g_on rfl ?_;refine .q .ro (.eql_s rfl rfl) rfl ?_;refine .q .ro (.pick_f rfl rfl) rfl ?_
      refine .prune _ ?_ (Cov.same rfl rfl rfl (hb73 () trivial))
      exact ⟨dor_f (bne_of c74), rfl, rfl, rfl, rfl, rfl, rfl, rfl, rfl, trivial⟩
 ·have r75 := ifF r31 c32; clear r31
  refine .exit rfl ?_;refine .seq ?_;refine .region rfl ?_;refine .mv rfl rfl ?_;refine .av rfl rfl ?_;refine .re ?_
  cases r75
  refine .retW (c := ⟨51, none⟩) (.inr ⟨_, rfl⟩) [.tmp 4] [_] rfl Tryz.func51 Tryz.results51 ⟨RV.tmp rfl, trivial⟩ mcm List.mem_cons_self B25 (by subst hS0; simp [blks]) (fun G' hg => ⟨a21, k22, a15, k16, cs17, rfl, rfl, rfl, (SlR.mono hg s28), (OL.mono hg o26)⟩)
theorem make_Fence_c {Fs : List Hp} {G : Hp} {p0 : Nat} {a0_0 : Option Addr} {k0_0 : Nat} {x0_0 : List Int} {x0_1 : Int} {r : ((Int × (List ByteArray)) × ((List Int) × Int))} (hG : G ∈ Fs) (s0_0 : SlR (Rep.int .i64) G a0_0 k0_0 x0_0) (h : make_Fence (x0_0, x0_1) = some r) : RetW Tryz.prog 10 #[.pointer (some ⟨p0, 0, none⟩)] Fs [(p0, .cells #[.slice a0_0 x0_0.length k0_0, .int .i64 x0_1] 121 (0, 0))] [] (fun v bo so G => ∃ a0 : Option Addr, ∃ k0 : Nat, ∃ a1 : Option Addr, ∃ k1 : Nat, v = .agg #[.int .i64 r.1.1, .slice a0 r.1.2.length k0] ∧ bo = [(p0, .cells #[.slice a1 r.2.1.length k1, .int .i64 r.2.2] 121 (0, 0))] ∧ so = [] ∧ SlR Rep.str G a0 k0 r.1.2 ∧ SlR (Rep.int .i64) G a1 k1 r.2.1) := by
 unfold make_Fence at h
 try dsimp only at h
 refine RetW.of (vs := [_]) Tryz.func10 rfl Tryz.ntmps10 [(0, _)] ⟨rfl, trivial⟩ rfl hG fun w0 S0 hS0 B0 => ?_
 refine .seq ?_;refine .region rfl ?_
 refine .alloc .ro ty29 rfl (fun b1 hb1 => ?_)
 refine .re ?_;refine .seq ?_;refine .region rfl ?_;refine .mv rfl rfl ?_
 obtain ⟨u2, hu2, r3⟩ := bind_some h; clear h
 refine .pull 1 rfl [_, _] rfl ?_
 refine .callW (b1 := [_]) (b2 := [_]) (s1 := []) [_, _] [] .ro rfl rfl Tryz.call51 rfl rfl (make_Words_c (G := G) List.mem_cons_self s0_0 hu2) rfl B0 (fun v5 bo so G6 e7 B8 h4 => ?_)
 obtain ⟨a15, k16, a11, k12, cs13, rfl, rfl, rfl, s17, o14⟩ := h4
 refine .same (bl' := [_, _]) (sl' := [_]) rfl rfl rfl ?_
 refine .lit [_] [(0, _)] .ro sl27 ty9 rfl rfl rfl rfl rfl rfl (fun b18 hb18 => ?_)
 have o19 : OL Rep.str G6 [.string ⟨#[109]⟩] ([⟨#[109]⟩] : List ByteArray) := ((OL.cons rfl (Rep.strI ⟨#[109]⟩) (OL.nil (Rp' := Rep.str))) :)
 refine .reval 10 (n' := ([⟨#[109]⟩] : List ByteArray).length) rfl rfl ?_
 obtain ⟨u25, hu25, r26⟩ := bind_some r3; clear r3
 refine .appO (Q := Rep.str) 0 .ro sl27 ty9 rfl rfl rfl rfl rfl rfl o14 o19 rfl rfl rfl B8 hu25 rfl (fun a21 k22 cs23 o24 => ?_)
 refine .av rfl rfl ?_;refine .re ?_;refine .seq ?_;refine .region rfl ?_;refine .av rfl rfl ?_;refine .re ?_;refine .seq ?_;refine .seq ?_;refine .region rfl ?_
 refine .mv rfl rfl ?_;refine .q .ro (.len_sl rfl rfl sl27) rfl ?_;refine .mv rfl rfl ?_;refine .re ?_;refine .cutB (β := List ByteArray × Option Addr × Nat × List Value × Int × Int) (fun y => [(4, .slice y.2.1 y.1.length y.2.2.1)]) [(0, _), (2, _)] (fun y => G6 :: Fs) (fun y => [(p0, .cells #[.slice a15 u2.2.1.length k16, .int .i64 y.2.2.2.2.1] 121 (0, 0)), (b1, .cells #[.int .i64 y.2.2.2.2.2, .slice none 0 0] 29 (0, 0))]) [] (fun y => [.s (.slice y.2.1 y.1.length y.2.2.1) 9 1 y.1.length y.2.2.2.1]) [_] (fun y => OL Rep.str G6 y.2.2.2.1 y.1 ∧ (make_Fence_J1 u2.2.1) y.1 y.2.2.2.2.1 y.2.2.2.2.2 = some r) ⟨rfl, rfl, trivial⟩ [] rfl [0] rfl ?_ ?_
 ·intro y hI
  obtain ⟨v20, a28, k30, cs31, v32, v33⟩ := y
  obtain ⟨o34, r35⟩ := hI
  try dsimp only at o34 r35
  refine .prune [(4, .slice a28 v20.length k30), (0, _), (2, _)] ⟨rfl, rfl, rfl, trivial⟩ ?_;refine .same (bl' := [(p0, .cells #[.slice a15 u2.2.1.length k16, .int .i64 v32] 121 (0, 0)), (b1, .cells #[.int .i64 v33, .slice none 0 0] 29 (0, 0))]) (sl' := [.s (.slice a28 v20.length k30) 9 1 v20.length cs31, _]) (Fs' := G6 :: Fs) rfl rfl rfl ?_
  unfold make_Fence_J1 at r35
  try dsimp only at r35
  refine .seq ?_;refine .region rfl ?_;refine .mv rfl rfl ?_
  obtain ⟨u36, hu36, r37⟩ := bind_some r35; clear r35
  refine .callS (b1 := [_]) (b2 := [_]) (s1 := []) [_, _] [] .ro rfl rfl Tryz.call18 rfl rfl (make_Deck_Next_c (G := G6) List.mem_cons_self s17 hu36) rfl (fun v38 bo so h39 => ?_)
  obtain ⟨a40, k41, rfl, rfl, rfl, s42⟩ := h39
  refine .same (bl' := [_, _]) (sl' := [_, _]) rfl rfl rfl ?_;refine .q .ro (.addw rfl rfl) rfl ?_;refine .mv rfl rfl ?_;refine .q .ro (.build [_, _] [(0, _), (1, _)] ty29 pl29 rfl rfl) rfl ?_;refine .store 1 [_, _] [_, _] .ro rfl rfl rfl ty29 rfl rfl rfl rfl ?_;refine .re ?_
  refine .freezeR 0 rfl rfl o34 [_] rfl B8 (fun G43 e44 B45 s46 => ?_)
  cases r37
  refine .drop 0 1 _ [] rfl rfl ?_;refine .pull 1 rfl [_, _] rfl ?_
  refine .retWD 1 (c := ⟨10, none⟩) (.inr ⟨_, rfl⟩) [.cell 2 29] [_] rfl Tryz.func10 Tryz.results10 ⟨RV.cell_a 0 [_, _] rfl rfl ty29 rfl, trivial⟩ mcm List.mem_cons_self B45 (by subst hS0; simp [blks]) (fun G' hg => ⟨a28, k30, a40, k41, rfl, rfl, rfl, (SlR.mono hg s46), (SlR.mono hg (SlR.mono e44 s42))⟩)
 ·intro hb47
  refine .block ?_;refine .own_nil 9 1 ?_;refine .pull 1 rfl [_, _] rfl ?_;refine .pull 1 rfl [_, _] rfl ?_
  refine .loop2 (α := Nat × List ByteArray × List ByteArray × Option Addr × Nat × List Value × Int × Int) (fun y => [(4, .slice y.2.2.2.1 y.2.2.1.length y.2.2.2.2.1), (14, .int .i64 (y.1 : Int))]) [(0, _), (2, _), (12, _), (13, _)] (fun y => []) (fun y => [(p0, .cells #[.slice a15 u2.2.1.length k16, .int .i64 y.2.2.2.2.2.2.1] 121 (0, 0)), (b1, .cells #[.int .i64 y.2.2.2.2.2.2.2, .slice none 0 0] 29 (0, 0))]) [] (fun y => [.s (.slice y.2.2.2.1 y.2.2.1.length y.2.2.2.2.1) 9 1 y.2.2.1.length y.2.2.2.2.2.1]) [_] (fun y => OL Rep.str G6 y.2.2.2.2.2.1 y.2.2.1 ∧ List.drop y.1 u25 = y.2.1 ∧ make_Fence_L5 (make_Fence_J1 u2.2.1) y.2.1 y.2.2.1 y.2.2.2.2.2.2.1 y.2.2.2.2.2.2.2 = some r) (fun y => y.2.1.length) (0, u25, ([] : List ByteArray), none, 0, [], u2.2.2, 0) ⟨(OL.nil (Rp' := Rep.str)), rfl, r26⟩ ⟨rfl, rfl, rfl, rfl, rfl, rfl, trivial⟩ rfl rfl rfl (fun y hI hb48 => ?_)
  obtain ⟨i49, w50, v52, a53, k54, cs55, v56, v57⟩ := y
  obtain ⟨o58, g59, r60⟩ := hI
  try dsimp only at o58 g59 r60
  refine .prune [(4, .slice a53 v52.length k54), (14, .int .i64 (i49 : Int)), (0, _), (2, _), (12, _), (13, _)] ⟨rfl, rfl, rfl, rfl, rfl, rfl, trivial⟩ ?_;refine .same (bl' := [(p0, .cells #[.slice a15 u2.2.1.length k16, .int .i64 v56] 121 (0, 0)), (b1, .cells #[.int .i64 v57, .slice none 0 0] 29 (0, 0))]) (sl' := [.s (.slice a53 v52.length k54) 9 1 v52.length cs55, _]) (Fs' := G6 :: Fs) rfl rfl rfl ?_
  cases w50 with
  | nil =>
   rw [make_Fence_L5] at r60; try dsimp only at r60
   refine .seq ?_;refine .region rfl ?_;refine .q .ro (.lss rfl rfl) rfl ?_;refine .re ?_;refine .seq ?_
   refine .cond_dec rfl (fun c => absurd c (drop_nil g59)) (fun _ => ?_)
   refine .exit rfl ?_
   refine .prune _ ?_ (Cov.same rfl rfl rfl (hb47 (v52, a53, k54, cs55, v56, v57) ⟨o58, r60⟩))
   exact ⟨rfl, rfl, rfl, trivial⟩
  | cons x61 xs62 =>
   have r63 : make_Fence_B5 (make_Fence_J1 u2.2.1) (make_Fence_L5 (make_Fence_J1 u2.2.1) xs62) x61 v52 v56 v57 = some r := r60; clear r60; unfold make_Fence_B5 at r63; try dsimp only at r63
   refine .seq ?_;refine .region rfl ?_;refine .q .ro (.lss rfl rfl) rfl ?_;refine .re ?_;refine .seq ?_
   refine .cond_dec rfl (fun _ => ?_) (fun c => absurd (drop_lt g59) c)
   refine .skip ?_;refine .seq ?_;refine .block ?_;refine .seq ?_;refine .region rfl ?_
   obtain ⟨c65, p66, h67⟩ := OL.get o24 (drop_idx g59)
   obtain rfl := h67
   refine .q .ro (.idxO 1 rfl rfl rfl (drop_idx g59) sl27 ty9.sz) rfl ?_;refine .q .ro (.loadO 1 0 rfl (drop_idx g59) p66 rfl (.inl ⟨rfl, rfl⟩) ty9 rfl) rfl ?_;refine .av rfl rfl ?_;refine .re ?_;refine .seq ?_;refine .region rfl ?_;refine .mv rfl rfl ?_;refine .q .ro (.len_sl rfl rfl sl27) rfl ?_;refine .av rfl rfl ?_
   refine .re ?_;refine .seq ?_;refine .cutB (β := Int × Int × Int) (fun y => [(7, .int .i64 y.1)]) [(4, _), (14, _), (0, _), (2, _), (12, _), (13, _), (6, _)] (fun y => G6 :: Fs) (fun y => [(p0, .cells #[.slice a15 u2.2.1.length k16, .int .i64 y.2.1] 121 (0, 0)), (b1, .cells #[.int .i64 y.2.2, .slice none 0 0] 29 (0, 0))]) [] (fun y => []) [_, _] (fun y => (make_Fence_J3 (make_Fence_L5 (make_Fence_J1 u2.2.1) xs62) x61 v52) y.1 y.2.1 y.2.2 = some r) ⟨rfl, rfl, rfl, rfl, rfl, rfl, rfl, trivial⟩ [] rfl [0, 1] rfl ?_ ?_
   ·intro y hI
    obtain ⟨v68, v69, v70⟩ := y
    have r71 := hI; clear hI
    try dsimp only at r71
    refine .prune [(7, .int .i64 v68), (4, _), (14, _), (0, _), (2, _), (12, _), (13, _), (6, _)] ⟨rfl, rfl, rfl, rfl, rfl, rfl, rfl, rfl, trivial⟩ ?_;refine .same (bl' := [(p0, .cells #[.slice a15 u2.2.1.length k16, .int .i64 v69] 121 (0, 0)), (b1, .cells #[.int .i64 v70, .slice none 0 0] 29 (0, 0))]) (sl' := [_, _]) (Fs' := G6 :: Fs) rfl rfl rfl ?_
    unfold make_Fence_J3 at r71
    try dsimp only at r71
    refine .seq ?_;refine .seq ?_;refine .region rfl ?_;refine .mv rfl rfl ?_;refine .q .ro (.gtr rfl rfl) rfl ?_;refine .mv rfl rfl ?_
    obtain ⟨u72, h73, r74⟩ := bind_some r71; clear r71
    refine .cutR 8 (β := Unit) (fun y => [(43, .bool u72)]) [(7, _), (4, _), (14, _), (0, _), (2, _), (12, _), (13, _), (6, _)] (fun y => G6 :: Fs) (fun y => []) [_, _] (fun y => []) [_, _] (fun y => True) ⟨rfl, rfl, rfl, rfl, rfl, rfl, rfl, rfl, trivial⟩ [0, 1] rfl [0, 1] rfl ?_ ?_
    ·rintro _ _
     refine .prune [(43, .bool u72), (7, _), (4, _), (14, _), (0, _), (2, _), (12, _), (13, _), (6, _)] ⟨rfl, rfl, rfl, rfl, rfl, rfl, rfl, rfl, rfl, trivial⟩ ?_;refine .same (bl' := [_, _]) (sl' := [_, _]) (Fs' := G6 :: Fs) rfl rfl rfl ?_;refine .re ?_
     refine .cond rfl (fun c75 => ?_) (fun c75 => ?_)
     ·have r76 := ifT r74 c75; clear r74
      refine .exit rfl ?_;refine .region rfl ?_;refine .q .ro (.addw rfl rfl) rfl ?_;refine .mv rfl rfl ?_;refine .re ?_
      refine .prune _ ?_ (Cov.same rfl rfl rfl (hb48 ((i49 + 1), xs62, v52, a53, k54, cs55, v69, v70) ⟨o58, (drop_succ g59), r76⟩ (Nat.lt_succ_self _)))
      exact ⟨rfl, (congrArg (fun z => some (Value.int .i64 z)) (idx_wrap (OL.len' o24) g59)), rfl, rfl, rfl, rfl, trivial⟩
     ·have r77 := ifBF r74 c75; clear r74
      refine .skip ?_;refine .seq ?_;refine .region rfl ?_;refine .mv rfl rfl ?_
      refine .lit [_] [(0, _)] .ro sl27 ty9 rfl rfl rfl rfl rfl rfl (fun b78 hb78 => ?_)
      have o79 : OL Rep.str G6 [.string ByteArray.empty] ([ByteArray.empty] : List ByteArray) := ((OL.cons rfl (Rep.strI ByteArray.empty) (OL.nil (Rp' := Rep.str))) :)
      refine .reval 45 (n' := ([ByteArray.empty] : List ByteArray).length) rfl rfl ?_
      obtain ⟨u80, hu80, r81⟩ := bind_some r77; clear r77
      refine .appO (Q := Rep.str) 0 .ro sl27 ty9 rfl rfl rfl rfl rfl rfl o58 o79 rfl rfl rfl B8 hu80 rfl (fun a82 k83 cs84 o85 => ?_)
      refine .av rfl rfl ?_;refine .re ?_;refine .seq ?_;refine .cutG (β := List ByteArray × Option Addr × Nat × List Value) (fun y => [(4, .slice y.2.1 y.1.length y.2.2.1)]) [(7, _), (14, _), (0, _), (2, _), (12, _), (13, _), (6, _)] (fun y => G6 :: Fs) (fun y => []) [_, _] (fun y => [.s (.slice y.2.1 y.1.length y.2.2.1) 9 1 y.1.length y.2.2.2]) [_] (fun y => OL Rep.str G6 y.2.2.2 y.1 ∧ (make_Fence_J2 (make_Fence_L5 (make_Fence_J1 u2.2.1) xs62) v68 x61 v69 v70) y.1 = some r) ⟨rfl, rfl, rfl, rfl, rfl, rfl, rfl, trivial⟩ [0, 1] rfl [1] rfl ?_ ?_
      ·intro y hI
       obtain ⟨v86, a87, k88, cs89⟩ := y
       obtain ⟨o90, r91⟩ := hI
       try dsimp only at o90 r91
       refine .prune [(4, .slice a87 v86.length k88), (7, _), (14, _), (0, _), (2, _), (12, _), (13, _), (6, _)] ⟨rfl, rfl, rfl, rfl, rfl, rfl, rfl, rfl, trivial⟩ ?_;refine .same (bl' := [_, _]) (sl' := [.s (.slice a87 v86.length k88) 9 1 v86.length cs89, _]) (Fs' := G6 :: Fs) rfl rfl rfl ?_
       unfold make_Fence_J2 at r91
       try dsimp only at r91
       refine .region rfl ?_;refine .mv rfl rfl ?_;refine .mv rfl rfl ?_;refine .mv rfl rfl ?_
       obtain ⟨u92, hu92, r93⟩ := bind_some r91; clear r91
       obtain ⟨c94, p95, h96⟩ := OL.get o90 hu92
       obtain rfl := h96
       refine .q .ro (.idxO 0 rfl rfl rfl hu92 sl27 ty9.sz) rfl ?_
       obtain ⟨u97, hu97, r98⟩ := bind_some r93; clear r93
       refine .storeR 0 0 (Q := Rep.str) .ro rfl rfl o90 hu97 rfl (.inl ⟨rfl, rfl⟩) rfl ty9 p95 ((Rep.strI x61) :) rfl rfl (fun cs99 hlcs99 o100 => ?_)
       refine .reval 4 hlcs99 rfl ?_;refine .reval 55 hlcs99 rfl ?_;refine .re ?_;refine .inBlock ?_;refine .region rfl ?_;refine .q .ro (.addw rfl rfl) rfl ?_;refine .mv rfl rfl ?_;refine .re ?_
       refine .prune _ ?_ (Cov.same rfl rfl rfl (hb48 ((i49 + 1), xs62, u97, a87, k88, cs99, v69, v70) ⟨o100, (drop_succ g59), r98⟩ (Nat.lt_succ_self _)))
       exact ⟨rfl, (congrArg (fun z => some (Value.int .i64 z)) (idx_wrap (OL.len' o24) g59)), rfl, rfl, rfl, rfl, trivial⟩
      ·intro hb101
       refine .drawL (.q 0 (.q 1 (.q 2 (.q 4 (.q 5 (.alt (.e 3 1 (.e 6 1 (.e 7 2 .nil))) (.e 6 1 (.e 3 1 (.e 7 2 .nil))))))))) [_, _] (by kernel_rfl) (by kernel_rfl) (pick_mem [0, 1] rfl) ?_
       obtain ⟨u102, hu102, r103⟩ := bind_some r81; clear r81
       obtain ⟨u104, hu104, r105⟩ := bind_some r103; clear r103
       obtain ⟨u106, hu106, r107⟩ := bind_some r105; clear r105
       obtain ⟨u108, hu108, r109⟩ := bind_some r107; clear r107
       refine .dq (.move rfl) rfl ?_;refine .dq (.move rfl) rfl ?_;refine .dq (.addw rfl rfl) rfl ?_;refine .dq (.move rfl) rfl ?_;refine .dq (.move rfl) rfl ?_;refine .alt ?_ ?_
       ·refine .owncap 0 rfl (fun h110 => ?_)
        refine .q .d1 (.sliceP rfl (PartV.all h110) hu102 sl27 ty9.sz (fun h => .yes' rfl h) (fun _ => .no)) rfl ?_;refine .clsL (HpLe.refl _) (pick_mem [0, 1] rfl) ?_
        refine .owncap 0 rfl (fun h111 => ?_)
        refine .q .d1 (.sliceP rfl (PartV.all h111) hu104 sl27 ty9.sz (fun h => .yes' rfl h) (fun _ => .no)) rfl ?_;refine .clsL (HpLe.refl _) (pick_mem [0, 1] rfl) ?_
        refine .copyG 0 (Q := Rep.str) .d2 sl27 ty9.sz rfl o85 hu106 rfl (PartV.psub (PartV.all h110) hu102) rfl (SrcV.osub 0 rfl o85 (PartV.psub (PartV.all h111) hu104) hu108) rfl (fun cs112 hlcs112 o113 => ?_)
        refine .reval 4 hlcs112 rfl ?_;refine .reval 46 hlcs112 rfl ?_;refine .reval 47 hlcs112 rfl ?_;refine .reval 51 hlcs112 rfl ?_;refine .draw_end ?_
        refine .prune _ ?_ (Cov.same rfl rfl rfl (hb101 ((lcpy u80 u102.1 u106.length u108), a82, k83, cs112) ⟨o113, r109⟩))
        exact ⟨rfl, rfl, rfl, rfl, rfl, rfl, rfl, rfl, trivial⟩
       ·refine .owncap 0 rfl (fun h114 => ?_)
        refine .q .d1 (.sliceP rfl (PartV.all h114) hu104 sl27 ty9.sz (fun h => .yes' rfl h) (fun _ => .no)) rfl ?_;refine .clsL (HpLe.refl _) (pick_mem [0, 1] rfl) ?_
        refine .owncap 0 rfl (fun h115 => ?_)
        refine .q .d1 (.sliceP rfl (PartV.all h115) hu102 sl27 ty9.sz (fun h => .yes' rfl h) (fun _ => .no)) rfl ?_;refine .clsL (HpLe.refl _) (pick_mem [0, 1] rfl) ?_
        refine .copyG 0 (Q := Rep.str) .d2 sl27 ty9.sz rfl o85 hu106 rfl (PartV.psub (PartV.all h115) hu102) rfl (SrcV.osub 0 rfl o85 (PartV.psub (PartV.all h114) hu104) hu108) rfl (fun cs116 hlcs116 o117 => ?_)
        refine .reval 4 hlcs116 rfl ?_;refine .reval 46 hlcs116 rfl ?_;refine .reval 47 hlcs116 rfl ?_;refine .reval 51 hlcs116 rfl ?_;refine .draw_end ?_
        refine .prune _ ?_ (Cov.same rfl rfl rfl (hb101 ((lcpy u80 u102.1 u106.length u108), a82, k83, cs116) ⟨o117, r109⟩))
        exact ⟨rfl, rfl, rfl, rfl, rfl, rfl, rfl, rfl, trivial⟩
    ·intro hb118
     refine .split 35 rfl (fun c119 => ?_) (fun c119 => ?_)
     ·have r120 := ifT h73 c119
      refine .g_on rfl ?_;refine .mv rfl rfl ?_;refine .g_on rfl ?_;refine .mv rfl rfl ?_;refine .g_on rfl ?_;refine .q .ro (.subw rfl rfl) rfl ?_;refine .g_on rfl ?_
      obtain ⟨u121, hu121, r122⟩ := bind_some r120; clear r120
      obtain ⟨c123, p124, h125⟩ := OL.get o58 hu121
      obtain rfl := h125
      refine .q .ro (.idxO 0 rfl rfl rfl hu121 sl27 ty9.sz) rfl ?_;refine .g_on rfl ?_;refine .q .ro (.loadO 0 0 rfl hu121 p124 rfl (.inl ⟨rfl, rfl⟩) ty9 rfl) rfl ?_;refine .g_on rfl ?_;refine .mv rfl rfl ?_;refine .g_on rfl ?_;refine .q .ro (.eql_s rfl rfl) rfl ?_;refine .q .ro (.pick_t rfl rfl) rfl ?_
      refine .prune _ ?_ (Cov.same rfl rfl rfl (hb118 () trivial))
      exact ⟨sval r122, rfl, rfl, rfl, rfl, rfl, rfl, rfl, rfl, trivial⟩
     ·have r126 := ifF h73 c119
      refine .g_off rfl rfl rfl ?_;refine .g_off rfl rfl rfl ?_;refine .g_off rfl rfl rfl ?_;refine .g_off rfl rfl rfl ?_;refine .g_off rfl rfl rfl ?_;refine .g_off rfl rfl rfl ?_;refine .g_off rfl rfl rfl ?_;refine .q .ro (.pick_f rfl rfl) rfl ?_
      refine .prune _ ?_ (Cov.same rfl rfl rfl (hb118 () trivial))
      exact ⟨sval r126, rfl, rfl, rfl, rfl, rfl, rfl, rfl, rfl, trivial⟩
   ·intro hb127
    refine .block ?_
    refine .loop2 (α := Nat × Int) (fun y => [(7, .int .i64 y.2)]) [(4, _), (14, _), (0, _), (2, _), (12, _), (13, _), (6, _)] (fun y => []) (fun y => []) [_, _] (fun y => []) [_, _] (fun y => make_Fence_L4 (make_Fence_J3 (make_Fence_L5 (make_Fence_J1 u2.2.1) xs62) x61 v52) x61 v56 v57 v52 y.1 y.2 = some r) (fun y => y.1) (big, (v52.length : Int)) r63 ⟨rfl, rfl, rfl, rfl, rfl, rfl, rfl, rfl, trivial⟩ rfl rfl rfl (fun y hI hb128 => ?_)
    obtain ⟨n129, v130⟩ := y
    have r131 := hI; clear hI
    try dsimp only at r131
    refine .prune [(7, .int .i64 v130), (4, _), (14, _), (0, _), (2, _), (12, _), (13, _), (6, _)] ⟨rfl, rfl, rfl, rfl, rfl, rfl, rfl, rfl, trivial⟩ ?_;refine .same (bl' := [_, _]) (sl' := [_, _]) (Fs' := G6 :: Fs) rfl rfl rfl ?_
    obtain ⟨m132, rfl⟩ : ∃ m, n129 = m + 1 := by cases n129 with | zero => exact absurd (show (none : Option _) = some _ from r131) (by simp) | succ m => exact ⟨m, rfl⟩
    have r133 : make_Fence_B4 (make_Fence_J3 (make_Fence_L5 (make_Fence_J1 u2.2.1) xs62) x61 v52) x61 v56 v57 v52 (make_Fence_L4 (make_Fence_J3 (make_Fence_L5 (make_Fence_J1 u2.2.1) xs62) x61 v52) x61 v56 v57 v52 m132) v130 = some r := r131; clear r131; unfold make_Fence_B4 at r133; try dsimp only at r133
    refine .seq ?_;refine .seq ?_;refine .region rfl ?_;refine .mv rfl rfl ?_;refine .q .ro (.gtr rfl rfl) rfl ?_;refine .mv rfl rfl ?_
    obtain ⟨u134, h135, r136⟩ := bind_some r133; clear r133
    refine .cutR 8 (β := Unit) (fun y => [(30, .bool u134)]) [(7, _), (4, _), (14, _), (0, _), (2, _), (12, _), (13, _), (6, _)] (fun y => G6 :: Fs) (fun y => []) [_, _] (fun y => []) [_, _] (fun y => True) ⟨rfl, rfl, rfl, rfl, rfl, rfl, rfl, rfl, trivial⟩ [0, 1] rfl [0, 1] rfl ?_ ?_
    ·rintro _ _
     refine .prune [(30, .bool u134), (7, _), (4, _), (14, _), (0, _), (2, _), (12, _), (13, _), (6, _)] ⟨rfl, rfl, rfl, rfl, rfl, rfl, rfl, rfl, rfl, trivial⟩ ?_;refine .same (bl' := [_, _]) (sl' := [_, _]) (Fs' := G6 :: Fs) rfl rfl rfl ?_;refine .re ?_
     refine .cond rfl (fun c137 => ?_) (fun c137 => ?_)
     ·have r138 := ifT r136 c137; clear r136
      refine .skip ?_;refine .block ?_;refine .region rfl ?_;refine .mv rfl rfl ?_;refine .q .ro (.subw rfl rfl) rfl ?_;refine .av rfl rfl ?_;refine .re ?_;refine .inBlock ?_
      refine .prune _ ?_ (Cov.same rfl rfl rfl (hb128 (m132, (w64 (v130 - 1))) r138 (Nat.lt_succ_self _)))
      exact ⟨rfl, rfl, rfl, rfl, rfl, rfl, rfl, rfl, trivial⟩
     ·have r139 := ifBF r136 c137; clear r136
      refine .exit rfl ?_
      refine .prune _ ?_ (Cov.same rfl rfl rfl (hb127 (v130, v56, v57) r139))
      exact ⟨rfl, rfl, rfl, rfl, rfl, rfl, rfl, rfl, trivial⟩
    ·intro hb140
     refine .split 22 rfl (fun c141 => ?_) (fun c141 => ?_)
     ·have r142 := ifT h135 c141
      refine .g_on rfl ?_;refine .mv rfl rfl ?_;refine .g_on rfl ?_;refine .mv rfl rfl ?_;refine .g_on rfl ?_;refine .q .ro (.subw rfl rfl) rfl ?_;refine .g_on rfl ?_
      obtain ⟨u143, hu143, r144⟩ := bind_some r142; clear r142
      obtain ⟨c145, p146, h147⟩ := OL.get o58 hu143
      obtain rfl := h147
      refine .q .ro (.idxO 0 rfl rfl rfl hu143 sl27 ty9.sz) rfl ?_;refine .g_on rfl ?_;refine .q .ro (.loadO 0 0 rfl hu143 p146 rfl (.inl ⟨rfl, rfl⟩) ty9 rfl) rfl ?_;refine .g_on rfl ?_;refine .mv rfl rfl ?_;refine .g_on rfl ?_;refine .q .ro (.gtr_d rfl rfl) rfl ?_;refine .q .ro (.pick_t rfl rfl) rfl ?_
      refine .prune _ ?_ (Cov.same rfl rfl rfl (hb140 () trivial))
      exact ⟨sval r144, rfl, rfl, rfl, rfl, rfl, rfl, rfl, rfl, trivial⟩
     ·have r148 := ifF h135 c141
      refine .g_off rfl rfl rfl ?_;refine .g_off rfl rfl rfl ?_;refine .g_off rfl rfl rfl ?_;refine .g_off rfl rfl rfl ?_;refine .g_off rfl rfl rfl ?_;refine .g_off rfl rfl rfl ?_;refine .g_off rfl rfl rfl ?_;refine .q .ro (.pick_f rfl rfl) rfl ?_
      refine .prune _ ?_ (Cov.same rfl rfl rfl (hb140 () trivial))
      exact ⟨sval r148, rfl, rfl, rfl, rfl, rfl, rfl, rfl, rfl, trivial⟩
theorem fence_sized_c {Fs : List Hp} {G : Hp} {x0 : Int} {r : Bool} (hG : G ∈ Fs)  (h : fence_sized x0 = some r) : RetS Tryz.prog 54 #[.int .i64 x0] Fs [] [] (fun v bo so => v = .bool r ∧ bo = [] ∧ so = []) := by
 unfold fence_sized at h
 try dsimp only at h
 refine RetS.of (vs := [_]) Tryz.func54 rfl Tryz.ntmps54 [(0, _)] ⟨rfl, trivial⟩ rfl hG fun w0 S0 hS0 B0 => ?_
 refine .seq ?_;refine .region rfl ?_;refine .av rfl rfl ?_;refine .re ?_;refine .seq ?_;refine .region rfl ?_;refine .mv rfl rfl ?_;refine .q .ro (.geq rfl rfl) rfl ?_;refine .mv rfl rfl ?_
 refine .cutR 3 (β := Unit) (fun y => [(8, .bool (decide ((2 ≤ x0) ∧ (x0 ≤ 8))))]) [(2, _)] (fun y => G :: Fs) (fun y => []) [] (fun y => []) [] (fun y => True) ⟨rfl, trivial⟩ [] rfl [] rfl ?_ ?_
 ·rintro _ _
  refine .prune [(8, .bool (decide ((2 ≤ x0) ∧ (x0 ≤ 8)))), (2, _)] ⟨rfl, rfl, trivial⟩ ?_;refine .same (bl' := []) (sl' := []) (Fs' := G :: Fs) rfl rfl rfl ?_;refine .av rfl rfl ?_;refine .re ?_
  cases h
  refine .retS (c := ⟨54, none⟩) (.inr ⟨_, rfl⟩) [.tmp 2] [_] rfl Tryz.func54 Tryz.results54 ⟨RV.tmp rfl, trivial⟩ mcm ⟨rfl, rfl, rfl⟩
 ·intro hb2
  refine .split 5 rfl (fun c1 => ?_) (fun c1 => ?_)
  ·refine .g_on rfl ?_
   refine .mv rfl rfl ?_;refine .g_on rfl ?_;refine .q .ro (.leq rfl rfl) rfl ?_;refine .q .ro (.pick_t rfl rfl) rfl ?_
   refine .prune _ ?_ (Cov.same rfl rfl rfl (hb2 () trivial))
   exact ⟨dand_t c1, rfl, trivial⟩
  ·refine .g_off rfl rfl rfl ?_
   refine .g_off rfl rfl rfl ?_;refine .q .ro (.pick_f rfl rfl) rfl ?_
   refine .prune _ ?_ (Cov.same rfl rfl rfl (hb2 () trivial))
   exact ⟨dand_f c1, rfl, trivial⟩
theorem fence_proper_c {Fs : List Hp} {G : Hp} {x0 : ByteArray} {r : Bool} (hG : G ∈ Fs)  (h : fence_proper x0 = some r) : RetS Tryz.prog 55 #[.string x0] Fs [] [] (fun v bo so => v = .bool r ∧ bo = [] ∧ so = []) := by
 unfold fence_proper at h
 try dsimp only at h
 refine RetS.of (vs := [_]) Tryz.func55 rfl Tryz.ntmps55 [(0, _)] ⟨rfl, trivial⟩ rfl hG fun w0 S0 hS0 B0 => ?_
 refine .seq ?_;refine .region rfl ?_;refine .av rfl rfl ?_;refine .re ?_;refine .seq ?_;refine .region rfl ?_;refine .mv rfl rfl ?_;refine .q .ro (.len_s rfl Tryz.underlying9) rfl ?_;refine .q .ro (.geq rfl rfl) rfl ?_
 refine .mv rfl rfl ?_;refine .cutR 4 (β := Unit) (fun y => [(10, .bool (decide ((1 ≤ (x0.size : Int)) ∧ ((x0.size : Int) ≤ 32))))]) [(2, _)] (fun y => G :: Fs) (fun y => []) [] (fun y => []) [] (fun y => True) ⟨rfl, trivial⟩ [] rfl [] rfl ?_ ?_
 ·rintro _ _
  refine .prune [(10, .bool (decide ((1 ≤ (x0.size : Int)) ∧ ((x0.size : Int) ≤ 32)))), (2, _)] ⟨rfl, rfl, trivial⟩ ?_;refine .same (bl' := []) (sl' := []) (Fs' := G :: Fs) rfl rfl rfl ?_;refine .av rfl rfl ?_;refine .re ?_
  cases h
  refine .retS (c := ⟨55, none⟩) (.inr ⟨_, rfl⟩) [.tmp 2] [_] rfl Tryz.func55 Tryz.results55 ⟨RV.tmp rfl, trivial⟩ mcm ⟨rfl, rfl, rfl⟩
 ·intro hb2
  refine .split 6 rfl (fun c1 => ?_) (fun c1 => ?_)
  ·refine .g_on rfl ?_
   refine .mv rfl rfl ?_;refine .g_on rfl ?_;refine .q .ro (.len_s rfl Tryz.underlying9) rfl ?_;refine .g_on rfl ?_;refine .q .ro (.leq rfl rfl) rfl ?_;refine .q .ro (.pick_t rfl rfl) rfl ?_
   refine .prune _ ?_ (Cov.same rfl rfl rfl (hb2 () trivial))
   exact ⟨dand_t c1, rfl, trivial⟩
  ·refine .g_off rfl rfl rfl ?_
   refine .g_off rfl rfl rfl ?_;refine .g_off rfl rfl rfl ?_;refine .q .ro (.pick_f rfl rfl) rfl ?_
   refine .prune _ ?_ (Cov.same rfl rfl rfl (hb2 () trivial))
   exact ⟨dand_f c1, rfl, trivial⟩
theorem fence_ascend_c {Fs : List Hp} {G : Hp} {a0 : Option Addr} {k0 : Nat} {x0 : List ByteArray} {r : Bool} (hG : G ∈ Fs) (s0 : SlR Rep.str G a0 k0 x0) (h : fence_ascend x0 = some r) : RetS Tryz.prog 59 #[.slice a0 x0.length k0] Fs [] [] (fun v bo so => v = .bool r ∧ bo = [] ∧ so = []) := by
 unfold fence_ascend at h
 try dsimp only at h
 refine RetS.of (vs := [_]) Tryz.func59 rfl Tryz.ntmps59 [(0, _)] ⟨rfl, trivial⟩ rfl hG fun w0 S0 hS0 B0 => ?_
 refine .seq ?_;refine .region rfl ?_;refine .av rfl rfl ?_;refine .re ?_;refine .seq ?_;refine .seq ?_;refine .region rfl ?_;refine .mv rfl rfl ?_;refine .q .ro (.len_sl rfl rfl sl27) rfl ?_
 refine .mv rfl rfl ?_;refine .re ?_;refine .block ?_
 refine .loop2 (α := Nat × List ByteArray) (fun y => [(7, .int .i64 (y.1 : Int))]) [(0, _), (5, _), (6, _)] (fun y => []) (fun y => []) [] (fun y => []) [] (fun y => List.drop y.1 x0 = y.2 ∧ fence_ascend_L1 x0 y.2 y.1  = some r) (fun y => y.2.length) (0, x0) ⟨rfl, h⟩ ⟨rfl, rfl, rfl, rfl, trivial⟩ rfl rfl rfl (fun y hI hb70 => ?_)
 obtain ⟨i66, w67⟩ := y
 obtain ⟨g68, r69⟩ := hI
 try dsimp only at g68 r69
 refine .prune [(7, .int .i64 (i66 : Int)), (0, _), (5, _), (6, _)] ⟨rfl, rfl, rfl, rfl, trivial⟩ ?_;refine .same (bl' := []) (sl' := []) (Fs' := G :: Fs) rfl rfl rfl ?_
 cases w67 with
 | nil =>
  rw [fence_ascend_L1] at r69; try dsimp only at r69
  refine .seq ?_;refine .region rfl ?_;refine .q .ro (.lss rfl rfl) rfl ?_;refine .re ?_;refine .seq ?_
  refine .cond_dec rfl (fun c => absurd c (drop_nil g68)) (fun _ => ?_)
  refine .exit rfl ?_;refine .seq ?_;refine .region rfl ?_;refine .av rfl rfl ?_;refine .re ?_
  cases r69
  refine .retS (c := ⟨59, none⟩) (.inr ⟨_, rfl⟩) [.tmp 2] [_] rfl Tryz.func59 Tryz.results59 ⟨RV.tmp rfl, trivial⟩ mcm ⟨rfl, rfl, rfl⟩
 | cons x74 xs75 =>
  have r73 : fence_ascend_B1 x0 (fence_ascend_L1 x0 xs75 (i66 + 1)) x74 i66  = some r := r69; clear r69; unfold fence_ascend_B1 at r73; try dsimp only at r73
  refine .seq ?_;refine .region rfl ?_;refine .q .ro (.lss rfl rfl) rfl ?_;refine .re ?_;refine .seq ?_
  refine .cond_dec rfl (fun _ => ?_) (fun c => absurd (drop_lt g68) c)
  refine .skip ?_;refine .seq ?_;refine .block ?_;refine .seq ?_;refine .region rfl ?_;refine .mv rfl rfl ?_
  obtain ⟨c76, p77, h78⟩ := SlR.get s0 (drop_idx g68)
  obtain rfl := h78
  refine .q .ro (.idxR s0 rfl rfl (drop_idx g68) sl27 ty9.sz) rfl ?_;refine .q .ro (.load_rp p77 List.mem_cons_self rfl ty9 rfl) rfl ?_;refine .av rfl rfl ?_;refine .av rfl rfl ?_;refine .re ?_;refine .seq ?_;refine .region rfl ?_;refine .mv rfl rfl ?_
  obtain ⟨u79, hu79, r80⟩ := bind_some r73; clear r73
  refine .callS (b1 := []) (b2 := []) (s1 := []) [_] [] .ro rfl rfl Tryz.call55 rfl rfl (fence_proper_c (G := G) List.mem_cons_self  hu79) rfl (fun v82 bo so h81 => ?_)
  obtain ⟨rfl, rfl, rfl⟩ := h81
  refine .same (bl' := []) (sl' := []) rfl rfl rfl ?_;refine .q .ro (.not rfl) rfl ?_;refine .mv rfl rfl ?_
  obtain ⟨u10, h11, r12⟩ := bind_some r80; clear r80
  refine .cutR 12 (β := Unit) (fun y => [(27, .bool u10)]) [(7, _), (0, _), (5, _), (6, _)] (fun y => G :: Fs) (fun y => []) [] (fun y => []) [] (fun y => True) ⟨rfl, rfl, rfl, rfl, trivial⟩ [] rfl [] rfl ?_ ?_
  ·rintro _ _
   refine .prune [(27, .bool u10), (7, _), (0, _), (5, _), (6, _)] ⟨rfl, rfl, rfl, rfl, rfl, trivial⟩ ?_;refine .same (bl' := []) (sl' := []) (Fs' := G :: Fs) rfl rfl rfl ?_;refine .re ?_
   refine .cond rfl (fun c13 => ?_) (fun c13 => ?_)
   ·have r14 := ifT r12 c13; clear r12
    refine .seq ?_;refine .region rfl ?_;refine .av rfl rfl ?_;refine .re ?_
    cases r14
    refine .retS (c := ⟨59, none⟩) (.inr ⟨_, rfl⟩) [.tmp 2] [_] rfl Tryz.func59 Tryz.results59 ⟨RV.tmp rfl, trivial⟩ mcm ⟨rfl, rfl, rfl⟩
   ·have r15 := ifBF r12 c13; clear r12
    refine .skip ?_;refine .inBlock ?_;refine .region rfl ?_;refine .q .ro (.addw rfl rfl) rfl ?_;refine .mv rfl rfl ?_;refine .re ?_
    refine .prune _ ?_ (Cov.same rfl rfl rfl (hb70 ((i66 + 1), xs75) ⟨(drop_succ g68), r15⟩ (Nat.lt_succ_self _)))
    exact ⟨(congrArg (fun z => some (Value.int .i64 z)) (idx_wrap (SlR.len s0) g68)), rfl, rfl, rfl, trivial⟩
  ·intro hb16
   refine .split_b 15 rfl (fun c17 => ?_) (fun c17 => ?_)
   ·have r18 := ifT h11 c17
    refine .g_off rfl rfl rfl ?_;refine .g_off rfl rfl rfl ?_;refine .g_off rfl rfl rfl ?_;refine .gu_off rfl rfl ?_;refine .gu_off rfl rfl ?_;refine .gu_off rfl rfl ?_;refine .gu_off rfl rfl ?_;refine .gu_off rfl rfl ?_;refine .gu_off rfl rfl ?_
    refine .gu_off rfl rfl ?_;refine .g_off rfl rfl rfl ?_;refine .q .ro (.pick_t rfl rfl) rfl ?_
    refine .prune _ ?_ (Cov.same rfl rfl rfl (hb16 () trivial))
    exact ⟨sval r18, rfl, rfl, rfl, rfl, trivial⟩
   ·have r19 := ifBF h11 c17
    refine .g_on rfl ?_;refine .mv rfl rfl ?_;refine .g_on rfl ?_;refine .q .ro (.gtr rfl rfl) rfl ?_;refine .g_on rfl ?_;refine .mv rfl rfl ?_
    obtain ⟨u20, h21, r22⟩ := bind_some r19; clear r19
    refine .cutR 8 (β := Unit) (fun y => [(26, .bool u20)]) [(7, _), (0, _), (5, _), (6, _), (15, _), (16, _), (17, _)] (fun y => G :: Fs) (fun y => []) [] (fun y => []) [] (fun y => True) ⟨rfl, rfl, rfl, rfl, rfl, rfl, rfl, trivial⟩ [] rfl [] rfl ?_ ?_
    ·rintro _ _
     refine .prune [(26, .bool u20), (7, _), (0, _), (5, _), (6, _), (15, _), (16, _), (17, _)] ⟨rfl, rfl, rfl, rfl, rfl, rfl, rfl, rfl, trivial⟩ ?_;refine .same (bl' := []) (sl' := []) (Fs' := G :: Fs) rfl rfl rfl ?_;refine .q .ro (.pick_f rfl rfl) rfl ?_
     refine .prune _ ?_ (Cov.same rfl rfl rfl (hb16 () trivial))
     exact ⟨sval r22, rfl, rfl, rfl, rfl, trivial⟩
    ·intro hb23
     refine .split 18 rfl (fun c24 => ?_) (fun c24 => ?_)
     ·have r25 := ifT h21 c24
      refine .g_on rfl ?_;refine .mv rfl rfl ?_;refine .g_on rfl ?_;refine .mv rfl rfl ?_;refine .g_on rfl ?_;refine .mv rfl rfl ?_;refine .g_on rfl ?_;refine .q .ro (.subw rfl rfl) rfl ?_;refine .g_on rfl ?_
      obtain ⟨u26, hu26, r28⟩ := bind_some r25; clear r25
      obtain ⟨c29, p30, h31⟩ := SlR.get s0 hu26
      obtain rfl := h31
      refine .q .ro (.idxR s0 rfl rfl hu26 sl27 ty9.sz) rfl ?_;refine .g_on rfl ?_;refine .q .ro (.load_rp p30 List.mem_cons_self rfl ty9 rfl) rfl ?_;refine .g_on rfl ?_;refine .q .ro (.leq_d rfl rfl) rfl ?_;refine .g_on rfl ?_;refine .q .ro (.pick_t rfl rfl) rfl ?_
      refine .prune _ ?_ (Cov.same rfl rfl rfl (hb23 () trivial))
      exact ⟨sval r28, rfl, rfl, rfl, rfl, rfl, rfl, rfl, trivial⟩
     ·have r32 := ifF h21 c24
      refine .g_off rfl rfl rfl ?_;refine .g_off rfl rfl rfl ?_;refine .g_off rfl rfl rfl ?_;refine .g_off rfl rfl rfl ?_;refine .g_off rfl rfl rfl ?_;refine .g_off rfl rfl rfl ?_;refine .g_off rfl rfl rfl ?_;refine .g_on rfl ?_;refine .q .ro (.pick_f rfl rfl) rfl ?_
      refine .prune _ ?_ (Cov.same rfl rfl rfl (hb23 () trivial))
      exact ⟨sval r32, rfl, rfl, rfl, rfl, rfl, rfl, rfl, trivial⟩
theorem fence_Check_c {Fs : List Hp} {G : Hp} {x0_0 : Int} {a0_1 : Option Addr} {k0_1 : Nat} {x0_1 : List ByteArray} {r : Int} (hG : G ∈ Fs) (s0_1 : SlR Rep.str G a0_1 k0_1 x0_1) (h : fence_Check (x0_0, x0_1) = some r) : RetS Tryz.prog 52 #[.agg #[.int .i64 x0_0, .slice a0_1 x0_1.length k0_1]] Fs [] [] (fun v bo so => v = .int .i64 r ∧ bo = [] ∧ so = []) := by
 unfold fence_Check at h
 try dsimp only at h
 refine RetS.of (vs := [_]) Tryz.func52 rfl Tryz.ntmps52 [(0, _)] ⟨rfl, trivial⟩ rfl hG fun w0 S0 hS0 B0 => ?_
 refine .seq ?_;refine .region rfl ?_
 refine .box [_, _] .ro rfl rfl rfl (fun b1 hb1 => ?_)
 refine .av rfl rfl ?_;refine .re ?_;refine .seq ?_;refine .seq ?_;refine .region rfl ?_;refine .q .ro (.fieldAddr 0 rfl fl29_0 ty3.sz rfl) rfl ?_;refine .q .ro (.load_own 0 rfl rfl ty3 rfl) rfl ?_
 obtain ⟨u2, hu2, r3⟩ := bind_some h; clear h
 refine .callS (b1 := []) (b2 := [_]) (s1 := []) [_] [] .ro rfl rfl Tryz.call54 rfl rfl (fence_sized_c (G := G) List.mem_cons_self  hu2) rfl (fun v5 bo so h4 => ?_)
 obtain ⟨rfl, rfl, rfl⟩ := h4
 refine .same (bl' := [_]) (sl' := []) rfl rfl rfl ?_;refine .q .ro (.not rfl) rfl ?_;refine .mv rfl rfl ?_;refine .cutR 5 (β := Unit) (fun y => [(12, .bool (decide (((!u2) = true) ∨ ((x0_1.length : Int) < 1))))]) [(1, _)] (fun y => G :: Fs) (fun y => []) [_] (fun y => []) [] (fun y => True) ⟨rfl, trivial⟩ [0] rfl [] rfl ?_ ?_
 ·rintro _ _
  refine .prune [(12, .bool (decide (((!u2) = true) ∨ ((x0_1.length : Int) < 1)))), (1, _)] ⟨rfl, rfl, trivial⟩ ?_;refine .same (bl' := [_]) (sl' := []) (Fs' := G :: Fs) rfl rfl rfl ?_;refine .mv rfl rfl ?_;refine .cutR 5 (β := Unit) (fun y => [(18, .bool (decide ((((!u2) = true) ∨ ((x0_1.length : Int) < 1)) ∨ (256 < (x0_1.length : Int)))))]) [(1, _)] (fun y => G :: Fs) (fun y => []) [_] (fun y => []) [] (fun y => True) ⟨rfl, trivial⟩ [0] rfl [] rfl ?_ ?_
  ·rintro _ _
   refine .prune [(18, .bool (decide ((((!u2) = true) ∨ ((x0_1.length : Int) < 1)) ∨ (256 < (x0_1.length : Int))))), (1, _)] ⟨rfl, rfl, trivial⟩ ?_;refine .same (bl' := [_]) (sl' := []) (Fs' := G :: Fs) rfl rfl rfl ?_;refine .mv rfl rfl ?_
   obtain ⟨u20, h21, r22⟩ := bind_some r3; clear r3
   refine .cutR 5 (β := Unit) (fun y => [(24, .bool u20)]) [] (fun y => G :: Fs) (fun y => []) [_] (fun y => []) [] (fun y => True) trivial [0] rfl [] rfl ?_ ?_
   ·rintro _ _
    refine .prune [(24, .bool u20)] ⟨rfl, trivial⟩ ?_;refine .same (bl' := [_]) (sl' := []) (Fs' := G :: Fs) rfl rfl rfl ?_;refine .re ?_
    refine .cond rfl (fun c25 => ?_) (fun c25 => ?_)
    ·have r26 := ifT r22 c25; clear r22
     refine .seq ?_;refine .region rfl ?_;refine .av rfl rfl ?_;refine .re ?_
     cases r26
     refine .drop 1 0 [] _ rfl rfl ?_
     refine .retS (c := ⟨52, none⟩) (.inr ⟨_, rfl⟩) [.tmp 2] [_] rfl Tryz.func52 Tryz.results52 ⟨RV.tmp rfl, trivial⟩ mcm ⟨rfl, rfl, rfl⟩
    ·have r27 := ifBF r22 c25; clear r22
     refine .skip ?_;refine .seq ?_;refine .region rfl ?_;refine .av rfl rfl ?_;refine .re ?_
     cases r27
     refine .drop 1 0 [] _ rfl rfl ?_
     refine .retS (c := ⟨52, none⟩) (.inr ⟨_, rfl⟩) [.tmp 2] [_] rfl Tryz.func52 Tryz.results52 ⟨RV.tmp rfl, trivial⟩ mcm ⟨rfl, rfl, rfl⟩
   ·intro hb19
    refine .split 19 rfl (fun c18 => ?_) (fun c18 => ?_)
    ·have r28 := ifT h21 c18
     refine .g_off rfl rfl rfl ?_;refine .g_off rfl rfl rfl ?_;refine .g_off rfl rfl rfl ?_;refine .g_off rfl rfl rfl ?_;refine .q .ro (.pick_t rfl rfl) rfl ?_
     refine .prune _ ?_ (Cov.same rfl rfl rfl (hb19 () trivial))
     exact ⟨sval r28, trivial⟩
    ·have r29 := ifF h21 c18
     refine .g_on rfl ?_;refine .q .ro (.fieldAddr 1 rfl fl29_1 ty27.sz rfl) rfl ?_;refine .g_on rfl ?_;refine .q .ro (.load_own 0 rfl rfl ty27 rfl) rfl ?_;refine .g_on rfl ?_
     obtain ⟨u30, hu30, r31⟩ := bind_some r29; clear r29
     refine .callS (b1 := []) (b2 := [_]) (s1 := []) [_] [] .ro rfl rfl Tryz.call59 rfl rfl (fence_ascend_c (G := G) List.mem_cons_self s0_1 hu30) rfl (fun v33 bo so h32 => ?_)
     obtain ⟨rfl, rfl, rfl⟩ := h32
     refine .same (bl' := [_]) (sl' := []) rfl rfl rfl ?_;refine .g_on rfl ?_;refine .q .ro (.not rfl) rfl ?_;refine .q .ro (.pick_f rfl rfl) rfl ?_
     refine .prune _ ?_ (Cov.same rfl rfl rfl (hb19 () trivial))
     exact ⟨sval r31, trivial⟩
  ·intro hb11
   refine .split 13 rfl (fun c10 => ?_) (fun c10 => ?_)
   ·refine .g_off rfl rfl rfl ?_
    refine .g_off rfl rfl rfl ?_;refine .g_off rfl rfl rfl ?_;refine .g_off rfl rfl rfl ?_;refine .q .ro (.pick_t rfl rfl) rfl ?_
    refine .prune _ ?_ (Cov.same rfl rfl rfl (hb11 () trivial))
    exact ⟨dor_t c10, rfl, trivial⟩
   ·refine .g_on rfl ?_
    refine .q .ro (.fieldAddr 1 rfl fl29_1 ty27.sz rfl) rfl ?_;refine .g_on rfl ?_;refine .q .ro (.load_own 0 rfl rfl ty27 rfl) rfl ?_;refine .g_on rfl ?_;refine .q .ro (.len_sl rfl rfl sl27) rfl ?_;refine .g_on rfl ?_;refine .q .ro (.gtr rfl rfl) rfl ?_;refine .q .ro (.pick_f rfl rfl) rfl ?_
    refine .prune _ ?_ (Cov.same rfl rfl rfl (hb11 () trivial))
    exact ⟨dor_f c10, rfl, trivial⟩
 ·intro hb7
  refine .split_b 7 rfl (fun c6 => ?_) (fun c6 => ?_)
  ·refine .g_off rfl rfl rfl ?_
   refine .g_off rfl rfl rfl ?_;refine .g_off rfl rfl rfl ?_;refine .g_off rfl rfl rfl ?_;refine .q .ro (.pick_t rfl rfl) rfl ?_
   refine .prune _ ?_ (Cov.same rfl rfl rfl (hb7 () trivial))
   exact ⟨dor_t c6, rfl, trivial⟩
  ·refine .g_on rfl ?_
   refine .q .ro (.fieldAddr 1 rfl fl29_1 ty27.sz rfl) rfl ?_;refine .g_on rfl ?_;refine .q .ro (.load_own 0 rfl rfl ty27 rfl) rfl ?_;refine .g_on rfl ?_;refine .q .ro (.len_sl rfl rfl sl27) rfl ?_;refine .g_on rfl ?_;refine .q .ro (.lss rfl rfl) rfl ?_;refine .q .ro (.pick_f rfl rfl) rfl ?_
   refine .prune _ ?_ (Cov.same rfl rfl rfl (hb7 () trivial))
   exact ⟨dor_f (bne_of c6), rfl, trivial⟩
theorem slices_Clone_Lstringstring_c {Fs : List Hp} {G : Hp} {a0 : Option Addr} {k0 : Nat} {x0 : List ByteArray} {r : (List ByteArray)} (hG : G ∈ Fs) (s0 : SlR Rep.str G a0 k0 x0) (h : slices_Clone_Lstringstring x0 = some r) : RetS Tryz.prog 115 #[.slice a0 x0.length k0] Fs [] [] (fun v bo so => ∃ (oa0 : Option Addr) (ok0 : Nat) (oc0 : List Value), v = .slice oa0 r.length ok0 ∧ bo = [] ∧ so = [.s (.slice oa0 r.length ok0) 9 1 r.length oc0] ∧ OL Rep.str G oc0 r) := by
 unfold slices_Clone_Lstringstring at h
 try dsimp only at h
 refine RetS.of (vs := [_]) Tryz.func115 rfl Tryz.ntmps115 [(0, _)] ⟨rfl, trivial⟩ rfl hG fun w0 S0 hS0 B0 => ?_
 refine .seq ?_;refine .region rfl ?_;refine .av rfl rfl ?_;refine .re ?_;refine .seq ?_;refine .seq ?_;refine .region rfl ?_;refine .mv rfl rfl ?_;refine .q .ro (.eqnil Tryz.underlying27 rfl rfl) rfl ?_
 refine .re ?_
 refine .cond rfl (fun c1 => ?_) (fun _ => ?_)
 ·have h2 := SlR.isnil s0 c1
  refine .seq ?_;refine .region rfl ?_;refine .av rfl rfl ?_;refine .re ?_;refine .own_nil 9 1 ?_
  obtain rfl := nil_clone h2 h
  refine .retS (c := ⟨115, none⟩) (.inr ⟨_, rfl⟩) [.tmp 2] [_] rfl Tryz.func115 Tryz.results115 ⟨RV.tmp rfl, trivial⟩ mcm ⟨none, 0, [], rfl, rfl, rfl, (OL.nil (Rp' := Rep.str))⟩
 ·refine .skip ?_
  refine .seq ?_;refine .region rfl ?_
  refine .lit [] [] .ro sl27 ty9 rfl rfl rfl rfl rfl rfl (fun b4 hb4 => ?_)
  have o5 : OL Rep.str G [] ([] : List ByteArray) := ((OL.nil (Rp' := Rep.str)) :)
  refine .reval 5 (n' := ([] : List ByteArray).length) rfl rfl ?_;refine .mv rfl rfl ?_
  obtain ⟨u11, hu11, r12⟩ := bind_some h; clear h
  refine .appR (Q := Rep.str) 0 .ro sl27 ty9 rfl rfl rfl rfl rfl o5 rfl rfl s0 rfl List.mem_cons_self hu11 rfl (fun a7 k8 cs9 o10 => ?_)
  refine .av rfl rfl ?_;refine .re ?_
  cases r12
  refine .retS (c := ⟨115, none⟩) (.inr ⟨_, rfl⟩) [.tmp 2] [_] rfl Tryz.func115 Tryz.results115 ⟨RV.tmp rfl, trivial⟩ mcm ⟨a7, k8, cs9, rfl, rfl, rfl, o10⟩
theorem slices_Chunk_Lstringstring_f1_i {Fs : List Hp} {G : Hp} {p1 : Value} {a1 : Option Addr} {k1 : Nat} {x1 : List ByteArray} {p2 : Value} {x2 : Int} {l : (List (List ByteArray))} (hG : G ∈ Fs) (hp1 : Rp G p1 [.slice a1 x1.length k1]) (s1 : SlR Rep.str G a1 k1 x1) (hp2 : Rp G p2 [.int .i64 x2]) (h : slices_Chunk_Lstringstring_f1 x1 x2 = some l) : IterX Tryz.prog 147 [p1, p2] Fs l.length (fun i v => ∃ x, l[i]? = some x ∧ (Yr.v (Rep.sl Rep.str)).r G v x) := by
 unfold slices_Chunk_Lstringstring_f1 at h
 try dsimp only at h
 intro y 𝒢 ℰ R0 hy hR0
 refine RetG.of (vs := [_, _, _]) Tryz.func147 rfl Tryz.ntmps147 [(0, _), (1, _), (2, _)] ⟨rfl, rfl, rfl, trivial⟩ rfl fun w0 => Cov.dup hG ?_
 have B0 : Bd w0 (blks [] [.g R0]) Fs G := Bd.fin hG
 generalize hS0 : blks [] [.g R0] = S0 at B0 ⊢
 replace h : _ = some (List.drop 0 l) := h
 refine .seq ?_;refine .region rfl ?_;refine .av rfl rfl ?_;refine .re ?_;refine .block ?_
 refine .loop2 (α := Nat × Guest × Nat × Int) (fun y => [(4, .int .i64 y.2.2.2)]) [(0, _), (1, _), (2, _)] (fun y => []) (fun y => []) [] (fun y => [.g y.2.1]) [] (fun y => 𝒢 y.2.2.1 y.2.1 ∧ y.2.2.1 ≤ l.length ∧ slices_Chunk_Lstringstring_f1_L1 x1 x2 y.1 y.2.2.2 = some (List.drop y.2.2.1 l)) (fun y => y.1) (big, R0, 0, 0) ⟨hR0, (Nat.zero_le _), h⟩ ⟨rfl, rfl, rfl, rfl, trivial⟩ rfl rfl rfl (fun y hI hb32 => ?_)
 obtain ⟨n24, R26, i27, v30⟩ := y
 obtain ⟨hR28, le29, r31⟩ := hI
 try dsimp only at hR28 le29 r31
 refine .prune [(4, .int .i64 v30), (0, _), (1, _), (2, _)] ⟨rfl, rfl, rfl, rfl, trivial⟩ ?_;refine .same (bl' := []) (sl' := [.g R26]) (Fs' := G :: Fs) rfl rfl rfl ?_
 obtain ⟨m36, rfl⟩ : ∃ m, n24 = m + 1 := by cases n24 with | zero => exact absurd (show (none : Option _) = some _ from r31) (by simp) | succ m => exact ⟨m, rfl⟩
 have r35 : slices_Chunk_Lstringstring_f1_B1 x1 x2 (slices_Chunk_Lstringstring_f1_L1 x1 x2 m36) v30 = some (List.drop i27 l) := r31; clear r31; unfold slices_Chunk_Lstringstring_f1_B1 at r35; try dsimp only at r35
 refine .seq ?_;refine .seq ?_;refine .region rfl ?_;refine .mv rfl rfl ?_;refine .q .ro (.load_rp hp1 List.mem_cons_self rfl ty27 rfl) rfl ?_;refine .q .ro (.len_sl rfl rfl sl27) rfl ?_;refine .q .ro (.lss rfl rfl) rfl ?_;refine .re ?_
 refine .cond_dec rfl (fun c37 => ?_) (fun c37 => ?_)
 ·have r38 := ifT r35 c37; clear r35
  refine .skip ?_;refine .seq ?_;refine .block ?_;refine .seq ?_;refine .drawL (.q 0 (.q 1 (.q 2 (.q 3 (.q 4 (.q 5 (.q 6 .nil))))))) [] (by kernel_rfl) (by kernel_rfl) (pick_mem [] rfl) ?_;refine .dq (.load_rp hp2 List.mem_cons_self rfl ty3 rfl) rfl ?_;refine .dq (.load_rp hp1 List.mem_cons_self rfl ty27 rfl) rfl ?_;refine .dq (.move rfl) rfl ?_
  obtain ⟨u39, hu39, r40⟩ := bind_some r38; clear r38
  obtain ⟨a41, k42, h43, s44⟩ := SlR.sub s1 hu39
  refine .dq (.sliceR s1 rfl hu39 sl27 ty9.sz (fun h => .yes' rfl h) (fun _ => .no) h43) rfl ?_;refine .dq (.len_sl rfl rfl sl27) rfl ?_;refine .dq (.min2 rfl rfl) rfl ?_;refine .dq (.assign rfl) rfl ?_;refine .draw_end ?_;refine .seq ?_;refine .region rfl ?_;refine .mv rfl rfl ?_;refine .q .ro (.load_rp hp1 List.mem_cons_self rfl ty27 rfl) rfl ?_
  refine .mv rfl rfl ?_;refine .mv rfl rfl ?_;refine .mv rfl rfl ?_;refine .q .ro (.addw rfl rfl) rfl ?_;refine .mv rfl rfl ?_;refine .mv rfl rfl ?_;refine .q .ro (.addw rfl rfl) rfl ?_
  obtain ⟨u45, hu45, r46⟩ := bind_some r40; clear r40
  obtain ⟨a47, k48, h49, s50⟩ := SlR.sub3 s1 hu45
  refine .q .ro (.sliceR3 s1 rfl hu45 sl27 ty9.sz rfl rfl rfl h49) rfl ?_
  obtain ⟨h51, r52⟩ := yc_some r46; clear r46
  refine .yieldX hy ⟨_, h51, ⟨_, rfl, ((Rep.slI s50) :)⟩⟩ hR28 mcm rfl rfl rfl (fun R53 hR54 => ?_) (fun R55 hE56 => ?_)
  ·refine .q .ro (.not_t rfl) rfl ?_
   refine .re ?_;refine .prune [(4, _), (0, _), (1, _), (2, _), (30, _)] ⟨rfl, rfl, rfl, rfl, rfl, trivial⟩ ?_;refine .cond_false rfl ?_;refine .skip ?_;refine .inBlock ?_;refine .region rfl ?_;refine .mv rfl rfl ?_;refine .q .ro (.load_rp hp2 List.mem_cons_self rfl ty3 rfl) rfl ?_;refine .q .ro (.addw rfl rfl) rfl ?_
   refine .av rfl rfl ?_;refine .re ?_
   refine .prune _ ?_ (Cov.same rfl rfl rfl (hb32 (m36, R53, (i27 + 1), (w64 (v30 + x2))) ⟨hR54, (yc_le h51), r52⟩ (Nat.lt_succ_self _)))
   exact ⟨rfl, rfl, rfl, rfl, trivial⟩
  ·refine .q .ro (.not_f rfl) rfl ?_
   refine .re ?_;refine .prune [(4, _), (0, _), (1, _), (2, _), (30, _)] ⟨rfl, rfl, rfl, rfl, rfl, trivial⟩ ?_;refine .cond_true rfl ?_
   refine .leave (c := ⟨147, none⟩) (.inr ⟨_, rfl⟩) [] [] rfl Tryz.func147 Tryz.results147 trivial mcm (.inl rfl) (fresh_emp _) ⟨rfl, R55, .inr hE56, rfl⟩
 ·have r57 := ifF r35 c37; clear r35
  refine .exit rfl ?_
  have hi := yc_end r57 le29
  refine .leave (c := ⟨147, none⟩) (.inl rfl) [] [] rfl Tryz.func147 Tryz.results147 trivial mcm (.inl rfl) (fresh_emp _) ⟨rfl, R26, .inl (hi ▸ hR28), rfl⟩
theorem slices_Chunk_Lstringstring_c {Fs : List Hp} {G : Hp} {a0 : Option Addr} {k0 : Nat} {x0 : List ByteArray} {x1 : Int} {r : (List (List ByteArray))} (hG : G ∈ Fs) (s0 : SlR Rep.str G a0 k0 x0) (h : slices_Chunk_Lstringstring x0 x1 = some r) : RetW Tryz.prog 116 #[.slice a0 x0.length k0, .int .i64 x1] Fs [] [] (fun v bo so G => ∃ (Fi0 : FuncId) (ci0 : List Value), v = .func (.func Fi0) #[] ci0.toArray ∧ bo = [] ∧ so = [] ∧ (∀ args w, (callFunc Fi0 args).run Tryz.prog w = .ok (.enter Fi0 args) w) ∧ IterRX Tryz.prog (Yr.v (Rep.sl Rep.str)) Fi0 ci0 G r) := by
 unfold slices_Chunk_Lstringstring at h
 try dsimp only at h
 refine RetW.of (vs := [_, _]) Tryz.func116 rfl Tryz.ntmps116 [(0, _), (1, _)] ⟨rfl, rfl, trivial⟩ rfl hG fun w0 S0 hS0 B0 => ?_
 refine .seq ?_;refine .region rfl ?_
 refine .box [_] .ro rfl rfl rfl (fun b1 hb1 => ?_)
 refine .box [_] .ro rfl rfl rfl (fun b2 hb2 => ?_)
 refine .av rfl rfl ?_;refine .re ?_;refine .seq ?_;refine .seq ?_;refine .region rfl ?_;refine .q .ro (.load_own 0 rfl rfl ty3 rfl) rfl ?_;refine .q .ro (.lss rfl rfl) rfl ?_;refine .re ?_;refine .cutI (β := Unit) (fun y => []) [(2, _), (3, _)] (fun y => G :: Fs) (fun y => []) [_, _] (fun y => []) [] (fun y => (slices_Chunk_Lstringstring_J1 x1 x0)  = some r) ⟨rfl, rfl, trivial⟩ [0, 1] rfl [] rfl ?_ ?_
 ·intro _ hI
  have r8 := hI; clear hI
  refine .prune [(2, _), (3, _)] ⟨rfl, rfl, trivial⟩ ?_;refine .same (bl' := [_, _]) (sl' := []) (Fs' := G :: Fs) rfl rfl rfl ?_
  unfold slices_Chunk_Lstringstring_J1 at r8
  try dsimp only at r8
  refine .seq ?_;refine .region rfl ?_;refine .q .ro (.makeFunc (vf := []) (vc := [_, _]) rfl rfl) rfl ?_;refine .av rfl rfl ?_;refine .re ?_
  refine .freezeBR 1 rfl [_] rfl B0 (fun G11 e12 B13 p14 => ?_)
  refine .freezeBR 0 rfl [] rfl B13 (fun G16 e17 B18 p19 => ?_)
  obtain ⟨u21, hu21, r22⟩ := bind_some r8; clear r8
  cases r22
  refine .retW (c := ⟨116, none⟩) (.inr ⟨_, rfl⟩) [.tmp 4] [_] rfl Tryz.func116 Tryz.results116 ⟨RV.tmp rfl, trivial⟩ mcm List.mem_cons_self B18 (by subst hS0; simp [blks]) (fun G' hg => ⟨_, _, rfl, rfl, rfl, Tryz.call147, (fun Fs' G1 hle hm => slices_Chunk_Lstringstring_f1_i (G := G1) hm (Rp.mono (HpLe.trans hg hle) (Rp.mono e17 p14)) (SlR.mono (HpLe.trans hg hle) (SlR.mono (HpLe.trans e12 e17) s0)) (Rp.mono (HpLe.trans hg hle) p19) hu21)⟩)
 ·intro hb23
  refine .cond_dec rfl (fun c24 => ?_) (fun c24 => ?_)
  ·have r25 := ifT h c24; clear h
   refine .region rfl ?_
   exact absurd r25 (by simp)
  ·have r26 := ifF h c24; clear h
   refine .skip ?_
   refine .prune _ ?_ (Cov.same rfl rfl rfl (hb23 () r26))
   exact ⟨rfl, rfl, trivial⟩
theorem fence_levels_c {Fs : List Hp} {G : Hp} {x0_0 : Int} {a0_1 : Option Addr} {k0_1 : Nat} {x0_1 : List ByteArray} {r : (List (List ByteArray))} (hG : G ∈ Fs) (s0_1 : SlR Rep.str G a0_1 k0_1 x0_1) (h : fence_levels (x0_0, x0_1) = some r) : RetW Tryz.prog 53 #[.agg #[.int .i64 x0_0, .slice a0_1 x0_1.length k0_1]] Fs [] [] (fun v bo so G => ∃ (oa0 : Option Addr) (ok0 : Nat) (oc0 : List Value), v = .slice oa0 r.length ok0 ∧ bo = [] ∧ so = [.s (.slice oa0 r.length ok0) 27 1 r.length oc0] ∧ OL (Rep.sl Rep.str) G oc0 r) := by
 unfold fence_levels at h
 try dsimp only at h
 refine RetW.of (vs := [_]) Tryz.func53 rfl Tryz.ntmps53 [(0, _)] ⟨rfl, trivial⟩ rfl hG fun w0 S0 hS0 B0 => ?_
 refine .marks0 ?_;refine .seq ?_;refine .region rfl ?_
 refine .box [_, _] .ro rfl rfl rfl (fun b1 hb1 => ?_)
 refine .av rfl rfl ?_;refine .re ?_;refine .seq ?_;refine .region rfl ?_;refine .q .ro (.fieldAddr 1 rfl fl29_1 ty27.sz rfl) rfl ?_;refine .q .ro (.load_own 0 rfl rfl ty27 rfl) rfl ?_
 obtain ⟨u2, hu2, r3⟩ := bind_some h; clear h
 refine .callS (b1 := []) (b2 := [_]) (s1 := []) [_] [] .ro rfl rfl Tryz.call115 rfl rfl (slices_Clone_Lstringstring_c (G := G) List.mem_cons_self s0_1 hu2) rfl (fun v5 bo so h4 => ?_)
 obtain ⟨a7, k8, cs9, rfl, rfl, rfl, o10⟩ := h4
 refine .same (bl' := [_]) (sl' := [_, _]) rfl rfl rfl ?_
 refine .freezeR 0 rfl rfl o10 [_] rfl B0 (fun G11 e12 B13 s14 => ?_)
 refine .lit [_] [(0, _)] .ro sl32 ty27 rfl rfl rfl rfl rfl rfl (fun b16 hb16 => ?_)
 have o17 : OL (Rep.sl Rep.str) G11 [.slice a7 u2.length k8] ([u2] : List (List ByteArray)) := ((OL.cons rfl (Rep.slI s14) (OL.nil (Rp' := (Rep.sl Rep.str)))) :)
 refine .reval 10 (n' := ([u2] : List (List ByteArray)).length) rfl rfl ?_;refine .av rfl rfl ?_;refine .re ?_;refine .seq ?_;refine .seq ?_;refine .region rfl ?_;refine .q .ro (.fieldAddr 1 rfl fl29_1 ty27.sz rfl) rfl ?_;refine .q .ro (.load_own 0 rfl rfl ty27 rfl) rfl ?_;refine .av rfl rfl ?_
 refine .re ?_;refine .block ?_;refine .pullS 1 rfl [_, _] rfl ?_
 refine .loopD (β := Nat × Hp × MK × List (List ByteArray) × Option Addr × Nat × List Value × List ByteArray × Option Addr × Nat) (fun y => mks y.2.2.1.1) (fun y => [(3, .slice y.2.2.2.2.1 y.2.2.2.1.length y.2.2.2.2.2.1), (4, .slice y.2.2.2.2.2.2.2.2.1 y.2.2.2.2.2.2.2.1.length y.2.2.2.2.2.2.2.2.2)]) [(1, _)] (fun y => [y.2.1]) (fun y => []) [_] (fun y => [.g (marksG y.2.2.1), .s (.slice y.2.2.2.2.1 y.2.2.2.1.length y.2.2.2.2.2.1) 27 1 y.2.2.2.1.length y.2.2.2.2.2.2.1]) [] (fun y => HpLe G11 y.2.1 ∧ Bd w0 S0 Fs y.2.1 ∧ OL (Rep.sl Rep.str) y.2.1 y.2.2.2.2.2.2.1 y.2.2.2.1 ∧ SlR Rep.str y.2.1 y.2.2.2.2.2.2.2.2.1 y.2.2.2.2.2.2.2.2.2 y.2.2.2.2.2.2.2.1 ∧ fence_levels_L3 x0_0 y.1 y.2.2.2.1 y.2.2.2.2.2.2.2.1 = some r) (fun y => y.1) (big, G11, mk0, ([u2] : List (List ByteArray)), (some ⟨b16, 0, none⟩), 1, [.slice a7 u2.length k8], x0_1, a0_1, k0_1) ⟨(HpLe.refl _), B13, o17, (SlR.mono e12 s0_1), r3⟩ rfl ⟨rfl, rfl, rfl, trivial⟩ rfl rfl rfl (fun y hI hb15 => ?_)
 obtain ⟨n18, G19, mk20, v21, a22, k23, cs24, v25, a26, k28⟩ := y
 obtain ⟨e30, B31, o33, s34, r35⟩ := hI
 try dsimp only at e30 B31 o33 s34 r35
 refine .prune [(3, .slice a22 v21.length k23), (4, .slice a26 v25.length k28), (1, _)] ⟨rfl, rfl, rfl, trivial⟩ ?_;refine .same (bl' := [_]) (sl' := [.g (marksG mk20), .s (.slice a22 v21.length k23) 27 1 v21.length cs24]) (Fs' := G19 :: Fs) rfl rfl rfl ?_
 obtain ⟨m36, rfl⟩ : ∃ m, n18 = m + 1 := by cases n18 with | zero => exact absurd (show (none : Option _) = some _ from r35) (by simp) | succ m => exact ⟨m, rfl⟩
 have r37 : fence_levels_B3 x0_0 (fence_levels_L3 x0_0 m36) v21 v25 = some r := r35; clear r35; unfold fence_levels_B3 at r37; try dsimp only at r37
 refine .seq ?_;refine .seq ?_;refine .region rfl ?_;refine .mv rfl rfl ?_;refine .q .ro (.len_sl rfl rfl sl27) rfl ?_;refine .q .ro (.fieldAddr 0 rfl fl29_0 ty3.sz rfl) rfl ?_;refine .q .ro (.load_own 0 rfl rfl ty3 rfl) rfl ?_;refine .q .ro (.gtr rfl rfl) rfl ?_;refine .re ?_
 refine .cond_dec rfl (fun c38 => ?_) (fun c38 => ?_)
 ·have r39 := ifT r37 c38; clear r37
  refine .skip ?_;refine .block ?_;refine .seq ?_;refine .region rfl ?_
  refine .alloc .ro ty27 rfl (fun b40 hb40 => ?_)
  refine .re ?_;refine .seq ?_;refine .seq ?_;refine .region rfl ?_;refine .mv rfl rfl ?_;refine .q .ro (.fieldAddr 0 rfl fl29_0 ty3.sz rfl) rfl ?_;refine .q .ro (.load_own 1 rfl rfl ty3 rfl) rfl ?_
  obtain ⟨u41, hu41, r42⟩ := bind_some r39; clear r39
  refine .callW (b1 := []) (b2 := [_, _]) (s1 := []) [_, _] [] .ro rfl rfl Tryz.call116 rfl rfl (slices_Chunk_Lstringstring_c (G := G19) List.mem_cons_self s34 hu41) rfl B31 (fun v43 bo so G44 e45 B46 h47 => ?_)
  obtain ⟨F48, c49, rfl, rfl, rfl, hc50, hi51⟩ := h47
  refine .same (bl' := [_, _]) (sl' := [_, _]) rfl rfl rfl ?_;refine .re ?_;refine .cutBD (β := MK × List ByteArray × Option Addr × Nat × List Value) (fun y => mks y.1.1) (fun y => []) [(3, _), (1, _), (5, _)] (fun y => G44 :: Fs) (fun y => [(b40, .cells #[.slice y.2.2.1 y.2.1.length y.2.2.2.1] 27 (0, 0))]) [_] (fun y => [.g (marksG y.1), .s (.slice y.2.2.1 y.2.1.length y.2.2.2.1) 9 1 y.2.1.length y.2.2.2.2]) [_] (fun y => OL Rep.str G44 y.2.2.2.2 y.2.1 ∧ (fence_levels_J1 (fence_levels_L3 x0_0 m36) v21) y.2.1 = some r) ⟨rfl, rfl, rfl, trivial⟩ [1] rfl [1] rfl ?_ ?_
  ·intro y hI
   obtain ⟨mk52, v54, a55, k56, cs57⟩ := y
   obtain ⟨o58, r59⟩ := hI
   try dsimp only at o58 r59
   refine .prune [(3, _), (1, _), (5, _)] ⟨rfl, rfl, rfl, trivial⟩ ?_;refine .same (bl' := [(b40, .cells #[.slice a55 v54.length k56] 27 (0, 0)), _]) (sl' := [.g (marksG mk52), .s (.slice a55 v54.length k56) 9 1 v54.length cs57, _]) (Fs' := G44 :: Fs) rfl rfl rfl ?_
   unfold fence_levels_J1 at r59
   try dsimp only at r59
   refine .drawL (.q 0 (.q 1 (.q 4 (.e 2 1 (.e 3 1 (.q 5 (.q 6 .nil))))))) [_, _] (by kernel_rfl) (by kernel_rfl) (pick_mem [0, 1] rfl) ?_;refine .dq (.move rfl) rfl ?_;refine .dq (.load_own 0 rfl rfl ty27 rfl) rfl ?_;refine .dq (.load_own 0 rfl rfl ty27 rfl) rfl ?_
   refine .freezeR 1 rfl rfl o58 [_, _] rfl B46 (fun G60 e61 B62 s63 => ?_)
   refine .lit [_] [(0, _)] .d1 sl32 ty27 rfl rfl rfl rfl rfl rfl (fun b65 hb65 => ?_)
   have o66 : OL (Rep.sl Rep.str) G60 [.slice a55 v54.length k56] ([v54] : List (List ByteArray)) := ((OL.cons rfl (Rep.slI s63) (OL.nil (Rp' := (Rep.sl Rep.str)))) :)
   refine .reval 31 (n' := ([v54] : List (List ByteArray)).length) rfl rfl ?_;refine .clsL e61 (pick_mem [0, 1] rfl) ?_
   obtain ⟨u67, hu67, r68⟩ := bind_some r59; clear r59
   refine .appO (Q := (Rep.sl Rep.str)) 1 .d1 sl32 ty27 rfl rfl rfl rfl rfl rfl (OL.mono (HpLe.trans e45 e61) o33) o66 rfl rfl rfl B62 hu67 rfl (fun a69 k70 cs71 o72 => ?_)
   refine .clsL e61 (pick_mem [0, 1] rfl) ?_;refine .dq (.assign rfl) rfl ?_;refine .dq (.assign rfl) rfl ?_;refine .draw_end ?_;refine .inBlock ?_;refine .drop 1 0 [_] _ rfl rfl ?_
   refine .prune _ ?_ (Cov.same rfl rfl rfl (hb15 (m36, G60, mk52, u67, a69, k70, cs71, v54, a55, k56) ⟨(HpLe.trans (HpLe.trans e30 e45) e61), B62, o72, s63, r68⟩ (Nat.lt_succ_self _)))
   exact ⟨rfl, rfl, rfl, trivial⟩
  ·intro hb73
   refine .block ?_;refine .own_nil 9 1 ?_
   refine .rangeX (α := List ByteArray × Option Addr × Nat × List Value) (β := Unit) (fun y => []) (fun y => [(b40, .cells #[.slice y.2.1 y.1.length y.2.2.1] 27 (0, 0))]) (fun y => [.s (.slice y.2.1 y.1.length y.2.2.1) 9 1 y.1.length y.2.2.2]) (fun _ => []) (fun _ => []) (fun _ => []) (fun _ => .skip) (fun i y => OL Rep.str G44 y.2.2.2 y.1 ∧ fence_levels_L2 (fence_levels_J1 (fence_levels_L3 x0_0 m36) v21) (List.drop i u41) y.1 = some r) (fun _ => False) (([] : List ByteArray), none, 0, [])  c49 rfl rfl hc50 rfl (by simp) rfl rfl (hi51 _ G44 (HpLe.refl _) List.mem_cons_self) (fun _ _ hv => by obtain ⟨_, _, hv⟩ := hv; exact (Yr.len _ hv).trans rfl) (by kernel_rfl) ⟨(OL.nil (Rp' := Rep.str)), r42⟩ ?_ ?_ (fun _ _ h => h.elim)
   ·intro l74 tm75 D76 i77 y v78 hV79 hI w80 S81 hw82
    obtain ⟨v83, a84, k85, cs86⟩ := y
    obtain ⟨o87, r88⟩ := hI
    try dsimp only at o87 r88
    obtain ⟨x89, h90, h91⟩ := hV79
    refine .dup (G := G44) List.mem_cons_self ?_
    obtain ⟨v92, rfl, h93⟩ := h91
    obtain ⟨a94, k95, h96, s97⟩ := h93
    obtain ⟨rfl, _⟩ := List.cons.inj h96
    rw [drop_cons h90] at r88
    have r98 : fence_levels_B2 (fence_levels_J1 (fence_levels_L3 x0_0 m36) v21) (fence_levels_L2 (fence_levels_J1 (fence_levels_L3 x0_0 m36) v21) (List.drop (i77 + 1) u41)) x89 v83 = some r := r88; clear r88; unfold fence_levels_B2 at r98; try dsimp only at r98
    refine .prune [(22, .slice a94 x89.length k95), (5, _)] ⟨rfl, rfl, trivial⟩ ?_;refine .same (bl' := [(b40, .cells #[.slice a84 v83.length k85] 27 (0, 0)), _]) (sl' := [.s (.slice a84 v83.length k85) 9 1 v83.length cs86]) (Fs' := G44 :: (G44 :: Fs)) rfl rfl rfl ?_;refine .region rfl ?_;refine .av rfl rfl ?_;refine .re ?_;refine .beginRound 1 rfl rfl [_, _] rfl ?_;refine .block ?_;refine .drawL (.q 0 (.q 1 (.q 2 (.q 3 (.e 4 1 (.e 5 2 (.e 6 2 .nil))))))) [_, _] (by kernel_rfl) (by kernel_rfl) (pick_mem [0, 1] rfl) ?_;refine .dq (.load_own 0 rfl rfl ty27 rfl) rfl ?_
    refine .dq (.move rfl) rfl ?_
    obtain ⟨u99, hu99, r100⟩ := bind_some r98; clear r98
    obtain ⟨c101, p102, h103⟩ := SlR.get s97 hu99
    obtain rfl := h103
    refine .dq (.idxR s97 rfl rfl hu99 sl27 ty9.sz) rfl ?_;refine .dq (.load_rp p102 List.mem_cons_self rfl ty9 rfl) rfl ?_
    refine .lit [_] [(0, _)] .d1 sl27 ty9 rfl rfl rfl rfl rfl rfl (fun b104 hb104 => ?_)
    have o105 : OL Rep.str G44 [.string u99] ([u99] : List ByteArray) := ((OL.cons rfl (Rep.strI u99) (OL.nil (Rp' := Rep.str))) :)
    refine .reval 27 (n' := ([u99] : List ByteArray).length) rfl rfl ?_;refine .clsL (HpLe.refl _) (pick_mem [0, 1] rfl) ?_
    obtain ⟨u106, hu106, r107⟩ := bind_some r100; clear r100
    refine .appO (Q := Rep.str) 0 .d2 sl27 ty9 rfl rfl rfl rfl rfl rfl o87 o105 rfl rfl rfl (Bd.fin List.mem_cons_self) hu106 rfl (fun a108 k109 cs110 o111 => ?_)
    refine .store 0 [_] [_, _] .d2 rfl rfl rfl ty27 rfl rfl rfl rfl ?_;refine .draw_end ?_;refine .inBlock ?_
    refine .round_endX (u106, a108, k109, cs110) 1 rfl rfl ⟨o111, r107⟩ rfl rfl (fun F hF => List.mem_cons_of_mem _ hF) (by simp)
   ·intro q112 y hI hb113
    obtain ⟨v83, a84, k85, cs86⟩ := y
    obtain ⟨o87, r88⟩ := hI
    try dsimp only at o87 r88
    refine .prune [(3, _), (1, _), (5, _)] ⟨rfl, rfl, rfl, trivial⟩ ?_;refine .same (bl' := [(b40, .cells #[.slice a84 v83.length k85] 27 (0, 0)), _, _]) (sl' := [.s (.slice a84 v83.length k85) 9 1 v83.length cs86, _, _]) (Fs' := G44 :: Fs) rfl rfl rfl ?_;refine .pullS 1 rfl [_, _, _] rfl ?_
    refine .mkmerge 1 rfl [_, _] rfl (fun mk114 => ?_)
    rw [List.drop_length] at r88; rw [fence_levels_L2] at r88; try dsimp only at r88
    refine .inBlock ?_
    refine .prune _ ?_ (Cov.same rfl rfl rfl (hb73 (mk114, v83, a84, k85, cs86) ⟨o87, r88⟩))
    exact ⟨rfl, rfl, rfl, trivial⟩
 ·have r117 := ifF r37 c38; clear r37
  refine .exit rfl ?_;refine .seq ?_;refine .region rfl ?_;refine .mv rfl rfl ?_;refine .av rfl rfl ?_;refine .re ?_
  cases r117
  refine .drop 1 0 [] _ rfl rfl ?_
  refine .out (.inr ⟨_, rfl⟩) rfl (Cov.unmarkAll _ _ ?_)
  refine .outW (c := ⟨53, none⟩) [.tmp 2] [_] Tryz.func53 Tryz.results53 ⟨RV.tmp rfl, trivial⟩ mcm List.mem_cons_self B31 (by subst hS0; simp [blks]) (fun G' hg => ⟨a22, k23, cs24, rfl, rfl, rfl, (OL.mono hg o33)⟩)
theorem fence_Levels_c {Fs : List Hp} {G : Hp} {x0_0 : Int} {a0_1 : Option Addr} {k0_1 : Nat} {x0_1 : List ByteArray} {r : ((List (List ByteArray)) × Int)} (hG : G ∈ Fs) (s0_1 : SlR Rep.str G a0_1 k0_1 x0_1) (h : fence_Levels (x0_0, x0_1) = some r) : RetW Tryz.prog 12 #[.agg #[.int .i64 x0_0, .slice a0_1 x0_1.length k0_1]] Fs [] [] (fun v bo so G => ∃ (oa0 : Option Addr) (ok0 : Nat) (oc0 : List Value), v = .tuple #[.slice oa0 r.1.length ok0, .int .i64 r.2] ∧ bo = [] ∧ so = [.s (.slice oa0 r.1.length ok0) 27 1 r.1.length oc0] ∧ OL (Rep.sl Rep.str) G oc0 r.1) := by
 unfold fence_Levels at h
 try dsimp only at h
 refine RetW.of (vs := [_]) Tryz.func12 rfl Tryz.ntmps12 [(0, _)] ⟨rfl, trivial⟩ rfl hG fun w0 S0 hS0 B0 => ?_
 refine .seq ?_;refine .region rfl ?_
 refine .box [_, _] .ro rfl rfl rfl (fun b1 hb1 => ?_)
 refine .av rfl rfl ?_;refine .av rfl rfl ?_;refine .re ?_;refine .seq ?_;refine .seq ?_;refine .region rfl ?_;refine .q .ro (.load_own_a 0 [_, _] rfl rfl ty29 rfl) rfl ?_
 obtain ⟨u2, hu2, r3⟩ := bind_some h; clear h
 refine .callS (b1 := []) (b2 := [_]) (s1 := []) [_] [] .ro rfl rfl Tryz.call52 rfl rfl (fence_Check_c (G := G) List.mem_cons_self s0_1 hu2) rfl (fun v5 bo so h4 => ?_)
 obtain ⟨rfl, rfl, rfl⟩ := h4
 refine .same (bl' := [_]) (sl' := []) rfl rfl rfl ?_;refine .av rfl rfl ?_;refine .re ?_;refine .seq ?_;refine .region rfl ?_;refine .mv rfl rfl ?_;refine .q .ro (.neq rfl rfl) rfl ?_;refine .re ?_
 refine .cond_dec rfl (fun c6 => ?_) (fun c6 => ?_)
 ·have r7 := ifT r3 c6; clear r3
  refine .seq ?_;refine .region rfl ?_;refine .mv rfl rfl ?_;refine .av rfl rfl ?_;refine .av rfl rfl ?_;refine .re ?_;refine .own_nil 27 1 ?_
  cases r7
  refine .drop 1 0 [] _ rfl rfl ?_
  refine .retW (c := ⟨12, none⟩) (.inr ⟨_, rfl⟩) [.tmp 2, .tmp 3] [_, _] rfl Tryz.func12 Tryz.results12 ⟨RV.tmp rfl, RV.tmp rfl, trivial⟩ mcm List.mem_cons_self B0 (by subst hS0; simp [blks]) (fun G' hg => ⟨none, 0, [], rfl, rfl, rfl, (OL.mono hg (OL.nil (Rp' := (Rep.sl Rep.str))))⟩)
 ·have r9 := ifF r3 c6; clear r3
  refine .skip ?_;refine .seq ?_;refine .region rfl ?_;refine .q .ro (.load_own_a 0 [_, _] rfl rfl ty29 rfl) rfl ?_
  obtain ⟨u10, hu10, r11⟩ := bind_some r9; clear r9
  refine .callW (b1 := []) (b2 := [_]) (s1 := []) [_] [] .ro rfl rfl Tryz.call53 rfl rfl (fence_levels_c (G := G) List.mem_cons_self s0_1 hu10) rfl B0 (fun v13 bo so G14 e15 B16 h12 => ?_)
  obtain ⟨a19, k20, cs21, rfl, rfl, rfl, o22⟩ := h12
  refine .same (bl' := [_]) (sl' := [_]) rfl rfl rfl ?_;refine .av rfl rfl ?_;refine .av rfl rfl ?_;refine .re ?_
  cases r11
  refine .drop 1 0 [] _ rfl rfl ?_
  refine .retW (c := ⟨12, none⟩) (.inr ⟨_, rfl⟩) [.tmp 2, .tmp 3] [_, _] rfl Tryz.func12 Tryz.results12 ⟨RV.tmp rfl, RV.tmp rfl, trivial⟩ mcm List.mem_cons_self B16 (by subst hS0; simp [blks]) (fun G' hg => ⟨a19, k20, cs21, rfl, rfl, rfl, (OL.mono hg o22)⟩)
theorem fence_Steps_c {Fs : List Hp} {G : Hp} {x0 : Int} {x1 : Int} {r : (Int × Int)} (hG : G ∈ Fs)  (h : fence_Steps x0 x1 = some r) : RetS Tryz.prog 13 #[.int .i64 x0, .int .i64 x1] Fs [] [] (fun v bo so => v = .tuple #[.int .i64 r.1, .int .i64 r.2] ∧ bo = [] ∧ so = []) := by
 unfold fence_Steps at h
 try dsimp only at h
 refine RetS.of (vs := [_, _]) Tryz.func13 rfl Tryz.ntmps13 [(0, _), (1, _)] ⟨rfl, rfl, trivial⟩ rfl hG fun w0 S0 hS0 B0 => ?_
 refine .seq ?_;refine .region rfl ?_;refine .av rfl rfl ?_;refine .av rfl rfl ?_;refine .re ?_;refine .seq ?_;refine .seq ?_;refine .region rfl ?_;refine .mv rfl rfl ?_
 refine .q .ro (.lss rfl rfl) rfl ?_;refine .mv rfl rfl ?_;refine .cutR 3 (β := Unit) (fun y => [(12, .bool (decide ((x0 < 1) ∨ (256 < x0))))]) [(0, _), (1, _)] (fun y => G :: Fs) (fun y => []) [] (fun y => []) [] (fun y => True) ⟨rfl, rfl, trivial⟩ [] rfl [] rfl ?_ ?_
 ·rintro _ _
  refine .prune [(12, .bool (decide ((x0 < 1) ∨ (256 < x0)))), (0, _), (1, _)] ⟨rfl, rfl, rfl, trivial⟩ ?_;refine .same (bl' := []) (sl' := []) (Fs' := G :: Fs) rfl rfl rfl ?_;refine .mv rfl rfl ?_
  obtain ⟨u11, h12, r13⟩ := bind_some h; clear h
  refine .cutR 4 (β := Unit) (fun y => [(17, .bool u11)]) [(0, _), (1, _)] (fun y => G :: Fs) (fun y => []) [] (fun y => []) [] (fun y => True) ⟨rfl, rfl, trivial⟩ [] rfl [] rfl ?_ ?_
  ·rintro _ _
   refine .prune [(17, .bool u11), (0, _), (1, _)] ⟨rfl, rfl, rfl, trivial⟩ ?_;refine .same (bl' := []) (sl' := []) (Fs' := G :: Fs) rfl rfl rfl ?_;refine .re ?_
   refine .cond rfl (fun c16 => ?_) (fun c16 => ?_)
   ·have r17 := ifT r13 c16; clear r13
    refine .seq ?_;refine .region rfl ?_;refine .av rfl rfl ?_;refine .av rfl rfl ?_;refine .re ?_
    cases r17
    refine .retS (c := ⟨13, none⟩) (.inr ⟨_, rfl⟩) [.tmp 4, .tmp 5] [_, _] rfl Tryz.func13 Tryz.results13 ⟨RV.tmp rfl, RV.tmp rfl, trivial⟩ mcm ⟨rfl, rfl, rfl⟩
   ·have r18 := ifBF r13 c16; clear r13
    refine .skip ?_;refine .seq ?_;refine .region rfl ?_;refine .av rfl rfl ?_;refine .re ?_;refine .seq ?_;refine .block ?_
    refine .loop2 (α := Nat × Int × Int) (fun y => [(0, .int .i64 y.2.1), (6, .int .i64 y.2.2)]) [(1, _)] (fun y => []) (fun y => []) [] (fun y => []) [] (fun y => fence_Steps_L1 x1 y.1 y.2.1 y.2.2 = some r) (fun y => y.1) (big, x0, 1) r18 ⟨rfl, rfl, rfl, trivial⟩ rfl rfl rfl (fun y hI hb32 => ?_)
    obtain ⟨n27, v29, v30⟩ := y
    have r31 := hI; clear hI
    try dsimp only at r31
    refine .prune [(0, .int .i64 v29), (6, .int .i64 v30), (1, _)] ⟨rfl, rfl, rfl, trivial⟩ ?_;refine .same (bl' := []) (sl' := []) (Fs' := G :: Fs) rfl rfl rfl ?_
    obtain ⟨m35, rfl⟩ : ∃ m, n27 = m + 1 := by cases n27 with | zero => exact absurd (show (none : Option _) = some _ from r31) (by simp) | succ m => exact ⟨m, rfl⟩
    have r34 : fence_Steps_B1 x1 (fence_Steps_L1 x1 m35) v29 v30 = some r := r31; clear r31; unfold fence_Steps_B1 at r34; try dsimp only at r34
    refine .seq ?_;refine .seq ?_;refine .region rfl ?_;refine .mv rfl rfl ?_;refine .mv rfl rfl ?_;refine .q .ro (.gtr rfl rfl) rfl ?_;refine .re ?_
    refine .cond_dec rfl (fun c36 => ?_) (fun c36 => ?_)
    ·have r37 := ifT r34 c36; clear r34
     refine .skip ?_;refine .seq ?_;refine .block ?_;refine .region rfl ?_;refine .mv rfl rfl ?_;refine .q .ro (.addw rfl rfl) rfl ?_;refine .av rfl rfl ?_;refine .re ?_;refine .inBlock ?_
     refine .region rfl ?_;refine .mv rfl rfl ?_;refine .mv rfl rfl ?_;refine .q .ro (.addw rfl rfl) rfl ?_;refine .q .ro (.subw rfl rfl) rfl ?_;refine .mv rfl rfl ?_
     obtain ⟨u38, hu38, r39⟩ := bind_some r37; clear r37
     refine .q .ro (.quow rfl rfl (nz_some hu38)) rfl ?_;refine .av rfl rfl ?_;refine .re ?_
     refine .prune _ ?_ (Cov.same rfl rfl rfl (hb32 (m35, (w64 (Int.tdiv (w64 ((w64 (v29 + x1)) - 1)) x1)), (w64 (v30 + 1))) r39 (Nat.lt_succ_self _)))
     exact ⟨rfl, rfl, rfl, trivial⟩
    ·have r40 := ifF r34 c36; clear r34
     refine .exit rfl ?_;refine .seq ?_;refine .region rfl ?_;refine .mv rfl rfl ?_;refine .av rfl rfl ?_;refine .av rfl rfl ?_;refine .re ?_
     cases r40
     refine .retS (c := ⟨13, none⟩) (.inr ⟨_, rfl⟩) [.tmp 4, .tmp 5] [_, _] rfl Tryz.func13 Tryz.results13 ⟨RV.tmp rfl, RV.tmp rfl, trivial⟩ mcm ⟨rfl, rfl, rfl⟩
  ·intro hb10
   refine .split 13 rfl (fun c9 => ?_) (fun c9 => ?_)
   ·have r41 := ifT h12 c9
    refine .g_off rfl rfl rfl ?_;refine .g_off rfl rfl rfl ?_;refine .g_off rfl rfl rfl ?_;refine .q .ro (.pick_t rfl rfl) rfl ?_
    refine .prune _ ?_ (Cov.same rfl rfl rfl (hb10 () trivial))
    exact ⟨sval r41, rfl, rfl, trivial⟩
   ·have r42 := ifF h12 c9
    refine .g_on rfl ?_;refine .mv rfl rfl ?_;refine .g_on rfl ?_
    obtain ⟨u43, hu43, r44⟩ := bind_some r42; clear r42
    refine .callS (b1 := []) (b2 := []) (s1 := []) [_] [] .ro rfl rfl Tryz.call54 rfl rfl (fence_sized_c (G := G) List.mem_cons_self  hu43) rfl (fun v46 bo so h45 => ?_)
    obtain ⟨rfl, rfl, rfl⟩ := h45
    refine .same (bl' := []) (sl' := []) rfl rfl rfl ?_;refine .g_on rfl ?_;refine .q .ro (.not rfl) rfl ?_;refine .q .ro (.pick_f rfl rfl) rfl ?_
    refine .prune _ ?_ (Cov.same rfl rfl rfl (hb10 () trivial))
    exact ⟨sval r44, rfl, rfl, trivial⟩
 ·intro hb2
  refine .split 9 rfl (fun c1 => ?_) (fun c1 => ?_)
  ·refine .g_off rfl rfl rfl ?_
   refine .g_off rfl rfl rfl ?_;refine .q .ro (.pick_t rfl rfl) rfl ?_
   refine .prune _ ?_ (Cov.same rfl rfl rfl (hb2 () trivial))
   exact ⟨dor_t c1, rfl, rfl, trivial⟩
  ·refine .g_on rfl ?_
   refine .mv rfl rfl ?_;refine .g_on rfl ?_;refine .q .ro (.gtr rfl rfl) rfl ?_;refine .q .ro (.pick_f rfl rfl) rfl ?_
   refine .prune _ ?_ (Cov.same rfl rfl rfl (hb2 () trivial))
   exact ⟨dor_f c1, rfl, rfl, trivial⟩
theorem slices_Backward_LLstringLstring_f1_i {Fs : List Hp} {G : Hp} {p1 : Value} {a1 : Option Addr} {k1 : Nat} {x1 : List (List ByteArray)} {l : (List (Int × (List ByteArray)))} (hG : G ∈ Fs) (hp1 : Rp G p1 [.slice a1 x1.length k1]) (s1 : SlR (Rep.sl Rep.str) G a1 k1 x1) (h : slices_Backward_LLstringLstring_f1 x1 = some l) : IterX Tryz.prog 117 [p1] Fs l.length (fun i v => ∃ x, l[i]? = some x ∧ (Yr.pair (Yr.v (Rep.int .i64)) (Yr.v (Rep.sl Rep.str))).r G v x) := by
 unfold slices_Backward_LLstringLstring_f1 at h
 try dsimp only at h
 intro y 𝒢 ℰ R0 hy hR0
 refine RetG.of (vs := [_, _]) Tryz.func117 rfl Tryz.ntmps117 [(0, _), (1, _)] ⟨rfl, rfl, trivial⟩ rfl fun w0 => Cov.dup hG ?_
 have B0 : Bd w0 (blks [] [.g R0]) Fs G := Bd.fin hG
 generalize hS0 : blks [] [.g R0] = S0 at B0 ⊢
 replace h : _ = some (List.drop 0 l) := h
 refine .seq ?_;refine .region rfl ?_;refine .q .ro (.load_rp hp1 List.mem_cons_self rfl ty32 rfl) rfl ?_;refine .q .ro (.len_sl rfl rfl sl32) rfl ?_;refine .q .ro (.subw rfl rfl) rfl ?_;refine .av rfl rfl ?_;refine .re ?_;refine .block ?_
 refine .loop2 (α := Nat × Guest × Nat × Int) (fun y => [(3, .int .i64 y.2.2.2)]) [(0, _), (1, _)] (fun y => []) (fun y => []) [] (fun y => [.g y.2.1]) [] (fun y => 𝒢 y.2.2.1 y.2.1 ∧ y.2.2.1 ≤ l.length ∧ slices_Backward_LLstringLstring_f1_L1 x1 y.1 y.2.2.2 = some (List.drop y.2.2.1 l)) (fun y => y.1) (big, R0, 0, (w64 ((x1.length : Int) - 1))) ⟨hR0, (Nat.zero_le _), h⟩ ⟨rfl, rfl, rfl, trivial⟩ rfl rfl rfl (fun y hI hb28 => ?_)
 obtain ⟨n20, R22, i23, v26⟩ := y
 obtain ⟨hR24, le25, r27⟩ := hI
 try dsimp only at hR24 le25 r27
 refine .prune [(3, .int .i64 v26), (0, _), (1, _)] ⟨rfl, rfl, rfl, trivial⟩ ?_;refine .same (bl' := []) (sl' := [.g R22]) (Fs' := G :: Fs) rfl rfl rfl ?_
 obtain ⟨m31, rfl⟩ : ∃ m, n20 = m + 1 := by cases n20 with | zero => exact absurd (show (none : Option _) = some _ from r27) (by simp) | succ m => exact ⟨m, rfl⟩
 have r30 : slices_Backward_LLstringLstring_f1_B1 x1 (slices_Backward_LLstringLstring_f1_L1 x1 m31) v26 = some (List.drop i23 l) := r27; clear r27; unfold slices_Backward_LLstringLstring_f1_B1 at r30; try dsimp only at r30
 refine .seq ?_;refine .seq ?_;refine .region rfl ?_;refine .mv rfl rfl ?_;refine .q .ro (.geq rfl rfl) rfl ?_;refine .re ?_
 refine .cond_dec rfl (fun c32 => ?_) (fun c32 => ?_)
 ·have r33 := ifT r30 c32; clear r30
  refine .skip ?_;refine .seq ?_;refine .block ?_;refine .seq ?_;refine .region rfl ?_;refine .mv rfl rfl ?_;refine .mv rfl rfl ?_;refine .q .ro (.load_rp hp1 List.mem_cons_self rfl ty32 rfl) rfl ?_;refine .mv rfl rfl ?_
  obtain ⟨u34, hu34, r35⟩ := bind_some r33; clear r33
  obtain ⟨c36, p37, h38⟩ := SlR.get s1 hu34
  obtain ⟨a39, k40, rfl, s41⟩ := h38
  refine .q .ro (.idxR s1 rfl rfl hu34 sl32 ty27.sz) rfl ?_;refine .q .ro (.load_rp p37 List.mem_cons_self rfl ty27 rfl) rfl ?_
  obtain ⟨h42, r43⟩ := yc_some r35; clear r35
  refine .yieldX hy ⟨_, h42, ⟨[_], _, rfl, ⟨_, rfl, ((Rep.intI .i64 v26) :)⟩, ⟨_, rfl, ((Rep.slI s41) :)⟩⟩⟩ hR24 mcm rfl rfl rfl (fun R44 hR45 => ?_) (fun R46 hE47 => ?_)
  ·refine .q .ro (.not_t rfl) rfl ?_
   refine .re ?_;refine .cond_false rfl ?_;refine .skip ?_;refine .inBlock ?_;refine .region rfl ?_;refine .mv rfl rfl ?_;refine .q .ro (.subw rfl rfl) rfl ?_;refine .av rfl rfl ?_;refine .re ?_
   refine .prune _ ?_ (Cov.same rfl rfl rfl (hb28 (m31, R44, (i23 + 1), (w64 (v26 - 1))) ⟨hR45, (yc_le h42), r43⟩ (Nat.lt_succ_self _)))
   exact ⟨rfl, rfl, rfl, trivial⟩
  ·refine .q .ro (.not_f rfl) rfl ?_
   refine .re ?_;refine .cond_true rfl ?_
   refine .leave (c := ⟨117, none⟩) (.inr ⟨_, rfl⟩) [] [] rfl Tryz.func117 Tryz.results117 trivial mcm (.inl rfl) (fresh_emp _) ⟨rfl, R46, .inr hE47, rfl⟩
 ·have r48 := ifF r30 c32; clear r30
  refine .exit rfl ?_
  have hi := yc_end r48 le25
  refine .leave (c := ⟨117, none⟩) (.inl rfl) [] [] rfl Tryz.func117 Tryz.results117 trivial mcm (.inl rfl) (fresh_emp _) ⟨rfl, R22, .inl (hi ▸ hR24), rfl⟩
theorem slices_Backward_LLstringLstring_c {Fs : List Hp} {G : Hp} {a0 : Option Addr} {k0 : Nat} {x0 : List (List ByteArray)} {r : (List (Int × (List ByteArray)))} (hG : G ∈ Fs) (s0 : SlR (Rep.sl Rep.str) G a0 k0 x0) (h : slices_Backward_LLstringLstring x0 = some r) : RetW Tryz.prog 56 #[.slice a0 x0.length k0] Fs [] [] (fun v bo so G => ∃ (Fi0 : FuncId) (ci0 : List Value), v = .func (.func Fi0) #[] ci0.toArray ∧ bo = [] ∧ so = [] ∧ (∀ args w, (callFunc Fi0 args).run Tryz.prog w = .ok (.enter Fi0 args) w) ∧ IterRX Tryz.prog (Yr.pair (Yr.v (Rep.int .i64)) (Yr.v (Rep.sl Rep.str))) Fi0 ci0 G r) := by
 unfold slices_Backward_LLstringLstring at h
 try dsimp only at h
 refine RetW.of (vs := [_]) Tryz.func56 rfl Tryz.ntmps56 [(0, _)] ⟨rfl, trivial⟩ rfl hG fun w0 S0 hS0 B0 => ?_
 refine .seq ?_;refine .region rfl ?_
 refine .box [_] .ro rfl rfl rfl (fun b1 hb1 => ?_)
 refine .av rfl rfl ?_;refine .re ?_;refine .seq ?_;refine .region rfl ?_;refine .q .ro (.makeFunc (vf := []) (vc := [_]) rfl rfl) rfl ?_;refine .av rfl rfl ?_;refine .re ?_
 refine .freezeBR 0 rfl [] rfl B0 (fun G2 e3 B4 p5 => ?_)
 obtain ⟨u7, hu7, r8⟩ := bind_some h; clear h
 cases r8
 refine .retW (c := ⟨56, none⟩) (.inr ⟨_, rfl⟩) [.tmp 2] [_] rfl Tryz.func56 Tryz.results56 ⟨RV.tmp rfl, trivial⟩ mcm List.mem_cons_self B4 (by subst hS0; simp [blks]) (fun G' hg => ⟨_, _, rfl, rfl, rfl, Tryz.call117, (fun Fs' G1 hle hm => slices_Backward_LLstringLstring_f1_i (G := G1) hm (Rp.mono (HpLe.trans hg hle) p5) (SlR.mono (HpLe.trans hg hle) (SlR.mono e3 s0)) hu7)⟩)
end Go.Proofs.YtfcicopgdahmcaaGreatDoor
end

section
set_option maxHeartbeats 4000000
set_option maxRecDepth 100000
namespace Go.Proofs.YtfcicopgdahmcaaGreatDoor
open Go.RowKit
set_option linter.unusedSimpArgs false
set_option linter.unusedVariables false
set_option synthInstance.maxSize 2000
set_option synthInstance.maxHeartbeats 400000
theorem sort_Search_c {Fs : List Hp} {G : Hp} {x0 : Int} {F1 : FuncId} {c1 : List Value} {x1 : Int → Option Bool} {r : Int} (hG : G ∈ Fs) (hc1 : ∀ args w, (callFunc F1 args).run Tryz.prog w = .ok (.enter F1 args) w) (hf1 : ∀ (Fs' : List Hp) (G1 : Hp), HpLe G G1 → G1 ∈ Fs' → ∀ (y0 : Int) (r : Bool), x1 y0 = some r → RetS Tryz.prog F1 (([.int .i64 y0] : List Value) ++ c1).toArray Fs' [] [] (fun v bo so => v = .bool r ∧ bo = [] ∧ so = [])) (h : sort_Search x0 x1 = some r) : RetS Tryz.prog 119 #[.int .i64 x0, .func (.func F1) #[] c1.toArray] Fs [] [] (fun v bo so => v = .int .i64 r ∧ bo = [] ∧ so = []) := by
 unfold sort_Search at h
 try dsimp only at h
 refine RetS.of (vs := [_, _]) Tryz.func119 rfl Tryz.ntmps119 [(0, _), (1, _)] ⟨rfl, rfl, trivial⟩ rfl hG fun w0 S0 hS0 B0 => ?_
 refine .seq ?_;refine .region rfl ?_;refine .av rfl rfl ?_;refine .re ?_;refine .seq ?_;refine .region rfl ?_;refine .mv rfl rfl ?_;refine .av rfl rfl ?_;refine .av rfl rfl ?_
 refine .re ?_;refine .seq ?_;refine .block ?_
 refine .loop2 (α := Nat × Int × Int) (fun y => [(5, .int .i64 y.2.1), (6, .int .i64 y.2.2)]) [(1, _)] (fun y => []) (fun y => []) [] (fun y => []) [] (fun y => sort_Search_L1 x1 y.1 y.2.1 y.2.2 = some r) (fun y => y.1) (big, 0, x0) h ⟨rfl, rfl, rfl, trivial⟩ rfl rfl rfl (fun y hI hb19 => ?_)
 obtain ⟨n14, v16, v17⟩ := y
 have r18 := hI; clear hI
 try dsimp only at r18
 refine .prune [(5, .int .i64 v16), (6, .int .i64 v17), (1, _)] ⟨rfl, rfl, rfl, trivial⟩ ?_;refine .same (bl' := []) (sl' := []) (Fs' := G :: Fs) rfl rfl rfl ?_
 obtain ⟨m22, rfl⟩ : ∃ m, n14 = m + 1 := by cases n14 with | zero => exact absurd (show (none : Option _) = some _ from r18) (by simp) | succ m => exact ⟨m, rfl⟩
 have r21 : sort_Search_B1 x1 (sort_Search_L1 x1 m22) v16 v17 = some r := r18; clear r18; unfold sort_Search_B1 at r21; try dsimp only at r21
 refine .seq ?_;refine .seq ?_;refine .region rfl ?_;refine .mv rfl rfl ?_;refine .mv rfl rfl ?_;refine .q .ro (.lss rfl rfl) rfl ?_;refine .re ?_
 refine .cond_dec rfl (fun c23 => ?_) (fun c23 => ?_)
 ·have r24 := ifT r21 c23; clear r21
  refine .skip ?_;refine .block ?_;refine .seq ?_;refine .region rfl ?_;refine .mv rfl rfl ?_;refine .mv rfl rfl ?_;refine .q .ro (.addw rfl rfl) rfl ?_;refine .q .ro (.convw Tryz.underlying3 Tryz.underlying212 rfl) rfl ?_;refine .q .ro (.shr1 rfl rfl (by decide)) rfl ?_
  refine .q .ro (.convw Tryz.underlying212 Tryz.underlying3 rfl) rfl ?_;refine .av rfl rfl ?_;refine .re ?_;refine .seq ?_;refine .region rfl ?_;refine .mv rfl rfl ?_;refine .mv rfl rfl ?_
  obtain ⟨u25, hu25, r26⟩ := bind_some r24; clear r24
  refine .callS (b1 := []) (b2 := []) (s1 := []) [_] c1 .ro rfl rfl hc1 rfl rfl (hf1 _ G (HpLe.refl _) List.mem_cons_self _ _  hu25) rfl (fun v28 bo so h27 => ?_)
  obtain ⟨rfl, rfl, rfl⟩ := h27
  refine .same (bl' := []) (sl' := []) rfl rfl rfl ?_;refine .q .ro (.not rfl) rfl ?_;refine .re ?_
  refine .cond rfl (fun c29 => ?_) (fun c29 => ?_)
  ·have r30 := ifT r26 c29; clear r26
   refine .region rfl ?_;refine .mv rfl rfl ?_;refine .q .ro (.addw rfl rfl) rfl ?_;refine .av rfl rfl ?_;refine .re ?_;refine .prune [(5, _), (6, _), (1, _)] ⟨rfl, rfl, rfl, trivial⟩ ?_;refine .inBlock ?_
   refine .prune _ ?_ (Cov.same rfl rfl rfl (hb19 (m22, (w64 ((w64 ((IntKind.u64.wrap (w64 (v16 + v17))) / 2)) + 1)), v17) r30 (Nat.lt_succ_self _)))
   exact ⟨rfl, rfl, rfl, trivial⟩
  ·have r31 := ifBF r26 c29; clear r26
   refine .region rfl ?_;refine .mv rfl rfl ?_;refine .av rfl rfl ?_;refine .re ?_;refine .prune [(5, _), (6, _), (1, _)] ⟨rfl, rfl, rfl, trivial⟩ ?_;refine .inBlock ?_
   refine .prune _ ?_ (Cov.same rfl rfl rfl (hb19 (m22, v16, (w64 ((IntKind.u64.wrap (w64 (v16 + v17))) / 2))) r31 (Nat.lt_succ_self _)))
   exact ⟨rfl, rfl, rfl, trivial⟩
 ·have r32 := ifF r21 c23; clear r21
  refine .exit rfl ?_;refine .seq ?_;refine .region rfl ?_;refine .mv rfl rfl ?_;refine .av rfl rfl ?_;refine .re ?_
  cases r32
  refine .retS (c := ⟨119, none⟩) (.inr ⟨_, rfl⟩) [.tmp 4] [_] rfl Tryz.func119 Tryz.results119 ⟨RV.tmp rfl, trivial⟩ mcm ⟨rfl, rfl, rfl⟩
theorem fence_behind_f1_c {Fs : List Hp} {G : Hp} {x0 : Int} {p1 : Value} {a1 : Option Addr} {k1 : Nat} {x1 : List ByteArray} {p2 : Value} {x2 : ByteArray} {r : Bool} (hG : G ∈ Fs) (hp1 : Rp G p1 [.slice a1 x1.length k1]) (s1 : SlR Rep.str G a1 k1 x1) (hp2 : Rp G p2 [.string x2]) (h : fence_behind_f1 x0 x1 x2 = some r) : RetS Tryz.prog 148 #[.int .i64 x0, p1, p2] Fs [] [] (fun v bo so => v = .bool r ∧ bo = [] ∧ so = []) := by
 unfold fence_behind_f1 at h
 try dsimp only at h
 refine RetS.of (vs := [_, _, _]) Tryz.func148 rfl Tryz.ntmps148 [(0, _), (1, _), (2, _)] ⟨rfl, rfl, rfl, trivial⟩ rfl hG fun w0 S0 hS0 B0 => ?_
 refine .seq ?_;refine .region rfl ?_;refine .av rfl rfl ?_;refine .re ?_;refine .seq ?_;refine .drawL (.q 0 (.q 1 (.q 2 (.q 3 (.q 4 (.q 5 (.q 6 .nil))))))) [] (by kernel_rfl) (by kernel_rfl) (pick_mem [] rfl) ?_;refine .dq (.load_rp hp1 List.mem_cons_self rfl ty27 rfl) rfl ?_;refine .dq (.move rfl) rfl ?_
 obtain ⟨u1, hu1, r2⟩ := bind_some h; clear h
 obtain ⟨c3, p4, h5⟩ := SlR.get s1 hu1
 obtain rfl := h5
 refine .dq (.idxR s1 rfl rfl hu1 sl27 ty9.sz) rfl ?_;refine .dq (.load_rp p4 List.mem_cons_self rfl ty9 rfl) rfl ?_;refine .dq (.load_rp hp2 List.mem_cons_self rfl ty9 rfl) rfl ?_;refine .dq (.gtr_d rfl rfl) rfl ?_;refine .dq (.assign rfl) rfl ?_;refine .draw_end ?_
 cases r2
 refine .retS (c := ⟨148, none⟩) (.inr ⟨_, rfl⟩) [.tmp 4] [_] rfl Tryz.func148 Tryz.results148 ⟨RV.tmp rfl, trivial⟩ mcm ⟨rfl, rfl, rfl⟩
theorem fence_behind_c {Fs : List Hp} {G : Hp} {a0 : Option Addr} {k0 : Nat} {x0 : List ByteArray} {x1 : ByteArray} {r : Int} (hG : G ∈ Fs) (s0 : SlR Rep.str G a0 k0 x0) (h : fence_behind x0 x1 = some r) : RetS Tryz.prog 118 #[.slice a0 x0.length k0, .string x1] Fs [] [] (fun v bo so => v = .int .i64 r ∧ bo = [] ∧ so = []) := by
 unfold fence_behind at h
 try dsimp only at h
 refine RetS.of (vs := [_, _]) Tryz.func118 rfl Tryz.ntmps118 [(0, _), (1, _)] ⟨rfl, rfl, trivial⟩ rfl hG fun w0 S0 hS0 B0 => ?_
 refine .seq ?_;refine .region rfl ?_
 refine .box [_] .ro rfl rfl rfl (fun b1 hb1 => ?_)
 refine .box [_] .ro rfl rfl rfl (fun b2 hb2 => ?_)
 refine .av rfl rfl ?_;refine .re ?_;refine .seq ?_;refine .region rfl ?_;refine .q .ro (.load_own 1 rfl rfl ty27 rfl) rfl ?_;refine .q .ro (.len_sl rfl rfl sl27) rfl ?_;refine .q .ro (.makeFunc (vf := []) (vc := [_, _]) rfl rfl) rfl ?_
 refine .freezeBR 1 rfl [_] rfl B0 (fun G3 e4 B5 p6 => ?_)
 refine .freezeBR 0 rfl [] rfl B5 (fun G8 e9 B10 p11 => ?_)
 obtain ⟨u13, hu13, r14⟩ := bind_some h; clear h
 refine .callS (b1 := []) (b2 := []) (s1 := []) [_, _] [] .ro rfl rfl Tryz.call119 rfl rfl (sort_Search_c (G := G8) List.mem_cons_self Tryz.call148 (fun Fs' G1 hle hm y0 r  hr => fence_behind_f1_c (G := G1) hm  (Rp.mono hle (Rp.mono e9 p6)) (SlR.mono hle (SlR.mono (HpLe.trans e4 e9) s0)) (Rp.mono hle p11) hr) hu13) rfl (fun v16 bo so h15 => ?_)
 obtain ⟨rfl, rfl, rfl⟩ := h15
 refine .same (bl' := []) (sl' := []) rfl rfl rfl ?_;refine .av rfl rfl ?_;refine .re ?_
 cases r14
 refine .retS (c := ⟨118, none⟩) (.inr ⟨_, rfl⟩) [.tmp 4] [_] rfl Tryz.func118 Tryz.results118 ⟨RV.tmp rfl, trivial⟩ mcm ⟨rfl, rfl, rfl⟩
theorem fence_last_c {Fs : List Hp} {G : Hp} {a0 : Option Addr} {k0 : Nat} {x0 : List ByteArray} {x1 : ByteArray} {r : Int} (hG : G ∈ Fs) (s0 : SlR Rep.str G a0 k0 x0) (h : fence_last x0 x1 = some r) : RetS Tryz.prog 57 #[.slice a0 x0.length k0, .string x1] Fs [] [] (fun v bo so => v = .int .i64 r ∧ bo = [] ∧ so = []) := by
 unfold fence_last at h
 try dsimp only at h
 refine RetS.of (vs := [_, _]) Tryz.func57 rfl Tryz.ntmps57 [(0, _), (1, _)] ⟨rfl, rfl, trivial⟩ rfl hG fun w0 S0 hS0 B0 => ?_
 refine .seq ?_;refine .region rfl ?_;refine .av rfl rfl ?_;refine .re ?_;refine .seq ?_;refine .region rfl ?_;refine .mv rfl rfl ?_;refine .mv rfl rfl ?_
 obtain ⟨u1, hu1, r2⟩ := bind_some h; clear h
 refine .callS (b1 := []) (b2 := []) (s1 := []) [_, _] [] .ro rfl rfl Tryz.call118 rfl rfl (fence_behind_c (G := G) List.mem_cons_self s0 hu1) rfl (fun v4 bo so h3 => ?_)
 obtain ⟨rfl, rfl, rfl⟩ := h3
 refine .same (bl' := []) (sl' := []) rfl rfl rfl ?_;refine .q .ro (.subw rfl rfl) rfl ?_;refine .q .ro (.max2 rfl rfl) rfl ?_;refine .av rfl rfl ?_;refine .re ?_
 cases r2
 refine .retS (c := ⟨57, none⟩) (.inr ⟨_, rfl⟩) [.tmp 4] [_] rfl Tryz.func57 Tryz.results57 ⟨RV.tmp rfl, trivial⟩ mcm ⟨rfl, rfl, rfl⟩
theorem fence_blockOf_c {Fs : List Hp} {G : Hp} {a0 : Option Addr} {k0 : Nat} {x0 : List ByteArray} {x1 : Int} {x2 : Int} {r : (List ByteArray)} (hG : G ∈ Fs) (s0 : SlR Rep.str G a0 k0 x0) (h : fence_blockOf x0 x1 x2 = some r) : RetS Tryz.prog 58 #[.slice a0 x0.length k0, .int .i64 x1, .int .i64 x2] Fs [] [] (fun v bo so => ∃ a0 : Option Addr, ∃ k0 : Nat, v = .slice a0 r.length k0 ∧ bo = [] ∧ so = [] ∧ SlR Rep.str G a0 k0 r) := by
 unfold fence_blockOf at h
 try dsimp only at h
 refine RetS.of (vs := [_, _, _]) Tryz.func58 rfl Tryz.ntmps58 [(0, _), (1, _), (2, _)] ⟨rfl, rfl, rfl, trivial⟩ rfl hG fun w0 S0 hS0 B0 => ?_
 refine .seq ?_;refine .region rfl ?_;refine .av rfl rfl ?_;refine .re ?_;refine .seq ?_;refine .region rfl ?_;refine .mv rfl rfl ?_;refine .mv rfl rfl ?_;refine .mv rfl rfl ?_
 refine .q .ro (.mulw rfl rfl) rfl ?_;refine .mv rfl rfl ?_;refine .q .ro (.addw rfl rfl) rfl ?_;refine .mv rfl rfl ?_;refine .q .ro (.mulw rfl rfl) rfl ?_;refine .mv rfl rfl ?_;refine .q .ro (.len_sl rfl rfl sl27) rfl ?_;refine .q .ro (.min2 rfl rfl) rfl ?_
 obtain ⟨u1, hu1, r2⟩ := bind_some h; clear h
 obtain ⟨a3, k4, h5, s6⟩ := SlR.sub s0 hu1
 refine .q .ro (.sliceR s0 rfl hu1 sl27 ty9.sz (fun h => .yes' rfl h) (fun h => .yes' rfl h) h5) rfl ?_;refine .av rfl rfl ?_;refine .re ?_;refine .prune [(6, _)] ⟨rfl, trivial⟩ ?_
 cases r2
 refine .retS (c := ⟨58, none⟩) (.inr ⟨_, rfl⟩) [.tmp 6] [_] rfl Tryz.func58 Tryz.results58 ⟨RV.tmp rfl, trivial⟩ mcm ⟨a3, k4, rfl, rfl, rfl, s6⟩
theorem fence_Probe_c {Fs : List Hp} {G : Hp} {x0_0 : Int} {a0_1 : Option Addr} {k0_1 : Nat} {x0_1 : List ByteArray} {x1 : ByteArray} {r : ((List Int) × Int × Bool × Int)} (hG : G ∈ Fs) (s0_1 : SlR Rep.str G a0_1 k0_1 x0_1) (h : fence_Probe (x0_0, x0_1) x1 = some r) : RetS Tryz.prog 14 #[.agg #[.int .i64 x0_0, .slice a0_1 x0_1.length k0_1], .string x1] Fs [] [] (fun v bo so => ∃ (oa0 : Option Addr) (ok0 : Nat) (oc0 : List Value), v = .tuple #[.slice oa0 r.1.length ok0, .int .i64 r.2.1, .bool r.2.2.1, .int .i64 r.2.2.2] ∧ bo = [] ∧ so = [.s (.slice oa0 r.1.length ok0) 3 1 r.1.length oc0] ∧ OL (Rep.int .i64) G oc0 r.1) := by
 unfold fence_Probe at h
 try dsimp only at h
 refine RetS.of (vs := [_, _]) Tryz.func14 rfl Tryz.ntmps14 [(0, _), (1, _)] ⟨rfl, rfl, trivial⟩ rfl hG fun w0 S0 hS0 B0 => ?_
 refine .marks0 ?_;refine .seq ?_;refine .region rfl ?_
 refine .box [_, _] .ro rfl rfl rfl (fun b1 hb1 => ?_)
 refine .box [_] .ro rfl rfl rfl (fun b2 hb2 => ?_)
 refine .av rfl rfl ?_;refine .av rfl rfl ?_;refine .av rfl rfl ?_;refine .av rfl rfl ?_;refine .re ?_;refine .seq ?_;refine .seq ?_;refine .region rfl ?_;refine .q .ro (.load_own_a 1 [_, _] rfl rfl ty29 rfl) rfl ?_
 obtain ⟨u3, hu3, r4⟩ := bind_some h; clear h
 refine .callS (b1 := []) (b2 := [_, _]) (s1 := []) [_] [] .ro rfl rfl Tryz.call52 rfl rfl (fence_Check_c (G := G) List.mem_cons_self s0_1 hu3) rfl (fun v6 bo so h5 => ?_)
 obtain ⟨rfl, rfl, rfl⟩ := h5
 refine .same (bl' := [_, _]) (sl' := [_]) rfl rfl rfl ?_;refine .av rfl rfl ?_;refine .re ?_;refine .seq ?_;refine .region rfl ?_;refine .mv rfl rfl ?_;refine .q .ro (.neq rfl rfl) rfl ?_;refine .re ?_
 refine .cond_dec rfl (fun c7 => ?_) (fun c7 => ?_)
 ·have r8 := ifT r4 c7; clear r4
  refine .seq ?_;refine .region rfl ?_;refine .mv rfl rfl ?_;refine .av rfl rfl ?_;refine .av rfl rfl ?_;refine .av rfl rfl ?_;refine .av rfl rfl ?_;refine .re ?_;refine .own_nil 3 1 ?_
  cases r8
  refine .drop 2 0 [] _ rfl rfl ?_;refine .pullS 1 rfl [_, _] rfl ?_
  refine .out (.inr ⟨_, rfl⟩) rfl (Cov.unmarkAll _ _ ?_)
  refine .outS (c := ⟨14, none⟩) [.tmp 4, .tmp 5, .tmp 6, .tmp 7] [_, _, _, _] Tryz.func14 Tryz.results14 ⟨RV.tmp rfl, RV.tmp rfl, RV.tmp rfl, RV.tmp rfl, trivial⟩ mcm ⟨none, 0, [], rfl, rfl, rfl, (OL.nil (Rp' := (Rep.int .i64)))⟩
 ·have r10 := ifF r4 c7; clear r4
  refine .skip ?_;refine .seq ?_;refine .seq ?_;refine .region rfl ?_;refine .q .ro (.load_own 0 rfl rfl ty9 rfl) rfl ?_
  obtain ⟨u11, hu11, r12⟩ := bind_some r10; clear r10
  refine .callS (b1 := []) (b2 := [_, _]) (s1 := []) [_] [] .ro rfl rfl Tryz.call55 rfl rfl (fence_proper_c (G := G) List.mem_cons_self  hu11) rfl (fun v14 bo so h13 => ?_)
  obtain ⟨rfl, rfl, rfl⟩ := h13
  refine .same (bl' := [_, _]) (sl' := [_]) rfl rfl rfl ?_;refine .q .ro (.not rfl) rfl ?_;refine .re ?_;refine .prune [(2, _), (3, _), (20, _)] ⟨rfl, rfl, rfl, trivial⟩ ?_
  refine .cond rfl (fun c15 => ?_) (fun c15 => ?_)
  ·have r16 := ifT r12 c15; clear r12
   refine .seq ?_;refine .region rfl ?_;refine .av rfl rfl ?_;refine .av rfl rfl ?_;refine .av rfl rfl ?_;refine .av rfl rfl ?_;refine .re ?_;refine .own_nil 3 1 ?_
   cases r16
   refine .drop 2 0 [] _ rfl rfl ?_;refine .pullS 1 rfl [_, _] rfl ?_
   refine .out (.inr ⟨_, rfl⟩) rfl (Cov.unmarkAll _ _ ?_)
   refine .outS (c := ⟨14, none⟩) [.tmp 4, .tmp 5, .tmp 6, .tmp 7] [_, _, _, _] Tryz.func14 Tryz.results14 ⟨RV.tmp rfl, RV.tmp rfl, RV.tmp rfl, RV.tmp rfl, trivial⟩ mcm ⟨none, 0, [], rfl, rfl, rfl, (OL.nil (Rp' := (Rep.int .i64)))⟩
  ·have r18 := ifBF r12 c15; clear r12
   refine .skip ?_;refine .seq ?_;refine .region rfl ?_
   refine .alloc .ro ty3 rfl (fun b19 hb19 => ?_)
   refine .store 0 [_] [_, _, _] .ro rfl rfl rfl ty3 rfl rfl rfl rfl ?_;refine .re ?_;refine .seq ?_;refine .region rfl ?_
   refine .alloc .ro ty22 rfl (fun b20 hb20 => ?_)
   refine .re ?_;refine .seq ?_;refine .seq ?_;refine .region rfl ?_;refine .q .ro (.load_own_a 3 [_, _] rfl rfl ty29 rfl) rfl ?_
   obtain ⟨u21, hu21, r22⟩ := bind_some r18; clear r18
   refine .callW (b1 := []) (b2 := [_, _, _, _]) (s1 := []) [_] [] .ro rfl rfl Tryz.call53 rfl rfl (fence_levels_c (G := G) List.mem_cons_self s0_1 hu21) rfl B0 (fun v24 bo so G25 e26 B27 h23 => ?_)
   obtain ⟨a30, k31, cs32, rfl, rfl, rfl, o33⟩ := h23
   refine .same (bl' := [_, _, _, _]) (sl' := [_, _]) rfl rfl rfl ?_
   refine .freezeR 0 rfl rfl o33 [_] rfl B27 (fun G34 e35 B36 s37 => ?_)
   obtain ⟨u39, hu39, r40⟩ := bind_some r22; clear r22
   refine .callW (b1 := []) (b2 := [_, _, _, _]) (s1 := []) [_] [] .ro rfl rfl Tryz.call56 rfl rfl (slices_Backward_LLstringLstring_c (G := G34) List.mem_cons_self s37 hu39) rfl B36 (fun v42 bo so G43 e44 B45 h41 => ?_)
   obtain ⟨F47, c48, rfl, rfl, rfl, hc49, hi50⟩ := h41
   refine .same (bl' := [_, _, _, _]) (sl' := [_]) rfl rfl rfl ?_;refine .re ?_;refine .cutBD (β := MK × List Int × Option Addr × Nat × List Value × Int) (fun y => mks y.1.1) (fun y => []) [(2, _), (3, _), (9, _), (10, _)] (fun y => G43 :: Fs) (fun y => [(b20, .cells #[.slice y.2.2.1 y.2.1.length y.2.2.2.1] 22 (0, 0)), (b19, .cells #[.int .i64 y.2.2.2.2.2] 3 (0, 0))]) [_, _] (fun y => [.g (marksG y.1), .s (.slice y.2.2.1 y.2.1.length y.2.2.2.1) 3 1 y.2.1.length y.2.2.2.2.1]) [] (fun y => OL (Rep.int .i64) G43 y.2.2.2.2.1 y.2.1 ∧ (fence_Probe_J1 x1 x0_1) y.2.1 y.2.2.2.2.2 = some r) ⟨rfl, rfl, rfl, rfl, trivial⟩ [2, 3] rfl [] rfl ?_ ?_
   ·intro y hI
    obtain ⟨mk17, v28, a38, k46, cs51, v54⟩ := y
    obtain ⟨o59, r60⟩ := hI
    try dsimp only at o59 r60
    refine .prune [(2, _), (3, _), (9, _), (10, _)] ⟨rfl, rfl, rfl, rfl, trivial⟩ ?_;refine .same (bl' := [(b20, .cells #[.slice a38 v28.length k46] 22 (0, 0)), (b19, .cells #[.int .i64 v54] 3 (0, 0)), _, _]) (sl' := [.g (marksG mk17), .s (.slice a38 v28.length k46) 3 1 v28.length cs51]) (Fs' := G43 :: Fs) rfl rfl rfl ?_
    unfold fence_Probe_J1 at r60
    try dsimp only at r60
    refine .seq ?_;refine .drawL (.q 0 (.q 1 (.q 2 (.q 3 (.q 4 (.q 5 (.q 6 (.q 7 (.q 8 (.q 9 (.q 10 (.q 11 (.q 12 .nil))))))))))))) [_, _, _, _] (by kernel_rfl) (by kernel_rfl) (pick_mem [0, 1, 2, 3] rfl) ?_;refine .dq (.load_own 0 rfl rfl ty22 rfl) rfl ?_;refine .dq (.load_own 1 rfl rfl ty3 rfl) rfl ?_;refine .dq (.fieldAddr 1 rfl fl29_1 ty27.sz rfl) rfl ?_;refine .dq (.load_own 3 rfl rfl ty27 rfl) rfl ?_;refine .dq (.load_own 1 rfl rfl ty3 rfl) rfl ?_
    obtain ⟨u61, hu61, r62⟩ := bind_some r60; clear r60
    obtain ⟨c63, p65, h66⟩ := SlR.get (SlR.mono (HpLe.trans (HpLe.trans e26 e35) e44) s0_1) hu61
    obtain rfl := h66
    refine .dq (.idxR (SlR.mono (HpLe.trans (HpLe.trans e26 e35) e44) s0_1) rfl rfl hu61 sl27 ty9.sz) rfl ?_;refine .dq (.load_rp p65 List.mem_cons_self rfl ty9 rfl) rfl ?_;refine .dq (.load_own 2 rfl rfl ty9 rfl) rfl ?_;refine .dq (.eql_s rfl rfl) rfl ?_;refine .dq (.assign rfl) rfl ?_;refine .dq (.assign rfl) rfl ?_;refine .dq (.assign rfl) rfl ?_;refine .dq (.assign rfl) rfl ?_;refine .draw_end ?_
    refine .prune [(4, _), (5, _), (6, _), (7, _)] ⟨rfl, rfl, rfl, rfl, trivial⟩ ?_
    cases r62
    refine .drop 4 0 [] _ rfl rfl ?_
    refine .out (.inr ⟨_, rfl⟩) rfl (Cov.unmarkAll _ _ ?_)
    refine .outS (c := ⟨14, none⟩) [.tmp 4, .tmp 5, .tmp 6, .tmp 7] [_, _, _, _] Tryz.func14 Tryz.results14 ⟨RV.tmp rfl, RV.tmp rfl, RV.tmp rfl, RV.tmp rfl, trivial⟩ mcm ⟨a38, k46, cs51, rfl, rfl, rfl, (OL.flat (Rep.flat_int _) o59)⟩
   ·intro hb67
    refine .block ?_;refine .own_nil 3 1 ?_;refine .pull 3 rfl [_, _, _, _] rfl ?_;refine .pull 3 rfl [_, _, _, _] rfl ?_;refine .pull 3 rfl [_, _, _, _] rfl ?_;refine .pull 3 rfl [_, _, _, _] rfl ?_
    refine .rangeX (α := List Int × Option Addr × Nat × List Value × Int) (β := Unit) (fun y => []) (fun y => [(b20, .cells #[.slice y.2.1 y.1.length y.2.2.1] 22 (0, 0)), (b19, .cells #[.int .i64 y.2.2.2.2] 3 (0, 0)), (b2, .cells #[.string x1] 9 (0, 0)), (b1, .cells #[.int .i64 x0_0, .slice a0_1 x0_1.length k0_1] 29 (0, 0))]) (fun y => [.s (.slice y.2.1 y.1.length y.2.2.1) 3 1 y.1.length y.2.2.2.1]) (fun _ => []) (fun _ => []) (fun _ => []) (fun _ => .skip) (fun i y => OL (Rep.int .i64) G43 y.2.2.2.1 y.1 ∧ fence_Probe_L2 (fence_Probe_J1 x1 x0_1) x0_0 x1 (List.drop i u39) y.1 y.2.2.2.2 = some r) (fun _ => False) (([] : List Int), none, 0, [], 0)  c48 rfl rfl hc49 rfl (by simp) rfl rfl (hi50 _ G43 (HpLe.refl _) List.mem_cons_self) (fun _ _ hv => by obtain ⟨_, _, hv⟩ := hv; exact (Yr.len _ hv).trans rfl) (by kernel_rfl) ⟨(OL.nil (Rp' := (Rep.int .i64))), r40⟩ ?_ ?_ (fun _ _ h => h.elim)
    ·intro l68 tm69 D70 i71 y v72 hV73 hI w74 S75 hw76
     obtain ⟨v77, a78, k79, cs80, v81⟩ := y
     obtain ⟨o82, r83⟩ := hI
     try dsimp only at o82 r83
     obtain ⟨x84, h85, h86⟩ := hV73
     refine .dup (G := G43) List.mem_cons_self ?_
     obtain ⟨_, _, rfl, h87, h88⟩ := h86
     obtain ⟨v89, rfl, h90⟩ := h87
     obtain ⟨rfl, _⟩ := List.cons.inj h90
     obtain ⟨v91, rfl, h92⟩ := h88
     obtain ⟨a93, k94, h95, s96⟩ := h92
     obtain ⟨rfl, _⟩ := List.cons.inj h95
     rw [drop_cons h85] at r83
     have r97 : fence_Probe_B2 (fence_Probe_J1 x1 x0_1) x0_0 x1 (fence_Probe_L2 (fence_Probe_J1 x1 x0_1) x0_0 x1 (List.drop (i71 + 1) u39)) x84 v77 v81 = some r := r83; clear r83; unfold fence_Probe_B2 at r97; try dsimp only at r97
     refine .prune [(24, .int .i64 x84.1), (25, .slice a93 x84.2.length k94), (2, _), (3, _), (9, _), (10, _)] ⟨rfl, rfl, rfl, rfl, rfl, rfl, trivial⟩ ?_;refine .same (bl' := [(b20, .cells #[.slice a78 v77.length k79] 22 (0, 0)), (b19, .cells #[.int .i64 v81] 3 (0, 0)), (b2, .cells #[.string x1] 9 (0, 0)), (b1, .cells #[.int .i64 x0_0, .slice a0_1 x0_1.length k0_1] 29 (0, 0)), _]) (sl' := [.s (.slice a78 v77.length k79) 3 1 v77.length cs80]) (Fs' := G43 :: (G43 :: Fs)) rfl rfl rfl ?_;refine .region rfl ?_;refine .av rfl rfl ?_;refine .re ?_;refine .beginRound 4 rfl rfl [_, _, _, _, _] rfl ?_;refine .block ?_;refine .seq ?_;refine .region rfl ?_
     refine .q .ro (.load_own 0 rfl rfl ty22 rfl) rfl ?_;refine .q .ro (.load_own 1 rfl rfl ty3 rfl) rfl ?_
     refine .lit [_] [(0, _)] .ro sl22 ty3 rfl rfl rfl rfl rfl rfl (fun b98 hb98 => ?_)
     have o99 : OL (Rep.int .i64) G43 [.int .i64 v81] ([v81] : List Int) := ((OL.cons rfl (Rep.intI .i64 v81) (OL.nil (Rp' := (Rep.int .i64)))) :)
     refine .reval 28 (n' := ([v81] : List Int).length) rfl rfl ?_
     obtain ⟨u100, hu100, r101⟩ := bind_some r97; clear r97
     refine .appO (Q := (Rep.int .i64)) 0 .ro sl22 ty3 rfl rfl rfl rfl rfl rfl o82 o99 rfl rfl rfl (Bd.fin List.mem_cons_self) hu100 rfl (fun a102 k103 cs104 o105 => ?_)
     refine .store 0 [_] [_, _, _, _, _] .ro rfl rfl rfl ty22 rfl rfl rfl rfl ?_;refine .re ?_;refine .drawL (.q 0 (.q 1 (.q 2 (.q 3 (.q 4 (.q 5 (.q 6 (.q 7 (.q 9 (.e 8 1 (.e 10 1 (.q 11 (.e 12 2 .nil))))))))))))) [_, _, _, _, _] (by kernel_rfl) (by kernel_rfl) (pick_mem [0, 1, 2, 3, 4] rfl) ?_;refine .dq (.load_own 1 rfl rfl ty3 rfl) rfl ?_;refine .dq (.fieldAddr 0 rfl fl29_0 ty3.sz rfl) rfl ?_;refine .dq (.load_own 3 rfl rfl ty3 rfl) rfl ?_;refine .dq (.mulw rfl rfl) rfl ?_;refine .dq (.move rfl) rfl ?_;refine .dq (.fieldAddr 0 rfl fl29_0 ty3.sz rfl) rfl ?_
     refine .dq (.load_own 3 rfl rfl ty3 rfl) rfl ?_;refine .dq (.load_own 1 rfl rfl ty3 rfl) rfl ?_;refine .dq (.load_own 2 rfl rfl ty9 rfl) rfl ?_
     obtain ⟨u106, hu106, r107⟩ := bind_some r101; clear r101
     refine .callS (b1 := []) (b2 := [_, _, _, _, _]) (s1 := []) [_, _, _] [] .d1 rfl rfl Tryz.call58 rfl rfl (fence_blockOf_c (G := G43) List.mem_cons_self s96 hu106) rfl (fun v108 bo so h109 => ?_)
     obtain ⟨a110, k111, rfl, rfl, rfl, s112⟩ := h109
     refine .same (bl' := [_, _, _, _, _]) (sl' := [_]) rfl rfl rfl ?_;refine .clsL (HpLe.refl _) (pick_mem [0, 1, 2, 3, 4] rfl) ?_
     obtain ⟨u113, hu113, r114⟩ := bind_some r107; clear r107
     refine .callS (b1 := []) (b2 := [_, _, _, _, _]) (s1 := []) [_, _] [] .d1 rfl rfl Tryz.call57 rfl rfl (fence_last_c (G := G43) List.mem_cons_self s112 hu113) rfl (fun v115 bo so h116 => ?_)
     obtain ⟨rfl, rfl, rfl⟩ := h116
     refine .same (bl' := [_, _, _, _, _]) (sl' := [_]) rfl rfl rfl ?_;refine .clsL (HpLe.refl _) (pick_mem [0, 1, 2, 3, 4] rfl) ?_;refine .dq (.addw rfl rfl) rfl ?_;refine .store 1 [_] [_, _, _, _, _] .d2 rfl rfl rfl ty3 rfl rfl rfl rfl ?_;refine .draw_end ?_;refine .prune [] trivial ?_;refine .inBlock ?_
     refine .round_endX (u100, a102, k103, cs104, (w64 ((w64 (v81 * x0_0)) + u113))) 4 rfl rfl ⟨o105, r114⟩ rfl rfl (fun F hF => List.mem_cons_of_mem _ hF) (by simp)
    ·intro q117 y hI hb118
     obtain ⟨v77, a78, k79, cs80, v81⟩ := y
     obtain ⟨o82, r83⟩ := hI
     try dsimp only at o82 r83
     refine .prune [(2, _), (3, _), (9, _), (10, _)] ⟨rfl, rfl, rfl, rfl, trivial⟩ ?_;refine .same (bl' := [(b20, .cells #[.slice a78 v77.length k79] 22 (0, 0)), (b19, .cells #[.int .i64 v81] 3 (0, 0)), (b2, .cells #[.string x1] 9 (0, 0)), (b1, .cells #[.int .i64 x0_0, .slice a0_1 x0_1.length k0_1] 29 (0, 0)), _]) (sl' := [.s (.slice a78 v77.length k79) 3 1 v77.length cs80, _]) (Fs' := G43 :: Fs) rfl rfl rfl ?_;refine .pullS 1 rfl [_, _] rfl ?_
     refine .mkmerge 4 rfl [_, _, _, _] rfl (fun mk119 => ?_)
     rw [List.drop_length] at r83; rw [fence_Probe_L2] at r83; try dsimp only at r83
     refine .inBlock ?_
     refine .prune _ ?_ (Cov.same rfl rfl rfl (hb67 (mk119, v77, a78, k79, cs80, v81) ⟨o82, r83⟩))
     exact ⟨rfl, rfl, rfl, rfl, trivial⟩
theorem fence_Next_c {Fs : List Hp} {G : Hp} {x0 : Int} {x1 : Int} {a2 : Option Addr} {k2 : Nat} {x2 : List ByteArray} {x3 : ByteArray} {r : (Int × Int)} (hG : G ∈ Fs) (s2 : SlR Rep.str G a2 k2 x2) (h : fence_Next x0 x1 x2 x3 = some r) : RetS Tryz.prog 15 #[.int .i64 x0, .int .i64 x1, .slice a2 x2.length k2, .string x3] Fs [] [] (fun v bo so => v = .tuple #[.int .i64 r.1, .int .i64 r.2] ∧ bo = [] ∧ so = []) := by
 unfold fence_Next at h
 try dsimp only at h
 refine RetS.of (vs := [_, _, _, _]) Tryz.func15 rfl Tryz.ntmps15 [(0, _), (1, _), (2, _), (3, _)] ⟨rfl, rfl, rfl, rfl, trivial⟩ rfl hG fun w0 S0 hS0 B0 => ?_
 refine .seq ?_;refine .region rfl ?_;refine .av rfl rfl ?_;refine .av rfl rfl ?_;refine .re ?_;refine .seq ?_;refine .seq ?_;refine .region rfl ?_;refine .mv rfl rfl ?_
 obtain ⟨u1, hu1, r2⟩ := bind_some h; clear h
 refine .callS (b1 := []) (b2 := []) (s1 := []) [_] [] .ro rfl rfl Tryz.call54 rfl rfl (fence_sized_c (G := G) List.mem_cons_self  hu1) rfl (fun v4 bo so h3 => ?_)
 obtain ⟨rfl, rfl, rfl⟩ := h3
 refine .same (bl' := []) (sl' := []) rfl rfl rfl ?_;refine .q .ro (.not rfl) rfl ?_;refine .mv rfl rfl ?_;refine .cutR 3 (β := Unit) (fun y => [(16, .bool (decide (((!u1) = true) ∨ (x1 < 0))))]) [(0, _), (1, _), (2, _), (3, _)] (fun y => G :: Fs) (fun y => []) [] (fun y => []) [] (fun y => True) ⟨rfl, rfl, rfl, rfl, trivial⟩ [] rfl [] rfl ?_ ?_
 ·rintro _ _
  refine .prune [(16, .bool (decide (((!u1) = true) ∨ (x1 < 0)))), (0, _), (1, _), (2, _), (3, _)] ⟨rfl, rfl, rfl, rfl, rfl, trivial⟩ ?_;refine .same (bl' := []) (sl' := []) (Fs' := G :: Fs) rfl rfl rfl ?_;refine .mv rfl rfl ?_;refine .cutR 3 (β := Unit) (fun y => [(20, .bool (decide ((((!u1) = true) ∨ (x1 < 0)) ∨ (256 < x1))))]) [(0, _), (1, _), (2, _), (3, _)] (fun y => G :: Fs) (fun y => []) [] (fun y => []) [] (fun y => True) ⟨rfl, rfl, rfl, rfl, trivial⟩ [] rfl [] rfl ?_ ?_
  ·rintro _ _
   refine .prune [(20, .bool (decide ((((!u1) = true) ∨ (x1 < 0)) ∨ (256 < x1)))), (0, _), (1, _), (2, _), (3, _)] ⟨rfl, rfl, rfl, rfl, rfl, trivial⟩ ?_;refine .same (bl' := []) (sl' := []) (Fs' := G :: Fs) rfl rfl rfl ?_;refine .mv rfl rfl ?_
   obtain ⟨u19, h20, r21⟩ := bind_some r2; clear r2
   refine .cutR 4 (β := Unit) (fun y => [(25, .bool u19)]) [(0, _), (1, _), (2, _), (3, _)] (fun y => G :: Fs) (fun y => []) [] (fun y => []) [] (fun y => True) ⟨rfl, rfl, rfl, rfl, trivial⟩ [] rfl [] rfl ?_ ?_
   ·rintro _ _
    refine .prune [(25, .bool u19), (0, _), (1, _), (2, _), (3, _)] ⟨rfl, rfl, rfl, rfl, rfl, trivial⟩ ?_;refine .same (bl' := []) (sl' := []) (Fs' := G :: Fs) rfl rfl rfl ?_;refine .re ?_
    refine .cond rfl (fun c24 => ?_) (fun c24 => ?_)
    ·have r25 := ifT r21 c24; clear r21
     refine .seq ?_;refine .region rfl ?_;refine .av rfl rfl ?_;refine .av rfl rfl ?_;refine .re ?_
     cases r25
     refine .retS (c := ⟨15, none⟩) (.inr ⟨_, rfl⟩) [.tmp 8, .tmp 9] [_, _] rfl Tryz.func15 Tryz.results15 ⟨RV.tmp rfl, RV.tmp rfl, trivial⟩ mcm ⟨rfl, rfl, rfl⟩
    ·have r26 := ifBF r21 c24; clear r21
     refine .skip ?_;refine .seq ?_;refine .seq ?_;refine .region rfl ?_;refine .mv rfl rfl ?_;refine .q .ro (.len_sl rfl rfl sl27) rfl ?_;refine .q .ro (.lss rfl rfl) rfl ?_;refine .mv rfl rfl ?_;refine .cutR 5 (β := Unit) (fun y => [(34, .bool (decide (((x2.length : Int) < 1) ∨ (x0 < (x2.length : Int)))))]) [(0, _), (1, _), (2, _), (3, _)] (fun y => G :: Fs) (fun y => []) [] (fun y => []) [] (fun y => True) ⟨rfl, rfl, rfl, rfl, trivial⟩ [] rfl [] rfl ?_ ?_
     ·rintro _ _
      refine .prune [(34, .bool (decide (((x2.length : Int) < 1) ∨ (x0 < (x2.length : Int))))), (0, _), (1, _), (2, _), (3, _)] ⟨rfl, rfl, rfl, rfl, rfl, trivial⟩ ?_;refine .same (bl' := []) (sl' := []) (Fs' := G :: Fs) rfl rfl rfl ?_;refine .mv rfl rfl ?_
      obtain ⟨u37, h38, r39⟩ := bind_some r26; clear r26
      refine .cutR 4 (β := Unit) (fun y => [(39, .bool u37)]) [(0, _), (1, _), (2, _), (3, _)] (fun y => G :: Fs) (fun y => []) [] (fun y => []) [] (fun y => True) ⟨rfl, rfl, rfl, rfl, trivial⟩ [] rfl [] rfl ?_ ?_
      ·rintro _ _
       refine .prune [(39, .bool u37), (0, _), (1, _), (2, _), (3, _)] ⟨rfl, rfl, rfl, rfl, rfl, trivial⟩ ?_;refine .same (bl' := []) (sl' := []) (Fs' := G :: Fs) rfl rfl rfl ?_;refine .re ?_
       refine .cond rfl (fun c42 => ?_) (fun c42 => ?_)
       ·have r43 := ifT r39 c42; clear r39
        refine .seq ?_;refine .region rfl ?_;refine .av rfl rfl ?_;refine .av rfl rfl ?_;refine .re ?_
        cases r43
        refine .retS (c := ⟨15, none⟩) (.inr ⟨_, rfl⟩) [.tmp 8, .tmp 9] [_, _] rfl Tryz.func15 Tryz.results15 ⟨RV.tmp rfl, RV.tmp rfl, trivial⟩ mcm ⟨rfl, rfl, rfl⟩
       ·have r44 := ifBF r39 c42; clear r39
        refine .skip ?_;refine .seq ?_;refine .region rfl ?_;refine .mv rfl rfl ?_;refine .mv rfl rfl ?_;refine .q .ro (.mulw rfl rfl) rfl ?_;refine .mv rfl rfl ?_;refine .mv rfl rfl ?_
        obtain ⟨u45, hu45, r46⟩ := bind_some r44; clear r44
        refine .callS (b1 := []) (b2 := []) (s1 := []) [_, _] [] .ro rfl rfl Tryz.call57 rfl rfl (fence_last_c (G := G) List.mem_cons_self s2 hu45) rfl (fun v48 bo so h47 => ?_)
        obtain ⟨rfl, rfl, rfl⟩ := h47
        refine .same (bl' := []) (sl' := []) rfl rfl rfl ?_;refine .q .ro (.addw rfl rfl) rfl ?_;refine .av rfl rfl ?_;refine .av rfl rfl ?_;refine .re ?_
        cases r46
        refine .retS (c := ⟨15, none⟩) (.inr ⟨_, rfl⟩) [.tmp 8, .tmp 9] [_, _] rfl Tryz.func15 Tryz.results15 ⟨RV.tmp rfl, RV.tmp rfl, trivial⟩ mcm ⟨rfl, rfl, rfl⟩
      ·intro hb36
       refine .split 35 rfl (fun c35 => ?_) (fun c35 => ?_)
       ·have r49 := ifT h38 c35
        refine .g_off rfl rfl rfl ?_;refine .g_off rfl rfl rfl ?_;refine .g_off rfl rfl rfl ?_;refine .q .ro (.pick_t rfl rfl) rfl ?_
        refine .prune _ ?_ (Cov.same rfl rfl rfl (hb36 () trivial))
        exact ⟨sval r49, rfl, rfl, rfl, rfl, trivial⟩
       ·have r50 := ifF h38 c35
        refine .g_on rfl ?_;refine .mv rfl rfl ?_;refine .g_on rfl ?_
        obtain ⟨u51, hu51, r52⟩ := bind_some r50; clear r50
        refine .callS (b1 := []) (b2 := []) (s1 := []) [_] [] .ro rfl rfl Tryz.call59 rfl rfl (fence_ascend_c (G := G) List.mem_cons_self s2 hu51) rfl (fun v54 bo so h53 => ?_)
        obtain ⟨rfl, rfl, rfl⟩ := h53
        refine .same (bl' := []) (sl' := []) rfl rfl rfl ?_;refine .g_on rfl ?_;refine .q .ro (.not rfl) rfl ?_;refine .q .ro (.pick_f rfl rfl) rfl ?_
        refine .prune _ ?_ (Cov.same rfl rfl rfl (hb36 () trivial))
        exact ⟨sval r52, rfl, rfl, rfl, rfl, trivial⟩
     ·intro hb28
      refine .split 29 rfl (fun c27 => ?_) (fun c27 => ?_)
      ·refine .g_off rfl rfl rfl ?_
       refine .g_off rfl rfl rfl ?_;refine .g_off rfl rfl rfl ?_;refine .g_off rfl rfl rfl ?_;refine .q .ro (.pick_t rfl rfl) rfl ?_
       refine .prune _ ?_ (Cov.same rfl rfl rfl (hb28 () trivial))
       exact ⟨dor_t c27, rfl, rfl, rfl, rfl, trivial⟩
      ·refine .g_on rfl ?_
       refine .mv rfl rfl ?_;refine .g_on rfl ?_;refine .q .ro (.len_sl rfl rfl sl27) rfl ?_;refine .g_on rfl ?_;refine .mv rfl rfl ?_;refine .g_on rfl ?_;refine .q .ro (.gtr rfl rfl) rfl ?_;refine .q .ro (.pick_f rfl rfl) rfl ?_
       refine .prune _ ?_ (Cov.same rfl rfl rfl (hb28 () trivial))
       exact ⟨dor_f c27, rfl, rfl, rfl, rfl, trivial⟩
   ·intro hb18
    refine .split 21 rfl (fun c17 => ?_) (fun c17 => ?_)
    ·have r55 := ifT h20 c17
     refine .g_off rfl rfl rfl ?_;refine .g_off rfl rfl rfl ?_;refine .g_off rfl rfl rfl ?_;refine .q .ro (.pick_t rfl rfl) rfl ?_
     refine .prune _ ?_ (Cov.same rfl rfl rfl (hb18 () trivial))
     exact ⟨sval r55, rfl, rfl, rfl, rfl, trivial⟩
    ·have r56 := ifF h20 c17
     refine .g_on rfl ?_;refine .mv rfl rfl ?_;refine .g_on rfl ?_
     obtain ⟨u57, hu57, r58⟩ := bind_some r56; clear r56
     refine .callS (b1 := []) (b2 := []) (s1 := []) [_] [] .ro rfl rfl Tryz.call55 rfl rfl (fence_proper_c (G := G) List.mem_cons_self  hu57) rfl (fun v60 bo so h59 => ?_)
     obtain ⟨rfl, rfl, rfl⟩ := h59
     refine .same (bl' := []) (sl' := []) rfl rfl rfl ?_;refine .g_on rfl ?_;refine .q .ro (.not rfl) rfl ?_;refine .q .ro (.pick_f rfl rfl) rfl ?_
     refine .prune _ ?_ (Cov.same rfl rfl rfl (hb18 () trivial))
     exact ⟨sval r58, rfl, rfl, rfl, rfl, trivial⟩
  ·intro hb10
   refine .split 17 rfl (fun c9 => ?_) (fun c9 => ?_)
   ·refine .g_off rfl rfl rfl ?_
    refine .g_off rfl rfl rfl ?_;refine .q .ro (.pick_t rfl rfl) rfl ?_
    refine .prune _ ?_ (Cov.same rfl rfl rfl (hb10 () trivial))
    exact ⟨dor_t c9, rfl, rfl, rfl, rfl, trivial⟩
   ·refine .g_on rfl ?_
    refine .mv rfl rfl ?_;refine .g_on rfl ?_;refine .q .ro (.gtr rfl rfl) rfl ?_;refine .q .ro (.pick_f rfl rfl) rfl ?_
    refine .prune _ ?_ (Cov.same rfl rfl rfl (hb10 () trivial))
    exact ⟨dor_f c9, rfl, rfl, rfl, rfl, trivial⟩
 ·intro hb6
  refine .split_b 13 rfl (fun c5 => ?_) (fun c5 => ?_)
  ·refine .g_off rfl rfl rfl ?_
   refine .g_off rfl rfl rfl ?_;refine .q .ro (.pick_t rfl rfl) rfl ?_
   refine .prune _ ?_ (Cov.same rfl rfl rfl (hb6 () trivial))
   exact ⟨dor_t c5, rfl, rfl, rfl, rfl, trivial⟩
  ·refine .g_on rfl ?_
   refine .mv rfl rfl ?_;refine .g_on rfl ?_;refine .q .ro (.lss rfl rfl) rfl ?_;refine .q .ro (.pick_f rfl rfl) rfl ?_
   refine .prune _ ?_ (Cov.same rfl rfl rfl (hb6 () trivial))
   exact ⟨dor_f (bne_of c5), rfl, rfl, rfl, rfl, trivial⟩
theorem sort_SearchStrings_f1_c {Fs : List Hp} {G : Hp} {x0 : Int} {p1 : Value} {a1 : Option Addr} {k1 : Nat} {x1 : List ByteArray} {p2 : Value} {x2 : ByteArray} {r : Bool} (hG : G ∈ Fs) (hp1 : Rp G p1 [.slice a1 x1.length k1]) (s1 : SlR Rep.str G a1 k1 x1) (hp2 : Rp G p2 [.string x2]) (h : sort_SearchStrings_f1 x0 x1 x2 = some r) : RetS Tryz.prog 120 #[.int .i64 x0, p1, p2] Fs [] [] (fun v bo so => v = .bool r ∧ bo = [] ∧ so = []) := by
 unfold sort_SearchStrings_f1 at h
 try dsimp only at h
 refine RetS.of (vs := [_, _, _]) Tryz.func120 rfl Tryz.ntmps120 [(0, _), (1, _), (2, _)] ⟨rfl, rfl, rfl, trivial⟩ rfl hG fun w0 S0 hS0 B0 => ?_
 refine .seq ?_;refine .region rfl ?_;refine .av rfl rfl ?_;refine .re ?_;refine .seq ?_;refine .drawL (.q 0 (.q 1 (.q 2 (.q 3 (.q 4 (.q 5 (.q 6 .nil))))))) [] (by kernel_rfl) (by kernel_rfl) (pick_mem [] rfl) ?_;refine .dq (.load_rp hp1 List.mem_cons_self rfl ty27 rfl) rfl ?_;refine .dq (.move rfl) rfl ?_
 obtain ⟨u1, hu1, r2⟩ := bind_some h; clear h
 obtain ⟨c3, p4, h5⟩ := SlR.get s1 hu1
 obtain rfl := h5
 refine .dq (.idxR s1 rfl rfl hu1 sl27 ty9.sz) rfl ?_;refine .dq (.load_rp p4 List.mem_cons_self rfl ty9 rfl) rfl ?_;refine .dq (.load_rp hp2 List.mem_cons_self rfl ty9 rfl) rfl ?_;refine .dq (.geq_d rfl rfl) rfl ?_;refine .dq (.assign rfl) rfl ?_;refine .draw_end ?_
 cases r2
 refine .retS (c := ⟨120, none⟩) (.inr ⟨_, rfl⟩) [.tmp 4] [_] rfl Tryz.func120 Tryz.results120 ⟨RV.tmp rfl, trivial⟩ mcm ⟨rfl, rfl, rfl⟩
theorem sort_SearchStrings_c {Fs : List Hp} {G : Hp} {a0 : Option Addr} {k0 : Nat} {x0 : List ByteArray} {x1 : ByteArray} {r : Int} (hG : G ∈ Fs) (s0 : SlR Rep.str G a0 k0 x0) (h : sort_SearchStrings x0 x1 = some r) : RetS Tryz.prog 60 #[.slice a0 x0.length k0, .string x1] Fs [] [] (fun v bo so => v = .int .i64 r ∧ bo = [] ∧ so = []) := by
 unfold sort_SearchStrings at h
 try dsimp only at h
 refine RetS.of (vs := [_, _]) Tryz.func60 rfl Tryz.ntmps60 [(0, _), (1, _)] ⟨rfl, rfl, trivial⟩ rfl hG fun w0 S0 hS0 B0 => ?_
 refine .seq ?_;refine .region rfl ?_
 refine .box [_] .ro rfl rfl rfl (fun b1 hb1 => ?_)
 refine .box [_] .ro rfl rfl rfl (fun b2 hb2 => ?_)
 refine .av rfl rfl ?_;refine .re ?_;refine .seq ?_;refine .region rfl ?_;refine .q .ro (.load_own 1 rfl rfl ty27 rfl) rfl ?_;refine .q .ro (.len_sl rfl rfl sl27) rfl ?_;refine .q .ro (.makeFunc (vf := []) (vc := [_, _]) rfl rfl) rfl ?_
 refine .freezeBR 1 rfl [_] rfl B0 (fun G3 e4 B5 p6 => ?_)
 refine .freezeBR 0 rfl [] rfl B5 (fun G8 e9 B10 p11 => ?_)
 obtain ⟨u13, hu13, r14⟩ := bind_some h; clear h
 refine .callS (b1 := []) (b2 := []) (s1 := []) [_, _] [] .ro rfl rfl Tryz.call119 rfl rfl (sort_Search_c (G := G8) List.mem_cons_self Tryz.call120 (fun Fs' G1 hle hm y0 r  hr => sort_SearchStrings_f1_c (G := G1) hm  (Rp.mono hle (Rp.mono e9 p6)) (SlR.mono hle (SlR.mono (HpLe.trans e4 e9) s0)) (Rp.mono hle p11) hr) hu13) rfl (fun v16 bo so h15 => ?_)
 obtain ⟨rfl, rfl, rfl⟩ := h15
 refine .same (bl' := []) (sl' := []) rfl rfl rfl ?_;refine .av rfl rfl ?_;refine .re ?_
 cases r14
 refine .retS (c := ⟨60, none⟩) (.inr ⟨_, rfl⟩) [.tmp 4] [_] rfl Tryz.func60 Tryz.results60 ⟨RV.tmp rfl, trivial⟩ mcm ⟨rfl, rfl, rfl⟩
theorem fence_Range_c {Fs : List Hp} {G : Hp} {x0_0 : Int} {a0_1 : Option Addr} {k0_1 : Nat} {x0_1 : List ByteArray} {x1 : ByteArray} {x2 : Int} {r : ((List Int) × Int × Int)} (hG : G ∈ Fs) (s0_1 : SlR Rep.str G a0_1 k0_1 x0_1) (h : fence_Range (x0_0, x0_1) x1 x2 = some r) : RetS Tryz.prog 16 #[.agg #[.int .i64 x0_0, .slice a0_1 x0_1.length k0_1], .string x1, .int .i64 x2] Fs [] [] (fun v bo so => ∃ (oa0 : Option Addr) (ok0 : Nat) (oc0 : List Value), v = .tuple #[.slice oa0 r.1.length ok0, .int .i64 r.2.1, .int .i64 r.2.2] ∧ bo = [] ∧ so = [.s (.slice oa0 r.1.length ok0) 3 1 r.1.length oc0] ∧ OL (Rep.int .i64) G oc0 r.1) := by
 unfold fence_Range at h
 try dsimp only at h
 refine RetS.of (vs := [_, _, _]) Tryz.func16 rfl Tryz.ntmps16 [(0, _), (1, _), (2, _)] ⟨rfl, rfl, rfl, trivial⟩ rfl hG fun w0 S0 hS0 B0 => ?_
 refine .seq ?_;refine .region rfl ?_
 refine .box [_, _] .ro rfl rfl rfl (fun b1 hb1 => ?_)
 refine .av rfl rfl ?_;refine .av rfl rfl ?_;refine .av rfl rfl ?_;refine .re ?_;refine .seq ?_;refine .seq ?_;refine .region rfl ?_;refine .q .ro (.load_own_a 0 [_, _] rfl rfl ty29 rfl) rfl ?_
 obtain ⟨u2, hu2, r3⟩ := bind_some h; clear h
 refine .callS (b1 := []) (b2 := [_]) (s1 := []) [_] [] .ro rfl rfl Tryz.call52 rfl rfl (fence_Check_c (G := G) List.mem_cons_self s0_1 hu2) rfl (fun v5 bo so h4 => ?_)
 obtain ⟨rfl, rfl, rfl⟩ := h4
 refine .same (bl' := [_]) (sl' := []) rfl rfl rfl ?_;refine .av rfl rfl ?_;refine .re ?_;refine .seq ?_;refine .region rfl ?_;refine .mv rfl rfl ?_;refine .q .ro (.neq rfl rfl) rfl ?_;refine .re ?_
 refine .cond_dec rfl (fun c6 => ?_) (fun c6 => ?_)
 ·have r7 := ifT r3 c6; clear r3
  refine .seq ?_;refine .region rfl ?_;refine .mv rfl rfl ?_;refine .av rfl rfl ?_;refine .av rfl rfl ?_;refine .av rfl rfl ?_;refine .re ?_;refine .own_nil 3 1 ?_
  cases r7
  refine .drop 1 0 [] _ rfl rfl ?_
  refine .retS (c := ⟨16, none⟩) (.inr ⟨_, rfl⟩) [.tmp 6, .tmp 7, .tmp 8] [_, _, _] rfl Tryz.func16 Tryz.results16 ⟨RV.tmp rfl, RV.tmp rfl, RV.tmp rfl, trivial⟩ mcm ⟨none, 0, [], rfl, rfl, rfl, (OL.nil (Rp' := (Rep.int .i64)))⟩
 ·have r9 := ifF r3 c6; clear r3
  refine .skip ?_;refine .seq ?_;refine .seq ?_;refine .region rfl ?_;refine .mv rfl rfl ?_
  obtain ⟨u10, hu10, r11⟩ := bind_some r9; clear r9
  refine .callS (b1 := []) (b2 := [_]) (s1 := []) [_] [] .ro rfl rfl Tryz.call55 rfl rfl (fence_proper_c (G := G) List.mem_cons_self  hu10) rfl (fun v13 bo so h12 => ?_)
  obtain ⟨rfl, rfl, rfl⟩ := h12
  refine .same (bl' := [_]) (sl' := []) rfl rfl rfl ?_;refine .q .ro (.not rfl) rfl ?_;refine .mv rfl rfl ?_;refine .cutR 3 (β := Unit) (fun y => [(25, .bool (decide (((!u10) = true) ∨ (x2 < 1))))]) [(1, _), (2, _), (3, _)] (fun y => G :: Fs) (fun y => []) [_] (fun y => []) [] (fun y => True) ⟨rfl, rfl, rfl, trivial⟩ [0] rfl [] rfl ?_ ?_
  ·rintro _ _
   refine .prune [(25, .bool (decide (((!u10) = true) ∨ (x2 < 1)))), (1, _), (2, _), (3, _)] ⟨rfl, rfl, rfl, rfl, trivial⟩ ?_;refine .same (bl' := [_]) (sl' := []) (Fs' := G :: Fs) rfl rfl rfl ?_;refine .mv rfl rfl ?_;refine .cutR 3 (β := Unit) (fun y => [(29, .bool (decide ((((!u10) = true) ∨ (x2 < 1)) ∨ (64 < x2))))]) [(1, _), (2, _), (3, _)] (fun y => G :: Fs) (fun y => []) [_] (fun y => []) [] (fun y => True) ⟨rfl, rfl, rfl, trivial⟩ [0] rfl [] rfl ?_ ?_
   ·rintro _ _
    refine .prune [(29, .bool (decide ((((!u10) = true) ∨ (x2 < 1)) ∨ (64 < x2)))), (1, _), (2, _), (3, _)] ⟨rfl, rfl, rfl, rfl, trivial⟩ ?_;refine .same (bl' := [_]) (sl' := []) (Fs' := G :: Fs) rfl rfl rfl ?_;refine .re ?_
    refine .cond_dec rfl (fun c22 => ?_) (fun c22 => ?_)
    ·have r23 := ifT r11 c22; clear r11
     refine .seq ?_;refine .region rfl ?_;refine .av rfl rfl ?_;refine .av rfl rfl ?_;refine .av rfl rfl ?_;refine .re ?_;refine .own_nil 3 1 ?_
     cases r23
     refine .drop 1 0 [] _ rfl rfl ?_
     refine .retS (c := ⟨16, none⟩) (.inr ⟨_, rfl⟩) [.tmp 6, .tmp 7, .tmp 8] [_, _, _] rfl Tryz.func16 Tryz.results16 ⟨RV.tmp rfl, RV.tmp rfl, RV.tmp rfl, trivial⟩ mcm ⟨none, 0, [], rfl, rfl, rfl, (OL.nil (Rp' := (Rep.int .i64)))⟩
    ·have r25 := ifF r11 c22; clear r11
     refine .skip ?_;refine .seq ?_;refine .region rfl ?_;refine .q .ro (.fieldAddr 1 rfl fl29_1 ty27.sz rfl) rfl ?_;refine .q .ro (.load_own 0 rfl rfl ty27 rfl) rfl ?_;refine .mv rfl rfl ?_
     obtain ⟨u26, hu26, r27⟩ := bind_some r25; clear r25
     refine .callS (b1 := []) (b2 := [_]) (s1 := []) [_, _] [] .ro rfl rfl Tryz.call60 rfl rfl (sort_SearchStrings_c (G := G) List.mem_cons_self s0_1 hu26) rfl (fun v29 bo so h28 => ?_)
     obtain ⟨rfl, rfl, rfl⟩ := h28
     refine .same (bl' := [_]) (sl' := []) rfl rfl rfl ?_;refine .av rfl rfl ?_;refine .re ?_;refine .seq ?_;refine .region rfl ?_;refine .q .ro (.fieldAddr 1 rfl fl29_1 ty27.sz rfl) rfl ?_;refine .q .ro (.load_own 0 rfl rfl ty27 rfl) rfl ?_;refine .q .ro (.len_sl rfl rfl sl27) rfl ?_;refine .q .ro (.subw rfl rfl) rfl ?_
     refine .q .ro (.fieldAddr 0 rfl fl29_0 ty3.sz rfl) rfl ?_;refine .q .ro (.load_own 0 rfl rfl ty3 rfl) rfl ?_
     obtain ⟨u30, hu30, r31⟩ := bind_some r27; clear r27
     refine .q .ro (.quow rfl rfl (nz_some hu30)) rfl ?_;refine .av rfl rfl ?_;refine .re ?_;refine .seq ?_;refine .region rfl ?_;refine .av rfl rfl ?_;refine .re ?_;refine .seq ?_;refine .seq ?_
     refine .region rfl ?_;refine .mv rfl rfl ?_;refine .mv rfl rfl ?_;refine .re ?_;refine .prune [(1, _), (3, _), (10, _), (11, _), (12, _), (41, _), (42, _)] ⟨rfl, rfl, rfl, rfl, rfl, rfl, rfl, trivial⟩ ?_;refine .block ?_;refine .own_nil 3 1 ?_
     refine .loop2 (α := Nat × List Int × Option Addr × Nat × List Value × Int) (fun y => [(12, .slice y.2.2.1 y.2.1.length y.2.2.2.1), (42, .int .i64 y.2.2.2.2.2)]) [(1, _), (3, _), (10, _), (11, _), (41, _)] (fun y => []) (fun y => []) [_] (fun y => [.s (.slice y.2.2.1 y.2.1.length y.2.2.2.1) 3 1 y.2.1.length y.2.2.2.2.1]) [] (fun y => OL (Rep.int .i64) G y.2.2.2.2.1 y.2.1 ∧ fence_Range_L1 x1 u26 (w64 (Int.tdiv (w64 ((x0_1.length : Int) - 1)) x0_0)) x2 x0_0 x0_1 y.1 y.2.1 y.2.2.2.2.2 = some r) (fun y => y.1) (big, ([] : List Int), none, 0, [], 0) ⟨(OL.nil (Rp' := (Rep.int .i64))), r31⟩ ⟨rfl, rfl, rfl, rfl, rfl, rfl, rfl, trivial⟩ rfl rfl rfl (fun y hI hb92 => ?_)
     obtain ⟨n82, v84, a85, k86, cs87, v90⟩ := y
     obtain ⟨o88, r91⟩ := hI
     try dsimp only at o88 r91
     refine .prune [(12, .slice a85 v84.length k86), (42, .int .i64 v90), (1, _), (3, _), (10, _), (11, _), (41, _)] ⟨rfl, rfl, rfl, rfl, rfl, rfl, rfl, trivial⟩ ?_;refine .same (bl' := [_]) (sl' := [.s (.slice a85 v84.length k86) 3 1 v84.length cs87]) (Fs' := G :: Fs) rfl rfl rfl ?_
     obtain ⟨m17, rfl⟩ : ∃ m, n82 = m + 1 := by cases n82 with | zero => exact absurd (show (none : Option _) = some _ from r91) (by simp) | succ m => exact ⟨m, rfl⟩
     have r99 : fence_Range_B1 x1 u26 (w64 (Int.tdiv (w64 ((x0_1.length : Int) - 1)) x0_0)) x2 x0_0 x0_1 (fence_Range_L1 x1 u26 (w64 (Int.tdiv (w64 ((x0_1.length : Int) - 1)) x0_0)) x2 x0_0 x0_1 m17) v84 v90 = some r := r91; clear r91; unfold fence_Range_B1 at r99; try dsimp only at r99
     refine .seq ?_;refine .region rfl ?_;refine .q .ro (.lss rfl rfl) rfl ?_;refine .re ?_;refine .seq ?_
     refine .cond_dec rfl (fun c20 => ?_) (fun c20 => ?_)
     ·have r21 := ifT r99 c20; clear r99
      refine .skip ?_;refine .seq ?_;refine .block ?_;refine .seq ?_;refine .region rfl ?_;refine .mv rfl rfl ?_;refine .av rfl rfl ?_;refine .re ?_;refine .drawL (.q 0 (.q 1 (.q 2 (.q 3 (.q 5 (.q 6 (.q 8 (.q 10 (.e 4 1 (.q 7 (.q 9 (.q 11 (.e 12 1 (.e 13 1 (.q 14 .nil))))))))))))))) [_] (by kernel_rfl) (by kernel_rfl) (pick_mem [0] rfl) ?_
      refine .dq (.move rfl) rfl ?_;refine .dq (.fieldAddr 1 rfl fl29_1 ty27.sz rfl) rfl ?_;refine .dq (.load_own 0 rfl rfl ty27 rfl) rfl ?_;refine .dq (.move rfl) rfl ?_;refine .dq (.fieldAddr 0 rfl fl29_0 ty3.sz rfl) rfl ?_;refine .dq (.load_own 0 rfl rfl ty3 rfl) rfl ?_;refine .dq (.move rfl) rfl ?_;refine .dq (.move rfl) rfl ?_
      obtain ⟨u24, hu24, r32⟩ := bind_some r21; clear r21
      refine .callS (b1 := []) (b2 := [_]) (s1 := []) [_, _] [] .d1 rfl rfl Tryz.call57 rfl rfl (fence_last_c (G := G) List.mem_cons_self s0_1 hu24) rfl (fun v33 bo so h34 => ?_)
      obtain ⟨rfl, rfl, rfl⟩ := h34
      refine .same (bl' := [_]) (sl' := [_]) rfl rfl rfl ?_;refine .clsL (HpLe.refl _) (pick_mem [0] rfl) ?_
      obtain ⟨u35, hu35, r36⟩ := bind_some r32; clear r32
      refine .dq (.quow rfl rfl (nz_some hu35)) rfl ?_;refine .dq (.addw rfl rfl) rfl ?_;refine .dq (.min2 rfl rfl) rfl ?_
      refine .lit [_] [(0, _)] .d1 sl22 ty3 rfl rfl rfl rfl rfl rfl (fun b37 hb37 => ?_)
      have o38 : OL (Rep.int .i64) G [.int .i64 (min (w64 ((w64 (Int.tdiv u24 x0_0)) + v90)) (w64 (Int.tdiv (w64 ((x0_1.length : Int) - 1)) x0_0)))] ([(min (w64 ((w64 (Int.tdiv u24 x0_0)) + v90)) (w64 (Int.tdiv (w64 ((x0_1.length : Int) - 1)) x0_0)))] : List Int) := ((OL.cons rfl (Rep.intI .i64 (min (w64 ((w64 (Int.tdiv u24 x0_0)) + v90)) (w64 (Int.tdiv (w64 ((x0_1.length : Int) - 1)) x0_0)))) (OL.nil (Rp' := (Rep.int .i64)))) :)
      refine .reval 57 (n' := ([(min (w64 ((w64 (Int.tdiv u24 x0_0)) + v90)) (w64 (Int.tdiv (w64 ((x0_1.length : Int) - 1)) x0_0)))] : List Int).length) rfl rfl ?_;refine .clsL (HpLe.refl _) (pick_mem [0] rfl) ?_
      obtain ⟨u39, hu39, r40⟩ := bind_some r36; clear r36
      refine .appO (Q := (Rep.int .i64)) 0 .d1 sl22 ty3 rfl rfl rfl rfl rfl rfl o88 o38 rfl rfl rfl B0 hu39 rfl (fun a41 k42 cs43 o44 => ?_)
      refine .clsL (HpLe.refl _) (pick_mem [0] rfl) ?_;refine .dq (.assign rfl) rfl ?_;refine .draw_end ?_;refine .prune [(12, _), (42, _), (1, _), (3, _), (10, _), (11, _), (41, _)] ⟨rfl, rfl, rfl, rfl, rfl, rfl, rfl, trivial⟩ ?_;refine .inBlock ?_;refine .region rfl ?_;refine .q .ro (.addw rfl rfl) rfl ?_;refine .mv rfl rfl ?_;refine .re ?_
      refine .prune _ ?_ (Cov.same rfl rfl rfl (hb92 (m17, u39, a41, k42, cs43, (w64 (v90 + 1))) ⟨o44, r40⟩ (Nat.lt_succ_self _)))
      exact ⟨rfl, rfl, rfl, rfl, rfl, rfl, rfl, trivial⟩
     ·have r45 := ifF r99 c20; clear r99
      refine .exit rfl ?_;refine .seq ?_;refine .region rfl ?_;refine .mv rfl rfl ?_;refine .mv rfl rfl ?_;refine .av rfl rfl ?_;refine .av rfl rfl ?_;refine .av rfl rfl ?_;refine .re ?_
      cases r45
      refine .drop 1 0 [] _ rfl rfl ?_
      refine .retS (c := ⟨16, none⟩) (.inr ⟨_, rfl⟩) [.tmp 6, .tmp 7, .tmp 8] [_, _, _] rfl Tryz.func16 Tryz.results16 ⟨RV.tmp rfl, RV.tmp rfl, RV.tmp rfl, trivial⟩ mcm ⟨a85, k86, cs87, rfl, rfl, rfl, o88⟩
   ·intro hb19
    refine .split 26 rfl (fun c18 => ?_) (fun c18 => ?_)
    ·refine .g_off rfl rfl rfl ?_
     refine .g_off rfl rfl rfl ?_;refine .q .ro (.pick_t rfl rfl) rfl ?_
     refine .prune _ ?_ (Cov.same rfl rfl rfl (hb19 () trivial))
     exact ⟨dor_t c18, rfl, rfl, rfl, trivial⟩
    ·refine .g_on rfl ?_
     refine .mv rfl rfl ?_;refine .g_on rfl ?_;refine .q .ro (.gtr rfl rfl) rfl ?_;refine .q .ro (.pick_f rfl rfl) rfl ?_
     refine .prune _ ?_ (Cov.same rfl rfl rfl (hb19 () trivial))
     exact ⟨dor_f c18, rfl, rfl, rfl, trivial⟩
  ·intro hb15
   refine .split_b 22 rfl (fun c14 => ?_) (fun c14 => ?_)
   ·refine .g_off rfl rfl rfl ?_
    refine .g_off rfl rfl rfl ?_;refine .q .ro (.pick_t rfl rfl) rfl ?_
    refine .prune _ ?_ (Cov.same rfl rfl rfl (hb15 () trivial))
    exact ⟨dor_t c14, rfl, rfl, rfl, trivial⟩
   ·refine .g_on rfl ?_
    refine .mv rfl rfl ?_;refine .g_on rfl ?_;refine .q .ro (.lss rfl rfl) rfl ?_;refine .q .ro (.pick_f rfl rfl) rfl ?_
    refine .prune _ ?_ (Cov.same rfl rfl rfl (hb15 () trivial))
    exact ⟨dor_f (bne_of c14), rfl, rfl, rfl, trivial⟩
end Go.Proofs.YtfcicopgdahmcaaGreatDoor
end

section
set_option maxHeartbeats 4000000
set_option maxRecDepth 100000
namespace Go.Proofs.YtfcicopgdahmcaaGreatDoor
open Go.RowKit
set_option linter.unusedSimpArgs false
set_option linter.unusedVariables false
set_option synthInstance.maxSize 2000
set_option synthInstance.maxHeartbeats 400000
theorem top_TopRanges_c {Fs : List Hp} {G : Hp} {a0 : Option Addr} {k0 : Nat} {x0 : List Int} {x1 : Int} {r : Bool} (hG : G ∈ Fs) (hg0 : Rp G (.pointer (some ⟨0, 0, none⟩)) [ifc233 (some 12)]) (s0 : SlR (Rep.int .i64) G a0 k0 x0) (h : top_TopRanges x0 x1 = some r) : RetS Tryz.prog 3 #[.slice a0 x0.length k0, .int .u8 x1] Fs [] [] (fun v bo so => v = .bool r ∧ bo = [] ∧ so = []) := by
 unfold top_TopRanges at h
 try dsimp only at h
 refine RetS.of (vs := [_, _]) Tryz.func3 rfl Tryz.ntmps3 [(0, _), (1, _)] ⟨rfl, rfl, trivial⟩ rfl hG fun w0 S0 hS0 B0 => ?_
 refine .seq ?_;refine .region rfl ?_;refine .av rfl rfl ?_;refine .re ?_;refine .seq ?_;refine .seq ?_;refine .region rfl ?_
 obtain ⟨u1, hu1, r2⟩ := bind_some h; clear h
 refine .callS (b1 := []) (b2 := []) (s1 := []) [] [] .ro rfl rfl Tryz.call7 rfl rfl (top_awake_c (G := G) List.mem_cons_self hg0 hu1) rfl (fun v4 bo so h3 => ?_)
 obtain ⟨rfl, rfl, rfl⟩ := h3
 refine .same (bl' := []) (sl' := []) rfl rfl rfl ?_;refine .q .ro (.not rfl) rfl ?_;refine .re ?_
 refine .cond rfl (fun c5 => ?_) (fun c5 => ?_)
 ·have r6 := ifT r2 c5; clear r2
  refine .seq ?_;refine .region rfl ?_;refine .av rfl rfl ?_;refine .re ?_
  cases r6
  refine .retS (c := ⟨3, none⟩) (.inr ⟨_, rfl⟩) [.tmp 4] [_] rfl Tryz.func3 Tryz.results3 ⟨RV.tmp rfl, trivial⟩ mcm ⟨rfl, rfl, rfl⟩
 ·have r7 := ifBF r2 c5; clear r2
  refine .skip ?_;refine .seq ?_;refine .seq ?_;refine .region rfl ?_;refine .mv rfl rfl ?_
  obtain ⟨u8, hu8, r9⟩ := bind_some r7; clear r7
  refine .callS (b1 := []) (b2 := []) (s1 := []) [_] [] .ro rfl rfl Tryz.call8 rfl rfl (make_Few_c (G := G) List.mem_cons_self s0 hu8) rfl (fun v11 bo so h10 => ?_)
  obtain ⟨rfl, rfl, rfl⟩ := h10
  refine .same (bl' := []) (sl' := []) rfl rfl rfl ?_;refine .q .ro (.not rfl) rfl ?_;refine .re ?_
  refine .cond rfl (fun c12 => ?_) (fun c12 => ?_)
  ·have r13 := ifT r9 c12; clear r9
   refine .seq ?_;refine .region rfl ?_;refine .av rfl rfl ?_;refine .re ?_
   cases r13
   refine .retS (c := ⟨3, none⟩) (.inr ⟨_, rfl⟩) [.tmp 4] [_] rfl Tryz.func3 Tryz.results3 ⟨RV.tmp rfl, trivial⟩ mcm ⟨rfl, rfl, rfl⟩
  ·have r14 := ifBF r9 c12; clear r9
   refine .skip ?_;refine .seq ?_;refine .region rfl ?_;refine .mv rfl rfl ?_
   obtain ⟨u15, hu15, r16⟩ := bind_some r14; clear r14
   refine .callS (b1 := []) (b2 := []) (s1 := []) [_] [] .ro rfl rfl Tryz.call9 rfl rfl (make_New_c (G := G) List.mem_cons_self s0 hu15) rfl (fun v18 bo so h17 => ?_)
   obtain ⟨a20, k21, b19, rfl, rfl, rfl, s22⟩ := h17
   refine .same (bl' := [_]) (sl' := []) rfl rfl rfl ?_;refine .av rfl rfl ?_;refine .re ?_;refine .seq ?_;refine .region rfl ?_;refine .mv rfl rfl ?_
   obtain ⟨u23, hu23, r24⟩ := bind_some r16; clear r16
   refine .callW (b1 := [_]) (b2 := []) (s1 := []) [_] [] .ro rfl rfl Tryz.call10 rfl rfl (make_Fence_c (G := G) List.mem_cons_self s22 hu23) rfl B0 (fun v26 bo so G27 e28 B29 h25 => ?_)
   obtain ⟨a31, k32, a34, k35, rfl, rfl, rfl, s33, s36⟩ := h25
   refine .same (bl' := [_]) (sl' := []) rfl rfl rfl ?_
   refine .alloc .ro ty29 rfl (fun b37 hb37 => ?_)
   refine .store 0 [_, _] [_, _] .ro rfl rfl rfl ty29 rfl rfl rfl rfl ?_;refine .re ?_;refine .seq ?_;refine .region rfl ?_;refine .mv rfl rfl ?_
   obtain ⟨u38, hu38, r39⟩ := bind_some r24; clear r24
   refine .pull 1 rfl [_, _] rfl ?_
   refine .callW (b1 := [_]) (b2 := [_]) (s1 := []) [_] [] .ro rfl rfl Tryz.call11 rfl rfl (make_Word_c (G := G27) List.mem_cons_self s36 hu38) rfl B29 (fun v41 bo so G42 e43 B44 h40 => ?_)
   obtain ⟨a46, k47, rfl, rfl, rfl, s48⟩ := h40
   refine .same (bl' := [_, _]) (sl' := []) rfl rfl rfl ?_;refine .av rfl rfl ?_;refine .re ?_;refine .prune [(1, _), (6, _), (7, _)] ⟨rfl, rfl, rfl, trivial⟩ ?_;refine .seq ?_;refine .region rfl ?_;refine .q .ro (.load_own_a 1 [_, _] rfl rfl ty29 rfl) rfl ?_
   obtain ⟨u49, hu49, r50⟩ := bind_some r39; clear r39
   refine .callW (b1 := []) (b2 := [_, _]) (s1 := []) [_] [] .ro rfl rfl Tryz.call12 rfl rfl (fence_Levels_c (G := G42) List.mem_cons_self (SlR.mono e43 s33) hu49) rfl B44 (fun v52 bo so G53 e54 B55 h51 => ?_)
   obtain ⟨a58, k59, cs60, rfl, rfl, rfl, o61⟩ := h51
   refine .same (bl' := [_, _]) (sl' := [_]) rfl rfl rfl ?_;refine .mv rfl rfl ?_;refine .q .ro (.extract rfl rfl) rfl ?_;refine .q .ro (.extract rfl rfl) rfl ?_;refine .av rfl rfl ?_;refine .av rfl rfl ?_;refine .re ?_;refine .seq ?_;refine .region rfl ?_
   refine .q .ro (.fieldAddr 1 rfl fl29_1 ty27.sz rfl) rfl ?_;refine .q .ro (.load_own 1 rfl rfl ty27 rfl) rfl ?_;refine .q .ro (.len_sl rfl rfl sl27) rfl ?_;refine .q .ro (.fieldAddr 0 rfl fl29_0 ty3.sz rfl) rfl ?_;refine .q .ro (.load_own 1 rfl rfl ty3 rfl) rfl ?_
   obtain ⟨u62, hu62, r63⟩ := bind_some r50; clear r50
   refine .callS (b1 := []) (b2 := [_, _]) (s1 := []) [_, _] [] .ro rfl rfl Tryz.call13 rfl rfl (fence_Steps_c (G := G53) List.mem_cons_self  hu62) rfl (fun v65 bo so h64 => ?_)
   obtain ⟨rfl, rfl, rfl⟩ := h64
   refine .same (bl' := [_, _]) (sl' := [_]) rfl rfl rfl ?_;refine .mv rfl rfl ?_;refine .q .ro (.extract rfl rfl) rfl ?_;refine .q .ro (.extract rfl rfl) rfl ?_;refine .av rfl rfl ?_;refine .av rfl rfl ?_;refine .re ?_;refine .prune [(1, _), (6, _), (7, _), (8, _), (9, _), (10, _), (11, _)] ⟨rfl, rfl, rfl, rfl, rfl, rfl, rfl, trivial⟩ ?_;refine .seq ?_
   refine .region rfl ?_;refine .q .ro (.load_own_a 1 [_, _] rfl rfl ty29 rfl) rfl ?_;refine .mv rfl rfl ?_
   obtain ⟨u66, hu66, r67⟩ := bind_some r63; clear r63
   refine .callS (b1 := []) (b2 := [_, _]) (s1 := []) [_, _] [] .ro rfl rfl Tryz.call14 rfl rfl (fence_Probe_c (G := G53) List.mem_cons_self (SlR.mono (HpLe.trans e43 e54) s33) hu66) rfl (fun v69 bo so h68 => ?_)
   obtain ⟨a71, k72, cs73, rfl, rfl, rfl, o74⟩ := h68
   refine .same (bl' := [_, _]) (sl' := [_, _]) rfl rfl rfl ?_;refine .mv rfl rfl ?_;refine .q .ro (.extract rfl rfl) rfl ?_;refine .q .ro (.extract rfl rfl) rfl ?_;refine .q .ro (.extract rfl rfl) rfl ?_;refine .q .ro (.extract rfl rfl) rfl ?_;refine .av rfl rfl ?_;refine .av rfl rfl ?_;refine .av rfl rfl ?_
   refine .av rfl rfl ?_;refine .re ?_;refine .seq ?_;refine .seq ?_;refine .region rfl ?_;refine .mv rfl rfl ?_;refine .q .ro (.neq rfl rfl) rfl ?_;refine .mv rfl rfl ?_;refine .cutR 3 (β := Unit) (fun y => [(70, .bool (decide ((u49.2 ≠ 0) ∨ (u62.2 ≠ 0))))]) [(1, _), (6, _), (7, _), (8, _), (10, _), (12, _), (13, _), (15, _)] (fun y => G53 :: Fs) (fun y => []) [_, _] (fun y => []) [_, _] (fun y => True) ⟨rfl, rfl, rfl, rfl, rfl, rfl, rfl, rfl, trivial⟩ [0, 1] rfl [0, 1] rfl ?_ ?_
   ·rintro _ _
    refine .prune [(70, .bool (decide ((u49.2 ≠ 0) ∨ (u62.2 ≠ 0)))), (1, _), (6, _), (7, _), (8, _), (10, _), (12, _), (13, _), (15, _)] ⟨rfl, rfl, rfl, rfl, rfl, rfl, rfl, rfl, rfl, trivial⟩ ?_;refine .same (bl' := [_, _]) (sl' := [_, _]) (Fs' := G53 :: Fs) rfl rfl rfl ?_;refine .mv rfl rfl ?_;refine .cutR 3 (β := Unit) (fun y => [(74, .bool (decide (((u49.2 ≠ 0) ∨ (u62.2 ≠ 0)) ∨ (u66.2.2.2 ≠ 0))))]) [(1, _), (6, _), (7, _), (8, _), (10, _), (12, _), (13, _)] (fun y => G53 :: Fs) (fun y => []) [_, _] (fun y => []) [_, _] (fun y => True) ⟨rfl, rfl, rfl, rfl, rfl, rfl, rfl, trivial⟩ [0, 1] rfl [0, 1] rfl ?_ ?_
    ·rintro _ _
     refine .prune [(74, .bool (decide (((u49.2 ≠ 0) ∨ (u62.2 ≠ 0)) ∨ (u66.2.2.2 ≠ 0)))), (1, _), (6, _), (7, _), (8, _), (10, _), (12, _), (13, _)] ⟨rfl, rfl, rfl, rfl, rfl, rfl, rfl, rfl, trivial⟩ ?_;refine .same (bl' := [_, _]) (sl' := [_, _]) (Fs' := G53 :: Fs) rfl rfl rfl ?_;refine .mv rfl rfl ?_;refine .cutR 5 (β := Unit) (fun y => [(80, .bool (decide ((((u49.2 ≠ 0) ∨ (u62.2 ≠ 0)) ∨ (u66.2.2.2 ≠ 0)) ∨ ((u49.1.length : Int) ≠ u62.1))))]) [(1, _), (6, _), (7, _), (8, _), (10, _), (12, _), (13, _)] (fun y => G53 :: Fs) (fun y => []) [_, _] (fun y => []) [_, _] (fun y => True) ⟨rfl, rfl, rfl, rfl, rfl, rfl, rfl, trivial⟩ [0, 1] rfl [0, 1] rfl ?_ ?_
     ·rintro _ _
      refine .prune [(80, .bool (decide ((((u49.2 ≠ 0) ∨ (u62.2 ≠ 0)) ∨ (u66.2.2.2 ≠ 0)) ∨ ((u49.1.length : Int) ≠ u62.1)))), (1, _), (6, _), (7, _), (8, _), (10, _), (12, _), (13, _)] ⟨rfl, rfl, rfl, rfl, rfl, rfl, rfl, rfl, trivial⟩ ?_;refine .same (bl' := [_, _]) (sl' := [_, _]) (Fs' := G53 :: Fs) rfl rfl rfl ?_;refine .mv rfl rfl ?_;refine .cutR 5 (β := Unit) (fun y => [(86, .bool (decide (((((u49.2 ≠ 0) ∨ (u62.2 ≠ 0)) ∨ (u66.2.2.2 ≠ 0)) ∨ ((u49.1.length : Int) ≠ u62.1)) ∨ ((u66.1.length : Int) ≠ u62.1))))]) [(1, _), (6, _), (7, _), (8, _), (10, _), (12, _), (13, _)] (fun y => G53 :: Fs) (fun y => []) [_, _] (fun y => []) [_, _] (fun y => True) ⟨rfl, rfl, rfl, rfl, rfl, rfl, rfl, trivial⟩ [0, 1] rfl [0, 1] rfl ?_ ?_
      ·rintro _ _
       refine .prune [(86, .bool (decide (((((u49.2 ≠ 0) ∨ (u62.2 ≠ 0)) ∨ (u66.2.2.2 ≠ 0)) ∨ ((u49.1.length : Int) ≠ u62.1)) ∨ ((u66.1.length : Int) ≠ u62.1)))), (1, _), (6, _), (7, _), (8, _), (10, _), (12, _), (13, _)] ⟨rfl, rfl, rfl, rfl, rfl, rfl, rfl, rfl, trivial⟩ ?_;refine .same (bl' := [_, _]) (sl' := [_, _]) (Fs' := G53 :: Fs) rfl rfl rfl ?_;refine .re ?_
       refine .cond_dec rfl (fun c91 => ?_) (fun c91 => ?_)
       ·have r92 := ifT r67 c91; clear r67
        refine .seq ?_;refine .region rfl ?_;refine .av rfl rfl ?_;refine .re ?_
        cases r92
        refine .drop 2 0 [] _ rfl rfl ?_;refine .drop 0 2 _ [] rfl rfl ?_
        refine .retS (c := ⟨3, none⟩) (.inr ⟨_, rfl⟩) [.tmp 4] [_] rfl Tryz.func3 Tryz.results3 ⟨RV.tmp rfl, trivial⟩ mcm ⟨rfl, rfl, rfl⟩
       ·have r93 := ifF r67 c91; clear r67
        refine .skip ?_;refine .seq ?_;refine .region rfl ?_;refine .av rfl rfl ?_;refine .re ?_;refine .seq ?_;refine .seq ?_;refine .region rfl ?_;refine .mv rfl rfl ?_
        refine .q .ro (.subw rfl rfl) rfl ?_;refine .av rfl rfl ?_;refine .re ?_;refine .cutB (β := Int) (fun y => [(16, .int .i64 y)]) [(1, _), (6, _), (7, _), (13, _)] (fun y => G53 :: Fs) (fun y => []) [_, _] (fun y => []) [_, _] (fun y => (top_TopRanges_J7 x1 u38.1 u66.2.1 u23.1.1 u23.1.2) y = some r) ⟨rfl, rfl, rfl, rfl, trivial⟩ [0, 1] rfl [0, 1] rfl ?_ ?_
        ·intro v30 hI
         have r45 := hI; clear hI
         refine .prune [(16, .int .i64 v30), (1, _), (6, _), (7, _), (13, _)] ⟨rfl, rfl, rfl, rfl, rfl, trivial⟩ ?_;refine .same (bl' := [_, _]) (sl' := [_, _]) (Fs' := G53 :: Fs) rfl rfl rfl ?_
         unfold top_TopRanges_J7 at r45
         try dsimp only at r45
         refine .seq ?_;refine .region rfl ?_;refine .mv rfl rfl ?_;refine .q .ro (.remt rfl rfl (by decide)) rfl ?_;refine .q .ro (.convw Tryz.underlying5 Tryz.underlying3 rfl) rfl ?_;refine .q .ro (.addw rfl rfl) rfl ?_;refine .av rfl rfl ?_;refine .re ?_;refine .seq ?_
         refine .region rfl ?_;refine .q .ro (.load_own_a 1 [_, _] rfl rfl ty29 rfl) rfl ?_;refine .mv rfl rfl ?_;refine .mv rfl rfl ?_
         obtain ⟨u56, hu56, r57⟩ := bind_some r45; clear r45
         refine .callS (b1 := []) (b2 := [_, _]) (s1 := []) [_, _, _] [] .ro rfl rfl Tryz.call16 rfl rfl (fence_Range_c (G := G53) List.mem_cons_self (SlR.mono (HpLe.trans e43 e54) s33) hu56) rfl (fun v70 bo so h77 => ?_)
         obtain ⟨a78, k81, cs82, rfl, rfl, rfl, o85⟩ := h77
         refine .same (bl' := [_, _]) (sl' := [_, _, _]) rfl rfl rfl ?_;refine .mv rfl rfl ?_;refine .q .ro (.extract rfl rfl) rfl ?_;refine .q .ro (.extract rfl rfl) rfl ?_;refine .q .ro (.extract rfl rfl) rfl ?_;refine .av rfl rfl ?_;refine .av rfl rfl ?_;refine .av rfl rfl ?_;refine .re ?_
         refine .prune [(16, _), (6, _), (7, _), (13, _), (21, _), (22, _), (23, _), (24, _)] ⟨rfl, rfl, rfl, rfl, rfl, rfl, rfl, rfl, trivial⟩ ?_;refine .seq ?_;refine .seq ?_
         refine .freezeR 0 rfl rfl o85 [_, _] rfl B55 (fun G86 e89 B90 s94 => ?_)
         refine .drawL (.q 0 (.q 1 (.q 2 (.q 3 (.q 4 (.q 5 (.q 6 (.q 7 (.q 8 (.q 9 (.q 10 (.q 11 (.q 12 (.q 13 (.q 14 (.q 15 (.q 16 (.q 17 (.q 18 (.q 19 (.q 20 (.q 21 (.q 22 .nil))))))))))))))))))))))) [_, _] (by kernel_rfl) (by kernel_rfl) (pick_mem [0, 1] rfl) ?_;refine .dq (.move rfl) rfl ?_;refine .dq (.neq rfl rfl) rfl ?_;refine .dq (.move rfl) rfl ?_;refine .cutD 5 (β := Unit) (fun y => [(150, .bool (decide ((u56.2.2 ≠ 0) ∨ ((u56.1.length : Int) ≠ (w64 (1 + (w64 (Int.tmod x1 5))))))))]) [(16, _), (6, _), (7, _), (13, _), (21, _), (22, _), (23, _)] (fun y => G86 :: Fs) (fun y => []) [_, _] (fun y => []) [_, _] (fun y => True) ⟨rfl, rfl, rfl, rfl, rfl, rfl, rfl, trivial⟩ [0, 1] rfl [0, 1] rfl ?_ ?_
         ·rintro _ _
          refine .prune [(150, .bool (decide ((u56.2.2 ≠ 0) ∨ ((u56.1.length : Int) ≠ (w64 (1 + (w64 (Int.tmod x1 5)))))))), (16, _), (6, _), (7, _), (13, _), (21, _), (22, _), (23, _)] ⟨rfl, rfl, rfl, rfl, rfl, rfl, rfl, rfl, trivial⟩ ?_;refine .same (bl' := [_, _]) (sl' := [_, _]) (Fs' := G86 :: Fs) rfl rfl rfl ?_;refine .dq (.move rfl) rfl ?_;refine .cutD 4 (β := Unit) (fun y => [(155, .bool (decide (((u56.2.2 ≠ 0) ∨ ((u56.1.length : Int) ≠ (w64 (1 + (w64 (Int.tmod x1 5)))))) ∨ (v30 ≠ u66.2.1))))]) [(6, _), (7, _), (13, _), (21, _), (22, _), (23, _)] (fun y => G86 :: Fs) (fun y => []) [_, _] (fun y => []) [_, _] (fun y => True) ⟨rfl, rfl, rfl, rfl, rfl, rfl, trivial⟩ [0, 1] rfl [0, 1] rfl ?_ ?_
          ·rintro _ _
           refine .prune [(155, .bool (decide (((u56.2.2 ≠ 0) ∨ ((u56.1.length : Int) ≠ (w64 (1 + (w64 (Int.tmod x1 5)))))) ∨ (v30 ≠ u66.2.1)))), (6, _), (7, _), (13, _), (21, _), (22, _), (23, _)] ⟨rfl, rfl, rfl, rfl, rfl, rfl, rfl, trivial⟩ ?_;refine .same (bl' := [_, _]) (sl' := [_, _]) (Fs' := G86 :: Fs) rfl rfl rfl ?_;refine .dq (.move rfl) rfl ?_
           obtain ⟨u95, h96, r97⟩ := bind_some r57; clear r57
           refine .cutD 9 (β := Unit) (fun y => [(165, .bool u95)]) [(6, _), (7, _), (21, _), (22, _), (23, _)] (fun y => G86 :: Fs) (fun y => []) [_, _] (fun y => []) [_, _] (fun y => True) ⟨rfl, rfl, rfl, rfl, rfl, trivial⟩ [0, 1] rfl [0, 1] rfl ?_ ?_
           ·rintro _ _
            refine .prune [(165, .bool u95), (6, _), (7, _), (21, _), (22, _), (23, _)] ⟨rfl, rfl, rfl, rfl, rfl, rfl, trivial⟩ ?_;refine .same (bl' := [_, _]) (sl' := [_, _]) (Fs' := G86 :: Fs) rfl rfl rfl ?_;refine .draw_end ?_
            refine .cond rfl (fun c98 => ?_) (fun c98 => ?_)
            ·have r99 := ifT r97 c98; clear r97
             refine .seq ?_;refine .region rfl ?_;refine .av rfl rfl ?_;refine .re ?_
             cases r99
             refine .drop 2 0 [] _ rfl rfl ?_;refine .drop 0 2 _ [] rfl rfl ?_
             refine .retS (c := ⟨3, none⟩) (.inr ⟨_, rfl⟩) [.tmp 4] [_] rfl Tryz.func3 Tryz.results3 ⟨RV.tmp rfl, trivial⟩ mcm ⟨rfl, rfl, rfl⟩
            ·have r100 := ifBF r97 c98; clear r97
             refine .skip ?_;refine .seq ?_;refine .region rfl ?_;refine .av rfl rfl ?_;refine .re ?_;refine .seq ?_;refine .region rfl ?_;refine .av rfl rfl ?_;refine .re ?_
             refine .seq ?_;refine .seq ?_;refine .region rfl ?_;refine .mv rfl rfl ?_;refine .q .ro (.len_sl rfl rfl sl22) rfl ?_;refine .mv rfl rfl ?_;refine .re ?_;refine .cutB (β := List ByteArray × Option Addr × Nat × List Value) (fun y => [(26, .slice y.2.1 y.1.length y.2.2.1)]) [(6, _), (7, _), (21, _), (23, _)] (fun y => G86 :: Fs) (fun y => []) [_, _] (fun y => [.s (.slice y.2.1 y.1.length y.2.2.1) 9 1 y.1.length y.2.2.2]) [_, _] (fun y => OL Rep.str G86 y.2.2.2 y.1 ∧ (top_TopRanges_J3 u38.1 (w64 (1 + (w64 (Int.tmod x1 5)))) u56.2.1 u23.1.1 u23.1.2) y.1 = some r) ⟨rfl, rfl, rfl, rfl, trivial⟩ [0, 1] rfl [0, 1] rfl ?_ ?_
             ·intro y hI
              obtain ⟨v101, a102, k103, cs104⟩ := y
              obtain ⟨o105, r106⟩ := hI
              try dsimp only at o105 r106
              refine .prune [(26, .slice a102 v101.length k103), (6, _), (7, _), (21, _), (23, _)] ⟨rfl, rfl, rfl, rfl, rfl, trivial⟩ ?_;refine .same (bl' := [_, _]) (sl' := [.s (.slice a102 v101.length k103) 9 1 v101.length cs104, _, _]) (Fs' := G86 :: Fs) rfl rfl rfl ?_
              unfold top_TopRanges_J3 at r106
              try dsimp only at r106
              refine .seq ?_;refine .seq ?_;refine .region rfl ?_;refine .mv rfl rfl ?_;refine .q .ro (.len_sl rfl rfl sl27) rfl ?_;refine .mv rfl rfl ?_;refine .re ?_;refine .cutB (β := Unit) (fun y => []) [(26, _), (6, _), (21, _), (23, _)] (fun y => G86 :: Fs) (fun y => []) [_, _] (fun y => []) [_, _, _] (fun y => (top_TopRanges_J1 (w64 (1 + (w64 (Int.tmod x1 5)))) u56.2.1 u23.1.1 u23.1.2 v101)  = some r) ⟨rfl, rfl, rfl, rfl, trivial⟩ [0, 1] rfl [0, 1, 2] rfl ?_ ?_
              ·intro _ hI
               have r107 := hI; clear hI
               refine .prune [(26, _), (6, _), (21, _), (23, _)] ⟨rfl, rfl, rfl, rfl, trivial⟩ ?_;refine .same (bl' := [_, _]) (sl' := [_, _, _]) (Fs' := G86 :: Fs) rfl rfl rfl ?_
               unfold top_TopRanges_J1 at r107
               try dsimp only at r107
               refine .seq ?_;refine .region rfl ?_;refine .mv rfl rfl ?_;refine .q .ro (.len_sl rfl rfl sl27) rfl ?_;refine .q .ro (.fieldAddr 1 rfl fl29_1 ty27.sz rfl) rfl ?_;refine .q .ro (.load_own 1 rfl rfl ty27 rfl) rfl ?_;refine .q .ro (.len_sl rfl rfl sl27) rfl ?_;refine .mv rfl rfl ?_;refine .q .ro (.subw rfl rfl) rfl ?_
               refine .mv rfl rfl ?_;refine .q .ro (.subw rfl rfl) rfl ?_;refine .q .ro (.fieldAddr 0 rfl fl29_0 ty3.sz rfl) rfl ?_;refine .q .ro (.load_own 1 rfl rfl ty3 rfl) rfl ?_;refine .q .ro (.mulw rfl rfl) rfl ?_;refine .q .ro (.min2 rfl rfl) rfl ?_;refine .q .ro (.geq rfl rfl) rfl ?_;refine .av rfl rfl ?_;refine .re ?_
               refine .prune [(4, _)] ⟨rfl, trivial⟩ ?_
               cases r107
               refine .drop 2 0 [] _ rfl rfl ?_;refine .drop 0 3 _ [] rfl rfl ?_
               refine .retS (c := ⟨3, none⟩) (.inr ⟨_, rfl⟩) [.tmp 4] [_] rfl Tryz.func3 Tryz.results3 ⟨RV.tmp rfl, trivial⟩ mcm ⟨rfl, rfl, rfl⟩
              ·intro hb108
               refine .block ?_
               refine .loop2 (α := Nat × List ByteArray) (fun y => [(211, .int .i64 (y.1 : Int))]) [(26, _), (6, _), (7, _), (21, _), (23, _), (209, _), (210, _)] (fun y => []) (fun y => []) [_, _] (fun y => []) [_, _, _] (fun y => List.drop y.1 v101 = y.2 ∧ top_TopRanges_L2 (top_TopRanges_J1 (w64 (1 + (w64 (Int.tmod x1 5)))) u56.2.1 u23.1.1 u23.1.2 v101) u38.1 u56.2.1 u23.1.2 y.2 y.1  = some r) (fun y => y.2.length) (0, v101) ⟨rfl, r106⟩ ⟨rfl, rfl, rfl, rfl, rfl, rfl, rfl, rfl, trivial⟩ rfl rfl rfl (fun y hI hb109 => ?_)
               obtain ⟨i110, w111⟩ := y
               obtain ⟨g112, r113⟩ := hI
               try dsimp only at g112 r113
               refine .prune [(211, .int .i64 (i110 : Int)), (26, _), (6, _), (7, _), (21, _), (23, _), (209, _), (210, _)] ⟨rfl, rfl, rfl, rfl, rfl, rfl, rfl, rfl, trivial⟩ ?_;refine .same (bl' := [_, _]) (sl' := [_, _, _]) (Fs' := G86 :: Fs) rfl rfl rfl ?_
               cases w111 with
               | nil =>
                rw [top_TopRanges_L2] at r113; try dsimp only at r113
                refine .seq ?_;refine .region rfl ?_;refine .q .ro (.lss rfl rfl) rfl ?_;refine .re ?_;refine .seq ?_
                refine .cond_dec rfl (fun c => absurd c (drop_nil g112)) (fun _ => ?_)
                refine .exit rfl ?_
                refine .prune _ ?_ (Cov.same rfl rfl rfl (hb108 () r113))
                exact ⟨rfl, rfl, rfl, rfl, trivial⟩
               | cons x114 xs115 =>
                have r116 : top_TopRanges_B2 (top_TopRanges_J1 (w64 (1 + (w64 (Int.tmod x1 5)))) u56.2.1 u23.1.1 u23.1.2 v101) u38.1 u56.2.1 u23.1.2 (top_TopRanges_L2 (top_TopRanges_J1 (w64 (1 + (w64 (Int.tmod x1 5)))) u56.2.1 u23.1.1 u23.1.2 v101) u38.1 u56.2.1 u23.1.2 xs115 (i110 + 1)) x114 i110  = some r := r113; clear r113; unfold top_TopRanges_B2 at r116; try dsimp only at r116
                refine .seq ?_;refine .region rfl ?_;refine .q .ro (.lss rfl rfl) rfl ?_;refine .re ?_;refine .seq ?_
                refine .cond_dec rfl (fun _ => ?_) (fun c => absurd (drop_lt g112) c)
                refine .skip ?_;refine .seq ?_;refine .block ?_;refine .seq ?_;refine .region rfl ?_;refine .mv rfl rfl ?_
                obtain ⟨c117, p118, h119⟩ := OL.get o105 (drop_idx g112)
                obtain rfl := h119
                refine .q .ro (.idxO 0 rfl rfl rfl (drop_idx g112) sl27 ty9.sz) rfl ?_;refine .q .ro (.loadO 0 0 rfl (drop_idx g112) p118 rfl (.inl ⟨rfl, rfl⟩) ty9 rfl) rfl ?_;refine .av rfl rfl ?_;refine .av rfl rfl ?_;refine .re ?_;refine .seq ?_;refine .region rfl ?_;refine .mv rfl rfl ?_;refine .mv rfl rfl ?_
                refine .q .ro (.lss_d rfl rfl) rfl ?_;refine .mv rfl rfl ?_;refine .cutR 8 (β := Unit) (fun y => [(227, .bool (decide ((sLt x114 u38.1) ∨ ((u23.1.2.length : Int) ≤ (w64 (u56.2.1 + (i110 : Int)))))))]) [(211, _), (26, _), (6, _), (7, _), (21, _), (23, _), (209, _), (210, _), (30, _), (31, _)] (fun y => G86 :: Fs) (fun y => []) [_, _] (fun y => []) [_, _, _] (fun y => True) ⟨rfl, rfl, rfl, rfl, rfl, rfl, rfl, rfl, rfl, rfl, trivial⟩ [0, 1] rfl [0, 1, 2] rfl ?_ ?_
                ·rintro _ _
                 refine .prune [(227, .bool (decide ((sLt x114 u38.1) ∨ ((u23.1.2.length : Int) ≤ (w64 (u56.2.1 + (i110 : Int))))))), (211, _), (26, _), (6, _), (7, _), (21, _), (23, _), (209, _), (210, _), (30, _), (31, _)] ⟨rfl, rfl, rfl, rfl, rfl, rfl, rfl, rfl, rfl, rfl, rfl, trivial⟩ ?_;refine .same (bl' := [_, _]) (sl' := [_, _, _]) (Fs' := G86 :: Fs) rfl rfl rfl ?_;refine .mv rfl rfl ?_
                 obtain ⟨u120, h121, r122⟩ := bind_some r116; clear r116
                 refine .cutR 10 (β := Unit) (fun y => [(238, .bool u120)]) [(211, _), (26, _), (6, _), (7, _), (21, _), (23, _), (209, _), (210, _)] (fun y => G86 :: Fs) (fun y => []) [_, _] (fun y => []) [_, _, _] (fun y => True) ⟨rfl, rfl, rfl, rfl, rfl, rfl, rfl, rfl, trivial⟩ [0, 1] rfl [0, 1, 2] rfl ?_ ?_
                 ·rintro _ _
                  refine .prune [(238, .bool u120), (211, _), (26, _), (6, _), (7, _), (21, _), (23, _), (209, _), (210, _)] ⟨rfl, rfl, rfl, rfl, rfl, rfl, rfl, rfl, rfl, trivial⟩ ?_;refine .same (bl' := [_, _]) (sl' := [_, _, _]) (Fs' := G86 :: Fs) rfl rfl rfl ?_;refine .re ?_
                  refine .cond rfl (fun c123 => ?_) (fun c123 => ?_)
                  ·have r124 := ifT r122 c123; clear r122
                   refine .seq ?_;refine .region rfl ?_;refine .av rfl rfl ?_;refine .re ?_
                   cases r124
                   refine .drop 2 0 [] _ rfl rfl ?_;refine .drop 0 3 _ [] rfl rfl ?_
                   refine .retS (c := ⟨3, none⟩) (.inr ⟨_, rfl⟩) [.tmp 4] [_] rfl Tryz.func3 Tryz.results3 ⟨RV.tmp rfl, trivial⟩ mcm ⟨rfl, rfl, rfl⟩
                  ·have r125 := ifBF r122 c123; clear r122
                   refine .skip ?_;refine .inBlock ?_;refine .region rfl ?_;refine .q .ro (.addw rfl rfl) rfl ?_;refine .mv rfl rfl ?_;refine .re ?_
                   refine .prune _ ?_ (Cov.same rfl rfl rfl (hb109 ((i110 + 1), xs115) ⟨(drop_succ g112), r125⟩ (Nat.lt_succ_self _)))
                   exact ⟨(congrArg (fun z => some (Value.int .i64 z)) (idx_wrap (OL.len' o105) g112)), rfl, rfl, rfl, rfl, rfl, rfl, rfl, trivial⟩
                 ·intro hb126
                  refine .split 228 rfl (fun c127 => ?_) (fun c127 => ?_)
                  ·have r128 := ifT h121 c127
                   refine .g_off rfl rfl rfl ?_;refine .g_off rfl rfl rfl ?_;refine .g_off rfl rfl rfl ?_;refine .g_off rfl rfl rfl ?_;refine .g_off rfl rfl rfl ?_;refine .g_off rfl rfl rfl ?_;refine .g_off rfl rfl rfl ?_;refine .g_off rfl rfl rfl ?_;refine .g_off rfl rfl rfl ?_
                   refine .q .ro (.pick_t rfl rfl) rfl ?_
                   refine .prune _ ?_ (Cov.same rfl rfl rfl (hb126 () trivial))
                   exact ⟨sval r128, rfl, rfl, rfl, rfl, rfl, rfl, rfl, rfl, trivial⟩
                  ·have r129 := ifF h121 c127
                   refine .g_on rfl ?_;refine .mv rfl rfl ?_;refine .g_on rfl ?_;refine .q .ro (.fieldAddr 1 rfl fl29_1 ty27.sz rfl) rfl ?_;refine .g_on rfl ?_;refine .q .ro (.load_own 1 rfl rfl ty27 rfl) rfl ?_;refine .g_on rfl ?_;refine .mv rfl rfl ?_;refine .g_on rfl ?_
                   refine .mv rfl rfl ?_;refine .g_on rfl ?_;refine .q .ro (.addw rfl rfl) rfl ?_;refine .g_on rfl ?_
                   obtain ⟨u130, hu130, r131⟩ := bind_some r129; clear r129
                   obtain ⟨c132, p133, h134⟩ := SlR.get (SlR.mono (HpLe.trans (HpLe.trans e43 e54) e89) s33) hu130
                   obtain rfl := h134
                   refine .q .ro (.idxR (SlR.mono (HpLe.trans (HpLe.trans e43 e54) e89) s33) rfl rfl hu130 sl27 ty9.sz) rfl ?_;refine .g_on rfl ?_;refine .q .ro (.load_rp p133 List.mem_cons_self rfl ty9 rfl) rfl ?_;refine .g_on rfl ?_;refine .q .ro (.neq_s rfl rfl) rfl ?_;refine .q .ro (.pick_f rfl rfl) rfl ?_
                   refine .prune _ ?_ (Cov.same rfl rfl rfl (hb126 () trivial))
                   exact ⟨sval r131, rfl, rfl, rfl, rfl, rfl, rfl, rfl, rfl, trivial⟩
                ·intro hb135
                 refine .split 219 rfl (fun c136 => ?_) (fun c136 => ?_)
                 ·refine .g_off rfl rfl rfl ?_
                  refine .g_off rfl rfl rfl ?_;refine .g_off rfl rfl rfl ?_;refine .g_off rfl rfl rfl ?_;refine .g_off rfl rfl rfl ?_;refine .g_off rfl rfl rfl ?_;refine .g_off rfl rfl rfl ?_;refine .q .ro (.pick_t rfl rfl) rfl ?_
                  refine .prune _ ?_ (Cov.same rfl rfl rfl (hb135 () trivial))
                  exact ⟨dor_t c136, rfl, rfl, rfl, rfl, rfl, rfl, rfl, rfl, rfl, rfl, trivial⟩
                 ·refine .g_on rfl ?_
                  refine .mv rfl rfl ?_;refine .g_on rfl ?_;refine .mv rfl rfl ?_;refine .g_on rfl ?_;refine .q .ro (.addw rfl rfl) rfl ?_;refine .g_on rfl ?_;refine .q .ro (.fieldAddr 1 rfl fl29_1 ty27.sz rfl) rfl ?_;refine .g_on rfl ?_;refine .q .ro (.load_own 1 rfl rfl ty27 rfl) rfl ?_
                  refine .g_on rfl ?_;refine .q .ro (.len_sl rfl rfl sl27) rfl ?_;refine .g_on rfl ?_;refine .q .ro (.geq rfl rfl) rfl ?_;refine .q .ro (.pick_f rfl rfl) rfl ?_
                  refine .prune _ ?_ (Cov.same rfl rfl rfl (hb135 () trivial))
                  exact ⟨dor_f c136, rfl, rfl, rfl, rfl, rfl, rfl, rfl, rfl, rfl, rfl, trivial⟩
             ·intro hb137
              refine .block ?_;refine .own_nil 9 1 ?_
              refine .loop2 (α := Nat × List Int × Int × List ByteArray × Option Addr × Nat × List Value) (fun y => [(25, .int .i64 y.2.2.1), (26, .slice y.2.2.2.2.1 y.2.2.2.1.length y.2.2.2.2.2.1), (168, .int .i64 (y.1 : Int))]) [(6, _), (7, _), (21, _), (23, _), (166, _), (167, _)] (fun y => []) (fun y => []) [_, _] (fun y => [.s (.slice y.2.2.2.2.1 y.2.2.2.1.length y.2.2.2.2.2.1) 9 1 y.2.2.2.1.length y.2.2.2.2.2.2]) [_, _] (fun y => OL Rep.str G86 y.2.2.2.2.2.2 y.2.2.2.1 ∧ List.drop y.1 u56.1 = y.2.1 ∧ top_TopRanges_L6 (top_TopRanges_J3 u38.1 (w64 (1 + (w64 (Int.tmod x1 5)))) u56.2.1 u23.1.1 u23.1.2) u56.2.1 u23.1.1 u23.1.2 y.2.1 y.2.2.1 y.2.2.2.1 = some r) (fun y => y.2.1.length) (0, u56.1, (-1), ([] : List ByteArray), none, 0, []) ⟨(OL.nil (Rp' := Rep.str)), rfl, r100⟩ ⟨rfl, rfl, rfl, rfl, rfl, rfl, rfl, rfl, rfl, trivial⟩ rfl rfl rfl (fun y hI hb138 => ?_)
              obtain ⟨i139, w140, v141, v142, a143, k144, cs145⟩ := y
              obtain ⟨o146, g147, r148⟩ := hI
              try dsimp only at o146 g147 r148
              refine .prune [(25, .int .i64 v141), (26, .slice a143 v142.length k144), (168, .int .i64 (i139 : Int)), (6, _), (7, _), (21, _), (23, _), (166, _), (167, _)] ⟨rfl, rfl, rfl, rfl, rfl, rfl, rfl, rfl, rfl, trivial⟩ ?_;refine .same (bl' := [_, _]) (sl' := [.s (.slice a143 v142.length k144) 9 1 v142.length cs145, _, _]) (Fs' := G86 :: Fs) rfl rfl rfl ?_
              cases w140 with
              | nil =>
               rw [top_TopRanges_L6] at r148; try dsimp only at r148
               refine .seq ?_;refine .region rfl ?_;refine .q .ro (.lss rfl rfl) rfl ?_;refine .re ?_;refine .seq ?_
               refine .cond_dec rfl (fun c => absurd c (drop_nil g147)) (fun _ => ?_)
               refine .exit rfl ?_
               refine .prune _ ?_ (Cov.same rfl rfl rfl (hb137 (v142, a143, k144, cs145) ⟨o146, r148⟩))
               exact ⟨rfl, rfl, rfl, rfl, rfl, trivial⟩
              | cons x149 xs150 =>
               have r151 : top_TopRanges_B6 (top_TopRanges_J3 u38.1 (w64 (1 + (w64 (Int.tmod x1 5)))) u56.2.1 u23.1.1 u23.1.2) u56.2.1 u23.1.1 u23.1.2 (top_TopRanges_L6 (top_TopRanges_J3 u38.1 (w64 (1 + (w64 (Int.tmod x1 5)))) u56.2.1 u23.1.1 u23.1.2) u56.2.1 u23.1.1 u23.1.2 xs150) x149 v141 v142 = some r := r148; clear r148; unfold top_TopRanges_B6 at r151; try dsimp only at r151
               refine .seq ?_;refine .region rfl ?_;refine .q .ro (.lss rfl rfl) rfl ?_;refine .re ?_;refine .seq ?_
               refine .cond_dec rfl (fun _ => ?_) (fun c => absurd (drop_lt g147) c)
               refine .skip ?_;refine .seq ?_;refine .block ?_;refine .seq ?_;refine .region rfl ?_
               obtain ⟨c152, p153, h154⟩ := SlR.get s94 (drop_idx g147)
               obtain rfl := h154
               refine .q .ro (.idxR s94 rfl rfl (drop_idx g147) sl22 ty3.sz) rfl ?_;refine .q .ro (.load_rp p153 List.mem_cons_self rfl ty3 rfl) rfl ?_;refine .av rfl rfl ?_;refine .re ?_;refine .seq ?_;refine .region rfl ?_;refine .mv rfl rfl ?_;refine .q .ro (.fieldAddr 0 rfl fl29_0 ty3.sz rfl) rfl ?_;refine .q .ro (.load_own 1 rfl rfl ty3 rfl) rfl ?_
               refine .q .ro (.mulw rfl rfl) rfl ?_;refine .av rfl rfl ?_;refine .re ?_;refine .block ?_
               refine .loop2 (α := Nat × Int × List ByteArray × Option Addr × Nat × List Value × Int) (fun y => [(25, .int .i64 y.2.1), (26, .slice y.2.2.2.1 y.2.2.1.length y.2.2.2.2.1), (29, .int .i64 y.2.2.2.2.2.2)]) [(168, _), (6, _), (7, _), (21, _), (23, _), (166, _), (167, _), (28, _)] (fun y => []) (fun y => []) [_, _] (fun y => [.s (.slice y.2.2.2.1 y.2.2.1.length y.2.2.2.2.1) 9 1 y.2.2.1.length y.2.2.2.2.2.1]) [_, _] (fun y => OL Rep.str G86 y.2.2.2.2.2.1 y.2.2.1 ∧ top_TopRanges_L5 (top_TopRanges_L6 (top_TopRanges_J3 u38.1 (w64 (1 + (w64 (Int.tmod x1 5)))) u56.2.1 u23.1.1 u23.1.2) u56.2.1 u23.1.1 u23.1.2 xs150) u56.2.1 x149 u23.1.1 u23.1.2 y.1 y.2.1 y.2.2.1 y.2.2.2.2.2.2 = some r) (fun y => y.1) (big, v141, v142, a143, k144, cs145, (w64 (x149 * u23.1.1))) ⟨o146, r151⟩ ⟨rfl, rfl, rfl, rfl, rfl, rfl, rfl, rfl, rfl, rfl, rfl, trivial⟩ rfl rfl rfl (fun y hI hb155 => ?_)
               obtain ⟨n156, v157, v158, a159, k160, cs161, v162⟩ := y
               obtain ⟨o163, r164⟩ := hI
               try dsimp only at o163 r164
               refine .prune [(25, .int .i64 v157), (26, .slice a159 v158.length k160), (29, .int .i64 v162), (168, _), (6, _), (7, _), (21, _), (23, _), (166, _), (167, _), (28, _)] ⟨rfl, rfl, rfl, rfl, rfl, rfl, rfl, rfl, rfl, rfl, rfl, trivial⟩ ?_;refine .same (bl' := [_, _]) (sl' := [.s (.slice a159 v158.length k160) 9 1 v158.length cs161, _, _]) (Fs' := G86 :: Fs) rfl rfl rfl ?_
               obtain ⟨m165, rfl⟩ : ∃ m, n156 = m + 1 := by cases n156 with | zero => exact absurd (show (none : Option _) = some _ from r164) (by simp) | succ m => exact ⟨m, rfl⟩
               have r166 : top_TopRanges_B5 (top_TopRanges_L6 (top_TopRanges_J3 u38.1 (w64 (1 + (w64 (Int.tmod x1 5)))) u56.2.1 u23.1.1 u23.1.2) u56.2.1 u23.1.1 u23.1.2 xs150) u56.2.1 x149 u23.1.1 u23.1.2 (top_TopRanges_L5 (top_TopRanges_L6 (top_TopRanges_J3 u38.1 (w64 (1 + (w64 (Int.tmod x1 5)))) u56.2.1 u23.1.1 u23.1.2) u56.2.1 u23.1.1 u23.1.2 xs150) u56.2.1 x149 u23.1.1 u23.1.2 m165) v157 v158 v162 = some r := r164; clear r164; unfold top_TopRanges_B5 at r166; try dsimp only at r166
               refine .seq ?_;refine .seq ?_;refine .region rfl ?_;refine .mv rfl rfl ?_;refine .q .ro (.fieldAddr 1 rfl fl29_1 ty27.sz rfl) rfl ?_;refine .q .ro (.load_own 1 rfl rfl ty27 rfl) rfl ?_;refine .q .ro (.len_sl rfl rfl sl27) rfl ?_;refine .mv rfl rfl ?_;refine .q .ro (.addw rfl rfl) rfl ?_
               refine .q .ro (.fieldAddr 0 rfl fl29_0 ty3.sz rfl) rfl ?_;refine .q .ro (.load_own 1 rfl rfl ty3 rfl) rfl ?_;refine .q .ro (.mulw rfl rfl) rfl ?_;refine .q .ro (.min2 rfl rfl) rfl ?_;refine .q .ro (.lss rfl rfl) rfl ?_;refine .re ?_
               refine .cond_dec rfl (fun c167 => ?_) (fun c167 => ?_)
               ·have r168 := ifT r166 c167; clear r166
                refine .skip ?_;refine .seq ?_;refine .block ?_;refine .seq ?_;refine .seq ?_;refine .region rfl ?_;refine .mv rfl rfl ?_;refine .mv rfl rfl ?_;refine .q .ro (.gtr rfl rfl) rfl ?_
                refine .mv rfl rfl ?_;refine .cutR 4 (β := Unit) (fun y => [(196, .bool (decide ((v157 < v162) ∧ (u56.2.1 ≤ v162))))]) [(25, _), (26, _), (29, _), (168, _), (6, _), (7, _), (21, _), (23, _), (166, _), (167, _), (28, _)] (fun y => G86 :: Fs) (fun y => []) [_, _] (fun y => []) [_, _, _] (fun y => True) ⟨rfl, rfl, rfl, rfl, rfl, rfl, rfl, rfl, rfl, rfl, rfl, trivial⟩ [0, 1] rfl [0, 1, 2] rfl ?_ ?_
                ·rintro _ _
                 refine .prune [(196, .bool (decide ((v157 < v162) ∧ (u56.2.1 ≤ v162)))), (25, _), (26, _), (29, _), (168, _), (6, _), (7, _), (21, _), (23, _), (166, _), (167, _), (28, _)] ⟨rfl, rfl, rfl, rfl, rfl, rfl, rfl, rfl, rfl, rfl, rfl, rfl, trivial⟩ ?_;refine .same (bl' := [_, _]) (sl' := [_, _, _]) (Fs' := G86 :: Fs) rfl rfl rfl ?_;refine .re ?_;refine .cutI (β := List ByteArray × Option Addr × Nat × List Value) (fun y => [(26, .slice y.2.1 y.1.length y.2.2.1)]) [(25, _), (29, _), (168, _), (6, _), (7, _), (21, _), (23, _), (166, _), (167, _), (28, _)] (fun y => G86 :: Fs) (fun y => []) [_, _] (fun y => [.s (.slice y.2.1 y.1.length y.2.2.1) 9 1 y.1.length y.2.2.2]) [_, _] (fun y => OL Rep.str G86 y.2.2.2 y.1 ∧ (top_TopRanges_J4 (top_TopRanges_L5 (top_TopRanges_L6 (top_TopRanges_J3 u38.1 (w64 (1 + (w64 (Int.tmod x1 5)))) u56.2.1 u23.1.1 u23.1.2) u56.2.1 u23.1.1 u23.1.2 xs150) u56.2.1 x149 u23.1.1 u23.1.2 m165) v157 v162) y.1 = some r) ⟨rfl, rfl, rfl, rfl, rfl, rfl, rfl, rfl, rfl, rfl, trivial⟩ [0, 1] rfl [1, 2] rfl ?_ ?_
                 ·intro y hI
                  obtain ⟨v169, a170, k171, cs172⟩ := y
                  obtain ⟨o173, r174⟩ := hI
                  try dsimp only at o173 r174
                  refine .prune [(26, .slice a170 v169.length k171), (25, _), (29, _), (168, _), (6, _), (7, _), (21, _), (23, _), (166, _), (167, _), (28, _)] ⟨rfl, rfl, rfl, rfl, rfl, rfl, rfl, rfl, rfl, rfl, rfl, trivial⟩ ?_;refine .same (bl' := [_, _]) (sl' := [.s (.slice a170 v169.length k171) 9 1 v169.length cs172, _, _]) (Fs' := G86 :: Fs) rfl rfl rfl ?_
                  unfold top_TopRanges_J4 at r174
                  try dsimp only at r174
                  refine .region rfl ?_;refine .mv rfl rfl ?_;refine .mv rfl rfl ?_;refine .q .ro (.max2 rfl rfl) rfl ?_;refine .av rfl rfl ?_;refine .re ?_;refine .inBlock ?_;refine .region rfl ?_;refine .mv rfl rfl ?_
                  refine .q .ro (.addw rfl rfl) rfl ?_;refine .av rfl rfl ?_;refine .re ?_
                  refine .prune _ ?_ (Cov.same rfl rfl rfl (hb155 (m165, (max v157 v162), v169, a170, k171, cs172, (w64 (v162 + 1))) ⟨o173, r174⟩ (Nat.lt_succ_self _)))
                  exact ⟨rfl, rfl, rfl, rfl, rfl, rfl, rfl, rfl, rfl, rfl, rfl, trivial⟩
                 ·intro hb175
                  refine .cond_dec rfl (fun c176 => ?_) (fun c176 => ?_)
                  ·have r177 := ifT r168 c176; clear r168
                   refine .region rfl ?_;refine .mv rfl rfl ?_;refine .q .ro (.fieldAddr 1 rfl fl29_1 ty27.sz rfl) rfl ?_;refine .q .ro (.load_own 1 rfl rfl ty27 rfl) rfl ?_;refine .mv rfl rfl ?_
                   obtain ⟨u178, hu178, r179⟩ := bind_some r177; clear r177
                   obtain ⟨c180, p181, h182⟩ := SlR.get (SlR.mono (HpLe.trans (HpLe.trans e43 e54) e89) s33) hu178
                   obtain rfl := h182
                   refine .q .ro (.idxR (SlR.mono (HpLe.trans (HpLe.trans e43 e54) e89) s33) rfl rfl hu178 sl27 ty9.sz) rfl ?_;refine .q .ro (.load_rp p181 List.mem_cons_self rfl ty9 rfl) rfl ?_
                   refine .lit [_] [(0, _)] .ro sl27 ty9 rfl rfl rfl rfl rfl rfl (fun b183 hb183 => ?_)
                   have o184 : OL Rep.str G86 [.string u178] ([u178] : List ByteArray) := ((OL.cons rfl (Rep.strI u178) (OL.nil (Rp' := Rep.str))) :)
                   refine .reval 203 (n' := ([u178] : List ByteArray).length) rfl rfl ?_
                   obtain ⟨u185, hu185, r186⟩ := bind_some r179; clear r179
                   refine .appO (Q := Rep.str) 0 .ro sl27 ty9 rfl rfl rfl rfl rfl rfl o163 o184 rfl rfl rfl B90 hu185 rfl (fun a187 k188 cs189 o190 => ?_)
                   refine .av rfl rfl ?_;refine .re ?_
                   refine .prune _ ?_ (Cov.same rfl rfl rfl (hb175 (u185, a187, k188, cs189) ⟨o190, r186⟩))
                   exact ⟨rfl, rfl, rfl, rfl, rfl, rfl, rfl, rfl, rfl, rfl, rfl, trivial⟩
                  ·have r191 := ifF r168 c176; clear r168
                   refine .skip ?_
                   refine .prune _ ?_ (Cov.same rfl rfl rfl (hb175 (v158, a159, k160, cs161) ⟨o163, r191⟩))
                   exact ⟨rfl, rfl, rfl, rfl, rfl, rfl, rfl, rfl, rfl, rfl, rfl, trivial⟩
                ·intro hb192
                 refine .split 192 rfl (fun c193 => ?_) (fun c193 => ?_)
                 ·refine .g_on rfl ?_
                  refine .mv rfl rfl ?_;refine .g_on rfl ?_;refine .mv rfl rfl ?_;refine .g_on rfl ?_;refine .q .ro (.geq rfl rfl) rfl ?_;refine .q .ro (.pick_t rfl rfl) rfl ?_
                  refine .prune _ ?_ (Cov.same rfl rfl rfl (hb192 () trivial))
                  exact ⟨dand_t c193, rfl, rfl, rfl, rfl, rfl, rfl, rfl, rfl, rfl, rfl, rfl, trivial⟩
                 ·refine .g_off rfl rfl rfl ?_
                  refine .g_off rfl rfl rfl ?_;refine .g_off rfl rfl rfl ?_;refine .q .ro (.pick_f rfl rfl) rfl ?_
                  refine .prune _ ?_ (Cov.same rfl rfl rfl (hb192 () trivial))
                  exact ⟨dand_f c193, rfl, rfl, rfl, rfl, rfl, rfl, rfl, rfl, rfl, rfl, rfl, trivial⟩
               ·have r194 := ifF r166 c167; clear r166
                refine .exit rfl ?_;refine .inBlock ?_;refine .region rfl ?_;refine .q .ro (.addw rfl rfl) rfl ?_;refine .mv rfl rfl ?_;refine .re ?_;refine .prune [(25, _), (26, _), (168, _), (6, _), (7, _), (21, _), (23, _), (166, _), (167, _)] ⟨rfl, rfl, rfl, rfl, rfl, rfl, rfl, rfl, rfl, trivial⟩ ?_
                refine .prune _ ?_ (Cov.same rfl rfl rfl (hb138 ((i139 + 1), xs150, v157, v158, a159, k160, cs161) ⟨o163, (drop_succ g147), r194⟩ (Nat.lt_succ_self _)))
                exact ⟨rfl, rfl, (congrArg (fun z => some (Value.int .i64 z)) (idx_wrap (SlR.len s94) g147)), rfl, rfl, rfl, rfl, rfl, rfl, trivial⟩
           ·intro hb195
            refine .split 156 rfl (fun c196 => ?_) (fun c196 => ?_)
            ·have r197 := ifT h96 c196
             refine .dgq_off rfl rfl rfl ?_;refine .dgq_off rfl rfl rfl ?_;refine .dgq_off rfl rfl rfl ?_;refine .dgq_off rfl rfl rfl ?_;refine .dgq_off rfl rfl rfl ?_;refine .dgq_off rfl rfl rfl ?_;refine .dgq_off rfl rfl rfl ?_;refine .dgq_off rfl rfl rfl ?_;refine .dq (.pick_t rfl rfl) rfl ?_
             refine .prune _ ?_ (Cov.same rfl rfl rfl (hb195 () trivial))
             exact ⟨sval r197, rfl, rfl, rfl, rfl, rfl, trivial⟩
            ·have r198 := ifF h96 c196
             refine .dgq_on rfl ?_;refine .dq (.move rfl) rfl ?_;refine .dgq_on rfl ?_
             obtain ⟨u199, hu199, r200⟩ := bind_some r198; clear r198
             obtain ⟨c201, p202, h203⟩ := SlR.get s94 hu199
             obtain rfl := h203
             refine .dq (.idxR s94 rfl rfl hu199 sl22 ty3.sz) rfl ?_;refine .dgq_on rfl ?_;refine .dq (.load_rp p202 List.mem_cons_self rfl ty3 rfl) rfl ?_;refine .dgq_on rfl ?_;refine .dq (.move rfl) rfl ?_;refine .dgq_on rfl ?_;refine .dq (.fieldAddr 0 rfl fl29_0 ty3.sz rfl) rfl ?_;refine .dgq_on rfl ?_;refine .dq (.load_own 1 rfl rfl ty3 rfl) rfl ?_
             refine .dgq_on rfl ?_
             obtain ⟨u204, hu204, r205⟩ := bind_some r200; clear r200
             refine .dq (.quow rfl rfl (nz_some hu204)) rfl ?_;refine .dgq_on rfl ?_;refine .dq (.neq rfl rfl) rfl ?_;refine .dq (.pick_f rfl rfl) rfl ?_
             refine .prune _ ?_ (Cov.same rfl rfl rfl (hb195 () trivial))
             exact ⟨sval r205, rfl, rfl, rfl, rfl, rfl, trivial⟩
          ·intro hb206
           refine .split 151 rfl (fun c207 => ?_) (fun c207 => ?_)
           ·refine .dgq_off rfl rfl rfl ?_
            refine .dgq_off rfl rfl rfl ?_;refine .dgq_off rfl rfl rfl ?_;refine .dq (.pick_t rfl rfl) rfl ?_
            refine .prune _ ?_ (Cov.same rfl rfl rfl (hb206 () trivial))
            exact ⟨dor_t c207, rfl, rfl, rfl, rfl, rfl, rfl, trivial⟩
           ·refine .dgq_on rfl ?_
            refine .dq (.move rfl) rfl ?_;refine .dgq_on rfl ?_;refine .dq (.move rfl) rfl ?_;refine .dgq_on rfl ?_;refine .dq (.neq rfl rfl) rfl ?_;refine .dq (.pick_f rfl rfl) rfl ?_
            refine .prune _ ?_ (Cov.same rfl rfl rfl (hb206 () trivial))
            exact ⟨dor_f c207, rfl, rfl, rfl, rfl, rfl, rfl, trivial⟩
         ·intro hb208
          refine .split 145 rfl (fun c209 => ?_) (fun c209 => ?_)
          ·refine .dgq_off rfl rfl rfl ?_
           refine .dgq_off rfl rfl rfl ?_;refine .dgq_off rfl rfl rfl ?_;refine .dgq_off rfl rfl rfl ?_;refine .dq (.pick_t rfl rfl) rfl ?_
           refine .prune _ ?_ (Cov.same rfl rfl rfl (hb208 () trivial))
           exact ⟨dor_t c209, rfl, rfl, rfl, rfl, rfl, rfl, rfl, trivial⟩
          ·refine .dgq_on rfl ?_
           refine .dq (.move rfl) rfl ?_;refine .dgq_on rfl ?_;refine .dq (.len_sl rfl rfl sl22) rfl ?_;refine .dgq_on rfl ?_;refine .dq (.move rfl) rfl ?_;refine .dgq_on rfl ?_;refine .dq (.neq rfl rfl) rfl ?_;refine .dq (.pick_f rfl rfl) rfl ?_
           refine .prune _ ?_ (Cov.same rfl rfl rfl (hb208 () trivial))
           exact ⟨dor_f c209, rfl, rfl, rfl, rfl, rfl, rfl, rfl, trivial⟩
        ·intro hb210
         refine .block ?_
         refine .loop2 (α := Nat × Int × Int) (fun y => [(16, .int .i64 y.2.1), (17, .int .i64 y.2.2)]) [(1, _), (6, _), (7, _), (8, _), (10, _), (12, _), (13, _)] (fun y => []) (fun y => []) [_, _] (fun y => []) [_, _] (fun y => top_TopRanges_L8 (top_TopRanges_J7 x1 u38.1 u66.2.1 u23.1.1 u23.1.2) u38.1 u62.1 u23.1.1 u66.1 u49.1 y.1 y.2.1 y.2.2 = some r) (fun y => y.1) (big, 0, (w64 (u62.1 - 1))) r93 ⟨rfl, rfl, rfl, rfl, rfl, rfl, rfl, rfl, rfl, trivial⟩ rfl rfl rfl (fun y hI hb211 => ?_)
         obtain ⟨n212, v213, v214⟩ := y
         have r215 := hI; clear hI
         try dsimp only at r215
         refine .prune [(16, .int .i64 v213), (17, .int .i64 v214), (1, _), (6, _), (7, _), (8, _), (10, _), (12, _), (13, _)] ⟨rfl, rfl, rfl, rfl, rfl, rfl, rfl, rfl, rfl, trivial⟩ ?_;refine .same (bl' := [_, _]) (sl' := [_, _]) (Fs' := G53 :: Fs) rfl rfl rfl ?_
         obtain ⟨m216, rfl⟩ : ∃ m, n212 = m + 1 := by cases n212 with | zero => exact absurd (show (none : Option _) = some _ from r215) (by simp) | succ m => exact ⟨m, rfl⟩
         have r217 : top_TopRanges_B8 (top_TopRanges_J7 x1 u38.1 u66.2.1 u23.1.1 u23.1.2) u38.1 u62.1 u23.1.1 u66.1 u49.1 (top_TopRanges_L8 (top_TopRanges_J7 x1 u38.1 u66.2.1 u23.1.1 u23.1.2) u38.1 u62.1 u23.1.1 u66.1 u49.1 m216) v213 v214 = some r := r215; clear r215; unfold top_TopRanges_B8 at r217; try dsimp only at r217
         refine .seq ?_;refine .seq ?_;refine .region rfl ?_;refine .mv rfl rfl ?_;refine .q .ro (.geq rfl rfl) rfl ?_;refine .re ?_
         refine .cond_dec rfl (fun c218 => ?_) (fun c218 => ?_)
         ·have r219 := ifT r217 c218; clear r217
          refine .skip ?_;refine .seq ?_;refine .block ?_;refine .seq ?_;refine .seq ?_;refine .region rfl ?_;refine .mv rfl rfl ?_;refine .mv rfl rfl ?_;refine .q .ro (.subw rfl rfl) rfl ?_
          refine .mv rfl rfl ?_;refine .q .ro (.subw rfl rfl) rfl ?_
          obtain ⟨u220, hu220, r221⟩ := bind_some r219; clear r219
          obtain ⟨c222, p223, h224⟩ := OL.get o74 hu220
          obtain rfl := h224
          refine .q .ro (.idxO 0 rfl rfl rfl hu220 sl22 ty3.sz) rfl ?_;refine .q .ro (.loadO 0 0 rfl hu220 p223 rfl (.inl ⟨rfl, rfl⟩) ty3 rfl) rfl ?_;refine .mv rfl rfl ?_;refine .q .ro (.neq rfl rfl) rfl ?_;refine .re ?_
          refine .cond_dec rfl (fun c225 => ?_) (fun c225 => ?_)
          ·have r226 := ifT r221 c225; clear r221
           refine .seq ?_;refine .region rfl ?_;refine .av rfl rfl ?_;refine .re ?_;refine .prune [(4, _)] ⟨rfl, trivial⟩ ?_
           cases r226
           refine .drop 2 0 [] _ rfl rfl ?_;refine .drop 0 2 _ [] rfl rfl ?_
           refine .retS (c := ⟨3, none⟩) (.inr ⟨_, rfl⟩) [.tmp 4] [_] rfl Tryz.func3 Tryz.results3 ⟨RV.tmp rfl, trivial⟩ mcm ⟨rfl, rfl, rfl⟩
          ·have r227 := ifF r221 c225; clear r221
           refine .skip ?_;refine .seq ?_;refine .region rfl ?_;refine .mv rfl rfl ?_;refine .mv rfl rfl ?_
           obtain ⟨u228, hu228, r229⟩ := bind_some r227; clear r227
           obtain ⟨c230, p231, h232⟩ := OL.get o61 hu228
           obtain ⟨a234, k235, rfl, s236⟩ := h232
           refine .q .ro (.idxO 1 rfl rfl rfl hu228 sl32 ty27.sz) rfl ?_;refine .q .ro (.loadO 1 0 rfl hu228 p231 rfl (.inl ⟨rfl, rfl⟩) ty27 rfl) rfl ?_;refine .av rfl rfl ?_;refine .re ?_;refine .prune [(16, _), (17, _), (1, _), (6, _), (7, _), (8, _), (10, _), (12, _), (13, _), (18, _)] ⟨rfl, rfl, rfl, rfl, rfl, rfl, rfl, rfl, rfl, rfl, trivial⟩ ?_;refine .seq ?_;refine .drawL (.q 0 (.q 1 (.q 2 (.q 3 (.q 4 (.q 5 (.q 6 (.q 7 (.q 8 (.q 9 (.q 10 (.q 11 (.q 12 (.q 13 (.q 14 (.q 15 (.q 16 (.q 17 (.e 18 1 (.q 19 (.q 20 (.q 21 (.q 22 (.q 23 .nil)))))))))))))))))))))))) [_, _] (by kernel_rfl) (by kernel_rfl) (pick_mem [0, 1] rfl) ?_;refine .dq (.fieldAddr 0 rfl fl29_0 ty3.sz rfl) rfl ?_;refine .dq (.load_own 1 rfl rfl ty3 rfl) rfl ?_
           refine .dq (.move rfl) rfl ?_;refine .dq (.move rfl) rfl ?_;refine .dq (.move rfl) rfl ?_;refine .dq (.fieldAddr 0 rfl fl29_0 ty3.sz rfl) rfl ?_;refine .dq (.load_own 1 rfl rfl ty3 rfl) rfl ?_;refine .dq (.mulw rfl rfl) rfl ?_;refine .dq (.move rfl) rfl ?_;refine .dq (.len_sl rfl rfl sl27) rfl ?_;refine .dq (.move rfl) rfl ?_
           refine .dq (.addw rfl rfl) rfl ?_;refine .dq (.fieldAddr 0 rfl fl29_0 ty3.sz rfl) rfl ?_;refine .dq (.load_own 1 rfl rfl ty3 rfl) rfl ?_;refine .dq (.mulw rfl rfl) rfl ?_;refine .dq (.min2 rfl rfl) rfl ?_
           obtain ⟨u237, hu237, r238⟩ := bind_some r229; clear r229
           obtain ⟨a239, k240, h241, s242⟩ := SlR.sub s236 hu237
           refine .dq (.sliceR s236 rfl hu237 sl27 ty9.sz (fun h => .yes' rfl h) (fun h => .yes' rfl h) h241) rfl ?_;refine .dq (.move rfl) rfl ?_
           obtain ⟨u243, hu243, r244⟩ := bind_some r238; clear r238
           refine .callS (b1 := []) (b2 := [_, _]) (s1 := []) [_, _, _, _] [] .d1 rfl rfl Tryz.call15 rfl rfl (fence_Next_c (G := G53) List.mem_cons_self s242 hu243) rfl (fun v245 bo so h246 => ?_)
           obtain ⟨rfl, rfl, rfl⟩ := h246
           refine .same (bl' := [_, _]) (sl' := [_, _]) rfl rfl rfl ?_;refine .clsL (HpLe.refl _) (pick_mem [0, 1] rfl) ?_;refine .dq (.move rfl) rfl ?_;refine .dq (.extract rfl rfl) rfl ?_;refine .dq (.extract rfl rfl) rfl ?_;refine .dq (.assign rfl) rfl ?_;refine .dq (.assign rfl) rfl ?_;refine .draw_end ?_;refine .prune [(17, _), (1, _), (6, _), (7, _), (8, _), (10, _), (12, _), (13, _), (19, _), (20, _)] ⟨rfl, rfl, rfl, rfl, rfl, rfl, rfl, rfl, rfl, rfl, trivial⟩ ?_
           refine .seq ?_;refine .seq ?_;refine .region rfl ?_;refine .mv rfl rfl ?_;refine .q .ro (.neq rfl rfl) rfl ?_;refine .re ?_
           refine .cond_dec rfl (fun c247 => ?_) (fun c247 => ?_)
           ·have r248 := ifT r244 c247; clear r244
            refine .seq ?_;refine .region rfl ?_;refine .av rfl rfl ?_;refine .re ?_
            cases r248
            refine .drop 2 0 [] _ rfl rfl ?_;refine .drop 0 2 _ [] rfl rfl ?_
            refine .retS (c := ⟨3, none⟩) (.inr ⟨_, rfl⟩) [.tmp 4] [_] rfl Tryz.func3 Tryz.results3 ⟨RV.tmp rfl, trivial⟩ mcm ⟨rfl, rfl, rfl⟩
           ·have r249 := ifF r244 c247; clear r244
            refine .skip ?_;refine .region rfl ?_;refine .mv rfl rfl ?_;refine .av rfl rfl ?_;refine .re ?_;refine .inBlock ?_;refine .region rfl ?_;refine .mv rfl rfl ?_;refine .q .ro (.subw rfl rfl) rfl ?_
            refine .av rfl rfl ?_;refine .re ?_
            refine .prune _ ?_ (Cov.same rfl rfl rfl (hb211 (m216, u243.1, (w64 (v214 - 1))) r249 (Nat.lt_succ_self _)))
            exact ⟨rfl, rfl, rfl, rfl, rfl, rfl, rfl, rfl, rfl, trivial⟩
         ·have r250 := ifF r217 c218; clear r217
          refine .exit rfl ?_
          refine .prune _ ?_ (Cov.same rfl rfl rfl (hb210 (v213) r250))
          exact ⟨rfl, rfl, rfl, rfl, rfl, trivial⟩
      ·intro hb88
       refine .split 81 rfl (fun c87 => ?_) (fun c87 => ?_)
       ·refine .g_off rfl rfl rfl ?_
        refine .g_off rfl rfl rfl ?_;refine .g_off rfl rfl rfl ?_;refine .g_off rfl rfl rfl ?_;refine .q .ro (.pick_t rfl rfl) rfl ?_
        refine .prune _ ?_ (Cov.same rfl rfl rfl (hb88 () trivial))
        exact ⟨dor_t c87, rfl, rfl, rfl, rfl, rfl, rfl, rfl, trivial⟩
       ·refine .g_on rfl ?_
        refine .mv rfl rfl ?_;refine .g_on rfl ?_;refine .q .ro (.len_sl rfl rfl sl22) rfl ?_;refine .g_on rfl ?_;refine .mv rfl rfl ?_;refine .g_on rfl ?_;refine .q .ro (.neq rfl rfl) rfl ?_;refine .q .ro (.pick_f rfl rfl) rfl ?_
        refine .prune _ ?_ (Cov.same rfl rfl rfl (hb88 () trivial))
        exact ⟨dor_f c87, rfl, rfl, rfl, rfl, rfl, rfl, rfl, trivial⟩
     ·intro hb84
      refine .split 75 rfl (fun c83 => ?_) (fun c83 => ?_)
      ·refine .g_off rfl rfl rfl ?_
       refine .g_off rfl rfl rfl ?_;refine .g_off rfl rfl rfl ?_;refine .g_off rfl rfl rfl ?_;refine .q .ro (.pick_t rfl rfl) rfl ?_
       refine .prune _ ?_ (Cov.same rfl rfl rfl (hb84 () trivial))
       exact ⟨dor_t c83, rfl, rfl, rfl, rfl, rfl, rfl, rfl, trivial⟩
      ·refine .g_on rfl ?_
       refine .mv rfl rfl ?_;refine .g_on rfl ?_;refine .q .ro (.len_sl rfl rfl sl32) rfl ?_;refine .g_on rfl ?_;refine .mv rfl rfl ?_;refine .g_on rfl ?_;refine .q .ro (.neq rfl rfl) rfl ?_;refine .q .ro (.pick_f rfl rfl) rfl ?_
       refine .prune _ ?_ (Cov.same rfl rfl rfl (hb84 () trivial))
       exact ⟨dor_f c83, rfl, rfl, rfl, rfl, rfl, rfl, rfl, trivial⟩
    ·intro hb80
     refine .split 71 rfl (fun c79 => ?_) (fun c79 => ?_)
     ·refine .g_off rfl rfl rfl ?_
      refine .g_off rfl rfl rfl ?_;refine .q .ro (.pick_t rfl rfl) rfl ?_
      refine .prune _ ?_ (Cov.same rfl rfl rfl (hb80 () trivial))
      exact ⟨dor_t c79, rfl, rfl, rfl, rfl, rfl, rfl, rfl, trivial⟩
     ·refine .g_on rfl ?_
      refine .mv rfl rfl ?_;refine .g_on rfl ?_;refine .q .ro (.neq rfl rfl) rfl ?_;refine .q .ro (.pick_f rfl rfl) rfl ?_
      refine .prune _ ?_ (Cov.same rfl rfl rfl (hb80 () trivial))
      exact ⟨dor_f c79, rfl, rfl, rfl, rfl, rfl, rfl, rfl, trivial⟩
   ·intro hb76
    refine .split 67 rfl (fun c75 => ?_) (fun c75 => ?_)
    ·refine .g_off rfl rfl rfl ?_
     refine .g_off rfl rfl rfl ?_;refine .q .ro (.pick_t rfl rfl) rfl ?_
     refine .prune _ ?_ (Cov.same rfl rfl rfl (hb76 () trivial))
     exact ⟨dor_t c75, rfl, rfl, rfl, rfl, rfl, rfl, rfl, rfl, trivial⟩
    ·refine .g_on rfl ?_
     refine .mv rfl rfl ?_;refine .g_on rfl ?_;refine .q .ro (.neq rfl rfl) rfl ?_;refine .q .ro (.pick_f rfl rfl) rfl ?_
     refine .prune _ ?_ (Cov.same rfl rfl rfl (hb76 () trivial))
     exact ⟨dor_f c75, rfl, rfl, rfl, rfl, rfl, rfl, rfl, rfl, trivial⟩
end Go.Proofs.YtfcicopgdahmcaaGreatDoor
end
