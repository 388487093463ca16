/- What the proof needs, gathered by wip/gen/shake.py. -/
import Derived.Calls
import Derived.Deep.Quiet
import Derived.Below
import Derived.Laws.AppendOwn
import Derived.WalkKit
import Derived.Laws.OwnMore
import Derived.Deep.Slices
import Derived.ChangeOld
import Derived.ArgAppend
import Derived.RangeFuncIn
import Derived.RangeFuncRecord
import Derived.RangeFuncLeaves
import Derived.Laws.MakeOwn
import Derived.IntWalk
import Derived.Laws.IdiomStrings
import Derived.Laws.Cover3
import Derived.Laws.CopyOwn
import Derived.MapKept
import Derived.RangeFuncNested
import Derived.Test.YtnfalgmfmiolbaaGreatRows
import Derived.ProofKit
import Derived.OpenShut
import Derived.ShutString
import Derived.Test.YtnfalgmfmiolbaaGreatBoundsStepsQ4

section
namespace Go.Proofs.YtnfalgmfmiolbaaGreat
open Go.RowKit
set_option linter.unusedSimpArgs false
set_option linter.unusedVariables false
set_option synthInstance.maxSize 2000
set_option synthInstance.maxHeartbeats 400000
set_option maxHeartbeats 4000000 in
set_option maxRecDepth 100000 in
theorem scheme_Units_c {Fs : List Hp} {G : Hp} {x0_0 : Int} {x0_1 : Int} {x0_2 : Int} {x0_3 : Int} {x1 : Int} {r : Int} (hG : G ∈ Fs)  (h : scheme_Units (x0_0, x0_1, x0_2, x0_3) x1 = some r) : RetS Tryz.prog 155 #[.agg #[.int .i64 x0_0, .int .i64 x0_1, .int .i64 x0_2, .int .i64 x0_3], .int .i64 x1] Fs [] [] (fun v bo so => v = .int .i64 r ∧ bo = [] ∧ so = []) := by
 unfold scheme_Units at h
 try dsimp only at h
 refine RetS.of (vs := [_, _]) Tryz.func155 rfl Tryz.ntmps155 [(0, _), (1, _)] ⟨rfl, rfl, trivial⟩ rfl hG fun w0 S0 hS0 B0 => ?_
 refine Cov.seq ?_;refine Cov.region rfl ?_
 refine Cov.box [_, _, _, _] .ro rfl rfl rfl (fun b1 hb1 => ?_)
 refine Cov.q .ro (.assign rfl) rfl ?_;refine Cov.region_end ?_;refine Cov.seq ?_;refine Cov.block ?_;refine Cov.seq ?_;refine Cov.region rfl ?_;refine Cov.q .ro (.load_own_a 0 [_, _, _, _] rfl rfl ty27 rfl) rfl ?_
 obtain ⟨u2, hu2, r3⟩ := bind_some h; clear h
 refine Cov.callS (b1 := []) (b2 := [_]) (s1 := []) [_] [] .ro rfl rfl Tryz.call144 rfl rfl (scheme_Shape_c (G := G) List.mem_cons_self  hu2) rfl (fun v5 bo so h4 => ?_)
 obtain ⟨rfl, rfl, rfl⟩ := h4
 refine Cov.same (bl' := [_]) (sl' := []) rfl rfl rfl ?_;refine Cov.q .ro (.not rfl) rfl ?_;refine Cov.q .ro (.move rfl) rfl ?_
 obtain ⟨u12, h13, r14⟩ := bind_some r3; clear r3
 refine Cov.cutR 4 (β := Unit) (fun y => [(13, .bool u12)]) [(1, _), (2, _)] (fun y => G :: Fs) (fun y => []) [_] (fun y => []) [] (fun y => True) ⟨rfl, rfl, trivial⟩ [0] rfl [] rfl ?_ ?_
 ·rintro _ _
  refine Cov.prune [(13, .bool u12), (1, _), (2, _)] ⟨rfl, rfl, rfl, trivial⟩ ?_;refine Cov.same (bl' := [_]) (sl' := []) (Fs' := G :: Fs) rfl rfl rfl ?_;refine Cov.q .ro (.assign rfl) rfl ?_;refine Cov.region_end ?_
  refine Cov.cond rfl (fun c17 => ?_) (fun c17 => ?_)
  ·have r18 := ifT r14 c17; clear r14
   refine Cov.seq ?_;refine Cov.region rfl ?_;refine Cov.q .ro (.assign rfl) rfl ?_;refine Cov.region_end ?_
   cases r18
   refine Cov.drop 1 0 [] _ rfl rfl ?_
   refine Cov.retS (c := ⟨155, none⟩) (.inr ⟨_, rfl⟩) [.tmp 4] [_] rfl Tryz.func155 Tryz.results155 ⟨RV.tmp rfl, trivial⟩ (fun _ h => List.mem_cons_of_mem _ h) ⟨rfl, rfl, rfl⟩
  ·have r19 := ifBF r14 c17; clear r14
   refine Cov.seq ?_;refine Cov.region rfl ?_;refine Cov.q .ro (.fieldAddr 0 rfl fl27_0 ty3.sz rfl) rfl ?_;refine Cov.q .ro (.load_own 0 rfl rfl ty3 rfl) rfl ?_;refine Cov.q .ro (.eql rfl rfl) rfl ?_;refine Cov.q .ro (.assign rfl) rfl ?_;refine Cov.region_end ?_
   refine Cov.cond_dec rfl (fun c20 => ?_) (fun c20 => ?_)
   ·have r21 := ifT r19 c20; clear r19
    refine Cov.seq ?_;refine Cov.region rfl ?_;refine Cov.q .ro (.load_own_a 0 [_, _, _, _] rfl rfl ty27 rfl) rfl ?_
    obtain ⟨u22, hu22, r23⟩ := bind_some r21; clear r21
    refine Cov.callS (b1 := []) (b2 := [_]) (s1 := []) [_] [] .ro rfl rfl Tryz.call174 rfl rfl (scheme_storage_c (G := G) List.mem_cons_self  hu22) rfl (fun v25 bo so h24 => ?_)
    obtain ⟨rfl, rfl, rfl⟩ := h24
    refine Cov.same (bl' := [_]) (sl' := []) rfl rfl rfl ?_;refine Cov.q .ro (.move rfl) rfl ?_
    obtain ⟨u26, hu26, r27⟩ := bind_some r23; clear r23
    refine Cov.callS (b1 := []) (b2 := [_]) (s1 := []) [_, _] [] .ro rfl rfl Tryz.call179 rfl rfl (scheme_groups_units_c (G := G) List.mem_cons_self  hu26) rfl (fun v29 bo so h28 => ?_)
    obtain ⟨rfl, rfl, rfl⟩ := h28
    refine Cov.same (bl' := [_]) (sl' := []) rfl rfl rfl ?_;refine Cov.q .ro (.assign rfl) rfl ?_;refine Cov.region_end ?_
    cases r27
    refine Cov.drop 1 0 [] _ rfl rfl ?_
    refine Cov.retS (c := ⟨155, none⟩) (.inr ⟨_, rfl⟩) [.tmp 4] [_] rfl Tryz.func155 Tryz.results155 ⟨RV.tmp rfl, trivial⟩ (fun _ h => List.mem_cons_of_mem _ h) ⟨rfl, rfl, rfl⟩
   ·have r30 := ifF r19 c20; clear r19
    refine Cov.skip ?_;refine Cov.inBlock ?_;refine Cov.seq ?_;refine Cov.region rfl ?_;refine Cov.q .ro (.move rfl) rfl ?_;refine Cov.q .ro (.assign rfl) rfl ?_;refine Cov.region_end ?_
    cases r30
    refine Cov.drop 1 0 [] _ rfl rfl ?_
    refine Cov.retS (c := ⟨155, none⟩) (.inr ⟨_, rfl⟩) [.tmp 4] [_] rfl Tryz.func155 Tryz.results155 ⟨RV.tmp rfl, trivial⟩ (fun _ h => List.mem_cons_of_mem _ h) ⟨rfl, rfl, rfl⟩
 ·intro hb11
  refine Cov.split_b 9 rfl (fun c10 => ?_) (fun c10 => ?_)
  ·have r31 := ifT h13 c10
   refine Cov.g_off rfl rfl rfl ?_;refine Cov.g_off rfl rfl rfl ?_;refine Cov.g_off rfl rfl rfl ?_;refine Cov.q .ro (.pick_t rfl rfl) rfl ?_
   refine Cov.prune _ ?_ (Cov.same rfl rfl rfl (hb11 () trivial))
   exact ⟨sval r31, rfl, rfl, trivial⟩
  ·have r32 := ifBF h13 c10
   refine Cov.g_on rfl ?_;refine Cov.q .ro (.move rfl) rfl ?_;refine Cov.g_on rfl ?_
   obtain ⟨u33, hu33, r34⟩ := bind_some r32; clear r32
   refine Cov.callS (b1 := []) (b2 := [_]) (s1 := []) [_, _, _] [] .ro rfl rfl Tryz.call172 rfl rfl (scheme_within_c (G := G) List.mem_cons_self  hu33) rfl (fun v36 bo so h35 => ?_)
   obtain ⟨rfl, rfl, rfl⟩ := h35
   refine Cov.same (bl' := [_]) (sl' := []) rfl rfl rfl ?_;refine Cov.g_on rfl ?_;refine Cov.q .ro (.not rfl) rfl ?_;refine Cov.q .ro (.pick_f rfl rfl) rfl ?_
   refine Cov.prune _ ?_ (Cov.same rfl rfl rfl (hb11 () trivial))
   exact ⟨sval r34, rfl, rfl, trivial⟩
set_option maxHeartbeats 4000000 in
set_option maxRecDepth 100000 in
theorem cost_Units_c {Fs : List Hp} {G : Hp} {x0_0 : Int} {x0_1 : Int} {x0_2 : Int} {x0_3 : Int} {x1 : Int} {r : (Int × Int)} (hG : G ∈ Fs)  (h : cost_Units (x0_0, x0_1, x0_2, x0_3) x1 = some r) : RetS Tryz.prog 105 #[.agg #[.int .i64 x0_0, .int .i64 x0_1, .int .i64 x0_2, .int .i64 x0_3], .int .i64 x1] Fs [] [] (fun v bo so => v = .tuple #[.int .i64 r.1, .int .i64 r.2] ∧ bo = [] ∧ so = []) := by
 unfold cost_Units at h
 try dsimp only at h
 refine RetS.of (vs := [_, _]) Tryz.func105 rfl Tryz.ntmps105 [(0, _), (1, _)] ⟨rfl, rfl, trivial⟩ rfl hG fun w0 S0 hS0 B0 => ?_
 refine Cov.seq ?_;refine Cov.region rfl ?_
 refine Cov.box [_, _, _, _] .ro rfl rfl rfl (fun b1 hb1 => ?_)
 refine Cov.q .ro (.assign rfl) rfl ?_;refine Cov.q .ro (.assign rfl) rfl ?_;refine Cov.region_end ?_;refine Cov.seq ?_;refine Cov.block ?_;refine Cov.seq ?_;refine Cov.region rfl ?_;refine Cov.q .ro (.load_own_a 0 [_, _, _, _] rfl rfl ty27 rfl) rfl ?_
 obtain ⟨u2, hu2, r3⟩ := bind_some h; clear h
 refine Cov.callS (b1 := []) (b2 := [_]) (s1 := []) [_] [] .ro rfl rfl Tryz.call144 rfl rfl (scheme_Shape_c (G := G) List.mem_cons_self  hu2) rfl (fun v5 bo so h4 => ?_)
 obtain ⟨rfl, rfl, rfl⟩ := h4
 refine Cov.same (bl' := [_]) (sl' := []) rfl rfl rfl ?_;refine Cov.q .ro (.not rfl) rfl ?_;refine Cov.q .ro (.assign rfl) rfl ?_;refine Cov.region_end ?_
 refine Cov.cond rfl (fun c6 => ?_) (fun c6 => ?_)
 ·have r7 := ifT r3 c6; clear r3
  refine Cov.seq ?_;refine Cov.region rfl ?_;refine Cov.q .ro (.assign rfl) rfl ?_;refine Cov.q .ro (.assign rfl) rfl ?_;refine Cov.region_end ?_
  cases r7
  refine Cov.drop 1 0 [] _ rfl rfl ?_
  refine Cov.retS (c := ⟨105, none⟩) (.inr ⟨_, rfl⟩) [.tmp 4, .tmp 5] [_, _] rfl Tryz.func105 Tryz.results105 ⟨RV.tmp rfl, RV.tmp rfl, trivial⟩ (fun _ h => List.mem_cons_of_mem _ h) ⟨rfl, rfl, rfl⟩
 ·have r8 := ifBF r3 c6; clear r3
  refine Cov.seq ?_;refine Cov.region rfl ?_;refine Cov.q .ro (.move rfl) rfl ?_;refine Cov.q .ro (.lss rfl rfl) rfl ?_;refine Cov.q .ro (.move rfl) rfl ?_;refine Cov.cutR 3 (β := Unit) (fun y => [(16, .bool (decide ((x1 < 1) ∨ (1024 < x1))))]) [(1, _), (2, _)] (fun y => G :: Fs) (fun y => []) [_] (fun y => []) [] (fun y => True) ⟨rfl, rfl, trivial⟩ [0] rfl [] rfl ?_ ?_
  ·rintro _ _
   refine Cov.prune [(16, .bool (decide ((x1 < 1) ∨ (1024 < x1)))), (1, _), (2, _)] ⟨rfl, rfl, rfl, trivial⟩ ?_;refine Cov.same (bl' := [_]) (sl' := []) (Fs' := G :: Fs) rfl rfl rfl ?_;refine Cov.q .ro (.assign rfl) rfl ?_;refine Cov.region_end ?_
   refine Cov.cond_dec rfl (fun c13 => ?_) (fun c13 => ?_)
   ·have r14 := ifT r8 c13; clear r8
    refine Cov.seq ?_;refine Cov.region rfl ?_;refine Cov.q .ro (.assign rfl) rfl ?_;refine Cov.q .ro (.assign rfl) rfl ?_;refine Cov.region_end ?_
    cases r14
    refine Cov.drop 1 0 [] _ rfl rfl ?_
    refine Cov.retS (c := ⟨105, none⟩) (.inr ⟨_, rfl⟩) [.tmp 4, .tmp 5] [_, _] rfl Tryz.func105 Tryz.results105 ⟨RV.tmp rfl, RV.tmp rfl, trivial⟩ (fun _ h => List.mem_cons_of_mem _ h) ⟨rfl, rfl, rfl⟩
   ·have r15 := ifF r8 c13; clear r8
    refine Cov.skip ?_;refine Cov.inBlock ?_;refine Cov.seq ?_;refine Cov.region rfl ?_;refine Cov.q .ro (.load_own_a 0 [_, _, _, _] rfl rfl ty27 rfl) rfl ?_;refine Cov.q .ro (.move rfl) rfl ?_
    obtain ⟨u16, hu16, r17⟩ := bind_some r15; clear r15
    refine Cov.callS (b1 := []) (b2 := [_]) (s1 := []) [_, _] [] .ro rfl rfl Tryz.call155 rfl rfl (scheme_Units_c (G := G) List.mem_cons_self  hu16) rfl (fun v19 bo so h18 => ?_)
    obtain ⟨rfl, rfl, rfl⟩ := h18
    refine Cov.same (bl' := [_]) (sl' := []) rfl rfl rfl ?_;refine Cov.q .ro (.assign rfl) rfl ?_;refine Cov.q .ro (.assign rfl) rfl ?_;refine Cov.region_end ?_
    cases r17
    refine Cov.drop 1 0 [] _ rfl rfl ?_
    refine Cov.retS (c := ⟨105, none⟩) (.inr ⟨_, rfl⟩) [.tmp 4, .tmp 5] [_, _] rfl Tryz.func105 Tryz.results105 ⟨RV.tmp rfl, RV.tmp rfl, trivial⟩ (fun _ h => List.mem_cons_of_mem _ h) ⟨rfl, rfl, rfl⟩
  ·intro hb10
   refine Cov.split 13 rfl (fun c9 => ?_) (fun c9 => ?_)
   ·refine Cov.g_off rfl rfl rfl ?_
    refine Cov.g_off rfl rfl rfl ?_;refine Cov.q .ro (.pick_t rfl rfl) rfl ?_
    refine Cov.prune _ ?_ (Cov.same rfl rfl rfl (hb10 () trivial))
    exact ⟨dor_t c9, rfl, rfl, trivial⟩
   ·refine Cov.g_on rfl ?_
    refine Cov.q .ro (.move rfl) rfl ?_;refine Cov.g_on rfl ?_;refine Cov.q .ro (.gtr rfl rfl) rfl ?_;refine Cov.q .ro (.pick_f rfl rfl) rfl ?_
    refine Cov.prune _ ?_ (Cov.same rfl rfl rfl (hb10 () trivial))
    exact ⟨dor_f c9, rfl, rfl, trivial⟩
set_option maxHeartbeats 4000000 in
set_option maxRecDepth 100000 in
theorem cost_Of_c {Fs : List Hp} {G : Hp} {x0_0 : Int} {x0_1 : Int} {x0_2 : Int} {x0_3 : Int} {x1 : Int} {x2 : Int} {x3 : Int} {r : ((Int × Int × Int) × Int)} (hG : G ∈ Fs)  (h : cost_Of (x0_0, x0_1, x0_2, x0_3) x1 x2 x3 = some r) : RetS Tryz.prog 53 #[.agg #[.int .i64 x0_0, .int .i64 x0_1, .int .i64 x0_2, .int .i64 x0_3], .int .i64 x1, .int .i64 x2, .int .i64 x3] Fs [] [] (fun v bo so => v = .tuple #[.agg #[.int .i64 r.1.1, .int .i64 r.1.2.1, .int .i64 r.1.2.2], .int .i64 r.2] ∧ bo = [] ∧ so = []) := by
 unfold cost_Of at h
 try dsimp only at h
 refine RetS.of (vs := [_, _, _, _]) Tryz.func53 rfl Tryz.ntmps53 [(0, _), (1, _), (2, _), (3, _)] ⟨rfl, rfl, rfl, rfl, trivial⟩ rfl hG fun w0 S0 hS0 B0 => ?_
 refine Cov.seq ?_;refine Cov.region rfl ?_
 refine Cov.box [_, _, _, _] .ro rfl rfl rfl (fun b1 hb1 => ?_)
 refine Cov.alloc .ro ty88 rfl (fun b2 hb2 => ?_)
 refine Cov.q .ro (.assign rfl) rfl ?_;refine Cov.region_end ?_;refine Cov.seq ?_;refine Cov.region rfl ?_;refine Cov.q .ro (.load_own_a 1 [_, _, _, _] rfl rfl ty27 rfl) rfl ?_;refine Cov.q .ro (.move rfl) rfl ?_
 obtain ⟨u3, hu3, r4⟩ := bind_some h; clear h
 refine Cov.callS (b1 := []) (b2 := [_, _]) (s1 := []) [_, _] [] .ro rfl rfl Tryz.call105 rfl rfl (cost_Units_c (G := G) List.mem_cons_self  hu3) rfl (fun v6 bo so h5 => ?_)
 obtain ⟨rfl, rfl, rfl⟩ := h5
 refine Cov.same (bl' := [_, _]) (sl' := []) rfl rfl rfl ?_;refine Cov.q .ro (.move rfl) rfl ?_;refine Cov.q .ro (.extract rfl rfl) rfl ?_;refine Cov.q .ro (.extract rfl rfl) rfl ?_;refine Cov.q .ro (.assign rfl) rfl ?_;refine Cov.q .ro (.assign rfl) rfl ?_;refine Cov.region_end ?_;refine Cov.seq ?_;refine Cov.block ?_
 refine Cov.seq ?_;refine Cov.region rfl ?_;refine Cov.q .ro (.move rfl) rfl ?_;refine Cov.q .ro (.neq rfl rfl) rfl ?_;refine Cov.q .ro (.assign rfl) rfl ?_;refine Cov.region_end ?_
 refine Cov.cond_dec rfl (fun c7 => ?_) (fun c7 => ?_)
 ·have r8 := ifT r4 c7; clear r4
  refine Cov.seq ?_;refine Cov.region rfl ?_;refine Cov.q .ro (.build [_, _, _] [] ty88 pl88 rfl rfl) rfl ?_;refine Cov.q .ro (.move rfl) rfl ?_;refine Cov.store 0 [_, _, _] [_, _] .ro rfl rfl rfl ty88 rfl rfl rfl rfl ?_;refine Cov.q .ro (.assign rfl) rfl ?_;refine Cov.region_end ?_;refine Cov.prune [(8, _), (9, _)] ⟨rfl, rfl, trivial⟩ ?_
  cases r8
  refine Cov.retSD 2 (c := ⟨53, none⟩) (.inr ⟨_, rfl⟩) [.cell 8 88, .tmp 9] [_, _] rfl Tryz.func53 Tryz.results53 ⟨RV.cell_a 0 [_, _, _] rfl rfl ty88 rfl, RV.tmp rfl, trivial⟩ (fun _ h => List.mem_cons_of_mem _ h) ⟨rfl, rfl, rfl⟩
 ·have r9 := ifF r4 c7; clear r4
  refine Cov.seq ?_;refine Cov.region rfl ?_;refine Cov.q .ro (.move rfl) rfl ?_;refine Cov.q .ro (.lss rfl rfl) rfl ?_;refine Cov.q .ro (.move rfl) rfl ?_;refine Cov.cutR 3 (β := Unit) (fun y => [(30, .bool (decide ((x2 < 1) ∨ (64 < x2))))]) [(2, _), (3, _), (4, _), (8, _), (10, _)] (fun y => G :: Fs) (fun y => []) [_, _] (fun y => []) [] (fun y => True) ⟨rfl, rfl, rfl, rfl, rfl, trivial⟩ [0, 1] rfl [] rfl ?_ ?_
  ·rintro _ _
   refine Cov.prune [(30, .bool (decide ((x2 < 1) ∨ (64 < x2)))), (2, _), (3, _), (4, _), (8, _), (10, _)] ⟨rfl, rfl, rfl, rfl, rfl, rfl, trivial⟩ ?_;refine Cov.same (bl' := [_, _]) (sl' := []) (Fs' := G :: Fs) rfl rfl rfl ?_;refine Cov.q .ro (.move rfl) rfl ?_;refine Cov.cutR 3 (β := Unit) (fun y => [(34, .bool (decide (((x2 < 1) ∨ (64 < x2)) ∨ (x3 < 1))))]) [(2, _), (3, _), (4, _), (8, _), (10, _)] (fun y => G :: Fs) (fun y => []) [_, _] (fun y => []) [] (fun y => True) ⟨rfl, rfl, rfl, rfl, rfl, trivial⟩ [0, 1] rfl [] rfl ?_ ?_
   ·rintro _ _
    refine Cov.prune [(34, .bool (decide (((x2 < 1) ∨ (64 < x2)) ∨ (x3 < 1)))), (2, _), (3, _), (4, _), (8, _), (10, _)] ⟨rfl, rfl, rfl, rfl, rfl, rfl, trivial⟩ ?_;refine Cov.same (bl' := [_, _]) (sl' := []) (Fs' := G :: Fs) rfl rfl rfl ?_;refine Cov.q .ro (.move rfl) rfl ?_;refine Cov.cutR 3 (β := Unit) (fun y => [(38, .bool (decide ((((x2 < 1) ∨ (64 < x2)) ∨ (x3 < 1)) ∨ (16 < x3))))]) [(2, _), (3, _), (4, _), (8, _), (10, _)] (fun y => G :: Fs) (fun y => []) [_, _] (fun y => []) [] (fun y => True) ⟨rfl, rfl, rfl, rfl, rfl, trivial⟩ [0, 1] rfl [] rfl ?_ ?_
    ·rintro _ _
     refine Cov.prune [(38, .bool (decide ((((x2 < 1) ∨ (64 < x2)) ∨ (x3 < 1)) ∨ (16 < x3)))), (2, _), (3, _), (4, _), (8, _), (10, _)] ⟨rfl, rfl, rfl, rfl, rfl, rfl, trivial⟩ ?_;refine Cov.same (bl' := [_, _]) (sl' := []) (Fs' := G :: Fs) rfl rfl rfl ?_;refine Cov.q .ro (.assign rfl) rfl ?_;refine Cov.region_end ?_
     refine Cov.cond_dec rfl (fun c22 => ?_) (fun c22 => ?_)
     ·have r23 := ifT r9 c22; clear r9
      refine Cov.seq ?_;refine Cov.region rfl ?_;refine Cov.q .ro (.build [_, _, _] [] ty88 pl88 rfl rfl) rfl ?_;refine Cov.store 0 [_, _, _] [_, _] .ro rfl rfl rfl ty88 rfl rfl rfl rfl ?_;refine Cov.q .ro (.assign rfl) rfl ?_;refine Cov.region_end ?_
      cases r23
      refine Cov.retSD 2 (c := ⟨53, none⟩) (.inr ⟨_, rfl⟩) [.cell 8 88, .tmp 9] [_, _] rfl Tryz.func53 Tryz.results53 ⟨RV.cell_a 0 [_, _, _] rfl rfl ty88 rfl, RV.tmp rfl, trivial⟩ (fun _ h => List.mem_cons_of_mem _ h) ⟨rfl, rfl, rfl⟩
     ·have r24 := ifF r9 c22; clear r9
      refine Cov.skip ?_;refine Cov.inBlock ?_;refine Cov.seq ?_;refine Cov.region rfl ?_;refine Cov.q .ro (.move rfl) rfl ?_;refine Cov.q .ro (.fieldAddr 1 rfl fl27_1 ty3.sz rfl) rfl ?_;refine Cov.q .ro (.load_own 1 rfl rfl ty3 rfl) rfl ?_;refine Cov.q .ro (.mulw rfl rfl) rfl ?_;refine Cov.q .ro (.assign rfl) rfl ?_
      refine Cov.region_end ?_;refine Cov.seq ?_;refine Cov.region rfl ?_;refine Cov.q .ro (.move rfl) rfl ?_;refine Cov.q .ro (.move rfl) rfl ?_;refine Cov.q .ro (.mulw rfl rfl) rfl ?_;refine Cov.q .ro (.move rfl) rfl ?_;refine Cov.q .ro (.move rfl) rfl ?_;refine Cov.q .ro (.mulw rfl rfl) rfl ?_
      refine Cov.q .ro (.move rfl) rfl ?_;refine Cov.q .ro (.move rfl) rfl ?_;refine Cov.q .ro (.mulw rfl rfl) rfl ?_;refine Cov.q .ro (.move rfl) rfl ?_;refine Cov.q .ro (.mulw rfl rfl) rfl ?_;refine Cov.q .ro (.build [_, _, _] [(0, _), (1, _), (2, _)] ty88 pl88 rfl rfl) rfl ?_;refine Cov.store 0 [_, _, _] [_, _] .ro rfl rfl rfl ty88 rfl rfl rfl rfl ?_;refine Cov.q .ro (.assign rfl) rfl ?_;refine Cov.region_end ?_
      refine Cov.prune [(8, _), (9, _)] ⟨rfl, rfl, trivial⟩ ?_
      cases r24
      refine Cov.retSD 2 (c := ⟨53, none⟩) (.inr ⟨_, rfl⟩) [.cell 8 88, .tmp 9] [_, _] rfl Tryz.func53 Tryz.results53 ⟨RV.cell_a 0 [_, _, _] rfl rfl ty88 rfl, RV.tmp rfl, trivial⟩ (fun _ h => List.mem_cons_of_mem _ h) ⟨rfl, rfl, rfl⟩
    ·intro hb19
     refine Cov.split 35 rfl (fun c18 => ?_) (fun c18 => ?_)
     ·refine Cov.g_off rfl rfl rfl ?_
      refine Cov.g_off rfl rfl rfl ?_;refine Cov.q .ro (.pick_t rfl rfl) rfl ?_
      refine Cov.prune _ ?_ (Cov.same rfl rfl rfl (hb19 () trivial))
      exact ⟨dor_t c18, rfl, rfl, rfl, rfl, rfl, trivial⟩
     ·refine Cov.g_on rfl ?_
      refine Cov.q .ro (.move rfl) rfl ?_;refine Cov.g_on rfl ?_;refine Cov.q .ro (.gtr rfl rfl) rfl ?_;refine Cov.q .ro (.pick_f rfl rfl) rfl ?_
      refine Cov.prune _ ?_ (Cov.same rfl rfl rfl (hb19 () trivial))
      exact ⟨dor_f c18, rfl, rfl, rfl, rfl, rfl, trivial⟩
   ·intro hb15
    refine Cov.split 31 rfl (fun c14 => ?_) (fun c14 => ?_)
    ·refine Cov.g_off rfl rfl rfl ?_
     refine Cov.g_off rfl rfl rfl ?_;refine Cov.q .ro (.pick_t rfl rfl) rfl ?_
     refine Cov.prune _ ?_ (Cov.same rfl rfl rfl (hb15 () trivial))
     exact ⟨dor_t c14, rfl, rfl, rfl, rfl, rfl, trivial⟩
    ·refine Cov.g_on rfl ?_
     refine Cov.q .ro (.move rfl) rfl ?_;refine Cov.g_on rfl ?_;refine Cov.q .ro (.lss rfl rfl) rfl ?_;refine Cov.q .ro (.pick_f rfl rfl) rfl ?_
     refine Cov.prune _ ?_ (Cov.same rfl rfl rfl (hb15 () trivial))
     exact ⟨dor_f c14, rfl, rfl, rfl, rfl, rfl, trivial⟩
  ·intro hb11
   refine Cov.split 27 rfl (fun c10 => ?_) (fun c10 => ?_)
   ·refine Cov.g_off rfl rfl rfl ?_
    refine Cov.g_off rfl rfl rfl ?_;refine Cov.q .ro (.pick_t rfl rfl) rfl ?_
    refine Cov.prune _ ?_ (Cov.same rfl rfl rfl (hb11 () trivial))
    exact ⟨dor_t c10, rfl, rfl, rfl, rfl, rfl, trivial⟩
   ·refine Cov.g_on rfl ?_
    refine Cov.q .ro (.move rfl) rfl ?_;refine Cov.g_on rfl ?_;refine Cov.q .ro (.gtr rfl rfl) rfl ?_;refine Cov.q .ro (.pick_f rfl rfl) rfl ?_
    refine Cov.prune _ ?_ (Cov.same rfl rfl rfl (hb11 () trivial))
    exact ⟨dor_f c10, rfl, rfl, rfl, rfl, rfl, trivial⟩
set_option maxHeartbeats 4000000 in
set_option maxRecDepth 100000 in
theorem cost_each_c {Fs : List Hp} {G : Hp} {x0_0 : Int} {x0_1 : Int} {x0_2 : Int} {x1_0 : Int} {x1_1 : Int} {x1_2 : Int} {F2 : FuncId} {c2 : List Value} {x2 : Int → Int → Option Int} {r : (Int × Int × Int)} (hG : G ∈ Fs) (hc2 : ∀ args w, (callFunc F2 args).run Tryz.prog w = .ok (.enter F2 args) w) (hf2 : ∀ (Fs' : List Hp) (G1 : Hp), HpLe G G1 → G1 ∈ Fs' → ∀ (y0 : Int) (y1 : Int) (r : Int), x2 y0 y1 = some r → RetS Tryz.prog F2 (([.int .i64 y0, .int .i64 y1] : List Value) ++ c2).toArray Fs' [] [] (fun v bo so => v = .int .i64 r ∧ bo = [] ∧ so = [])) (h : cost_each (x0_0, x0_1, x0_2) (x1_0, x1_1, x1_2) x2 = some r) : RetS Tryz.prog 106 #[.agg #[.int .i64 x0_0, .int .i64 x0_1, .int .i64 x0_2], .agg #[.int .i64 x1_0, .int .i64 x1_1, .int .i64 x1_2], .func (.func F2) #[] c2.toArray] Fs [] [] (fun v bo so => v = .agg #[.int .i64 r.1, .int .i64 r.2.1, .int .i64 r.2.2] ∧ bo = [] ∧ so = []) := by
 unfold cost_each at h
 try dsimp only at h
 refine RetS.of (vs := [_, _, _]) Tryz.func106 rfl Tryz.ntmps106 [(0, _), (1, _), (2, _)] ⟨rfl, rfl, rfl, trivial⟩ rfl hG fun w0 S0 hS0 B0 => ?_
 refine Cov.seq ?_;refine Cov.region rfl ?_
 refine Cov.box [_, _, _] .ro rfl rfl rfl (fun b1 hb1 => ?_)
 refine Cov.box [_, _, _] .ro rfl rfl rfl (fun b2 hb2 => ?_)
 refine Cov.alloc .ro ty88 rfl (fun b3 hb3 => ?_)
 refine Cov.region_end ?_;refine Cov.seq ?_;refine Cov.drawL (.q 0 (.q 1 (.q 2 (.q 3 (.q 4 (.q 6 (.q 7 (.q 8 (.q 9 (.q 10 (.q 12 (.q 13 (.q 14 (.q 15 (.q 16 (.e 5 1 (.e 11 1 (.e 17 1 (.q 18 (.e 19 2 .nil)))))))))))))))))))) [_, _, _] (by kernel_rfl) (by kernel_rfl) (pick_mem [0, 1, 2] rfl) ?_;refine Cov.dq (.move rfl) rfl ?_;refine Cov.dq (.fieldAddr 0 rfl fl88_0 ty3.sz rfl) rfl ?_;refine Cov.dq (.load_own 2 rfl rfl ty3 rfl) rfl ?_;refine Cov.dq (.fieldAddr 0 rfl fl88_0 ty3.sz rfl) rfl ?_;refine Cov.dq (.load_own 1 rfl rfl ty3 rfl) rfl ?_;refine Cov.dq (.move rfl) rfl ?_
 refine Cov.dq (.fieldAddr 1 rfl fl88_1 ty3.sz rfl) rfl ?_;refine Cov.dq (.load_own 2 rfl rfl ty3 rfl) rfl ?_;refine Cov.dq (.fieldAddr 1 rfl fl88_1 ty3.sz rfl) rfl ?_;refine Cov.dq (.load_own 1 rfl rfl ty3 rfl) rfl ?_;refine Cov.dq (.move rfl) rfl ?_;refine Cov.dq (.fieldAddr 2 rfl fl88_2 ty3.sz rfl) rfl ?_;refine Cov.dq (.load_own 2 rfl rfl ty3 rfl) rfl ?_;refine Cov.dq (.fieldAddr 2 rfl fl88_2 ty3.sz rfl) rfl ?_;refine Cov.dq (.load_own 1 rfl rfl ty3 rfl) rfl ?_
 obtain ⟨u4, hu4, r5⟩ := bind_some h; clear h
 refine Cov.callS (b1 := []) (b2 := [_, _, _]) (s1 := []) [_, _] c2 .d1 rfl rfl hc2 rfl rfl (hf2 _ G (HpLe.refl _) List.mem_cons_self _ _ _  hu4) rfl (fun v7 bo so h6 => ?_)
 obtain ⟨rfl, rfl, rfl⟩ := h6
 refine Cov.same (bl' := [_, _, _]) (sl' := []) rfl rfl rfl ?_;refine Cov.clsL (HpLe.refl _) (pick_mem [0, 1, 2] rfl) ?_
 obtain ⟨u8, hu8, r9⟩ := bind_some r5; clear r5
 refine Cov.callS (b1 := []) (b2 := [_, _, _]) (s1 := []) [_, _] c2 .d1 rfl rfl hc2 rfl rfl (hf2 _ G (HpLe.refl _) List.mem_cons_self _ _ _  hu8) rfl (fun v11 bo so h10 => ?_)
 obtain ⟨rfl, rfl, rfl⟩ := h10
 refine Cov.same (bl' := [_, _, _]) (sl' := []) rfl rfl rfl ?_;refine Cov.clsL (HpLe.refl _) (pick_mem [0, 1, 2] rfl) ?_
 obtain ⟨u12, hu12, r13⟩ := bind_some r9; clear r9
 refine Cov.callS (b1 := []) (b2 := [_, _, _]) (s1 := []) [_, _] c2 .d1 rfl rfl hc2 rfl rfl (hf2 _ G (HpLe.refl _) List.mem_cons_self _ _ _  hu12) rfl (fun v15 bo so h14 => ?_)
 obtain ⟨rfl, rfl, rfl⟩ := h14
 refine Cov.same (bl' := [_, _, _]) (sl' := []) rfl rfl rfl ?_;refine Cov.clsL (HpLe.refl _) (pick_mem [0, 1, 2] rfl) ?_;refine Cov.dq (.build [_, _, _] [(0, _), (1, _), (2, _)] ty88 pl88 rfl rfl) rfl ?_;refine Cov.store 0 [_, _, _] [_, _, _] .d2 rfl rfl rfl ty88 rfl rfl rfl rfl ?_;refine Cov.draw_end ?_;refine Cov.prune [(6, _)] ⟨rfl, trivial⟩ ?_
 cases r13
 refine Cov.retSD 3 (c := ⟨106, none⟩) (.inr ⟨_, rfl⟩) [.cell 6 88] [_] rfl Tryz.func106 Tryz.results106 ⟨RV.cell_a 0 [_, _, _] rfl rfl ty88 rfl, trivial⟩ (fun _ h => List.mem_cons_of_mem _ h) ⟨rfl, rfl, rfl⟩
set_option maxHeartbeats 4000000 in
set_option maxRecDepth 100000 in
theorem cost_Add_f1_c {Fs : List Hp} {G : Hp} {x0 : Int} {x1 : Int} {r : Int} (hG : G ∈ Fs)  (h : cost_Add_f1 x0 x1 = some r) : RetS Tryz.prog 107 #[.int .i64 x0, .int .i64 x1] Fs [] [] (fun v bo so => v = .int .i64 r ∧ bo = [] ∧ so = []) := by
 unfold cost_Add_f1 at h
 try dsimp only at h
 refine RetS.of (vs := [_, _]) Tryz.func107 rfl Tryz.ntmps107 [(0, _), (1, _)] ⟨rfl, rfl, trivial⟩ rfl hG fun w0 S0 hS0 B0 => ?_
 refine Cov.seq ?_;refine Cov.region rfl ?_;refine Cov.q .ro (.assign rfl) rfl ?_;refine Cov.region_end ?_;refine Cov.seq ?_;refine Cov.region rfl ?_;refine Cov.q .ro (.move rfl) rfl ?_;refine Cov.q .ro (.move rfl) rfl ?_;refine Cov.q .ro (.addw rfl rfl) rfl ?_
 refine Cov.q .ro (.assign rfl) rfl ?_;refine Cov.region_end ?_
 cases h
 refine Cov.retS (c := ⟨107, none⟩) (.inr ⟨_, rfl⟩) [.tmp 4] [_] rfl Tryz.func107 Tryz.results107 ⟨RV.tmp rfl, trivial⟩ (fun _ h => List.mem_cons_of_mem _ h) ⟨rfl, rfl, rfl⟩
set_option maxHeartbeats 4000000 in
set_option maxRecDepth 100000 in
theorem cost_Add_c {Fs : List Hp} {G : Hp} {x0_0 : Int} {x0_1 : Int} {x0_2 : Int} {x1_0 : Int} {x1_1 : Int} {x1_2 : Int} {r : (Int × Int × Int)} (hG : G ∈ Fs)  (h : cost_Add (x0_0, x0_1, x0_2) (x1_0, x1_1, x1_2) = some r) : RetS Tryz.prog 54 #[.agg #[.int .i64 x0_0, .int .i64 x0_1, .int .i64 x0_2], .agg #[.int .i64 x1_0, .int .i64 x1_1, .int .i64 x1_2]] Fs [] [] (fun v bo so => v = .agg #[.int .i64 r.1, .int .i64 r.2.1, .int .i64 r.2.2] ∧ bo = [] ∧ so = []) := by
 unfold cost_Add at h
 try dsimp only at h
 refine RetS.of (vs := [_, _]) Tryz.func54 rfl Tryz.ntmps54 [(0, _), (1, _)] ⟨rfl, rfl, trivial⟩ rfl hG fun w0 S0 hS0 B0 => ?_
 refine Cov.seq ?_;refine Cov.region rfl ?_
 refine Cov.box [_, _, _] .ro rfl rfl rfl (fun b1 hb1 => ?_)
 refine Cov.box [_, _, _] .ro rfl rfl rfl (fun b2 hb2 => ?_)
 refine Cov.alloc .ro ty88 rfl (fun b3 hb3 => ?_)
 refine Cov.region_end ?_;refine Cov.seq ?_;refine Cov.region rfl ?_;refine Cov.q .ro (.load_own_a 2 [_, _, _] rfl rfl ty88 rfl) rfl ?_;refine Cov.q .ro (.load_own_a 1 [_, _, _] rfl rfl ty88 rfl) rfl ?_
 obtain ⟨u4, hu4, r5⟩ := bind_some h; clear h
 refine Cov.callS (b1 := []) (b2 := [_, _, _]) (s1 := []) [_, _, _] [] .ro rfl rfl Tryz.call106 rfl rfl (cost_each_c (G := G) List.mem_cons_self Tryz.call107 (fun Fs' G1 hle hm y0 y1 r  hr => cost_Add_f1_c (G := G1) hm   hr) hu4) rfl (fun v7 bo so h6 => ?_)
 obtain ⟨rfl, rfl, rfl⟩ := h6
 refine Cov.same (bl' := [_, _, _]) (sl' := []) rfl rfl rfl ?_;refine Cov.store 0 [_, _, _] [_, _, _] .ro rfl rfl rfl ty88 rfl rfl rfl rfl ?_;refine Cov.region_end ?_
 cases r5
 refine Cov.retSD 3 (c := ⟨54, none⟩) (.inr ⟨_, rfl⟩) [.cell 4 88] [_] rfl Tryz.func54 Tryz.results54 ⟨RV.cell_a 0 [_, _, _] rfl rfl ty88 rfl, trivial⟩ (fun _ h => List.mem_cons_of_mem _ h) ⟨rfl, rfl, rfl⟩
set_option maxHeartbeats 4000000 in
set_option maxRecDepth 100000 in
theorem bounds_Batched_c {Fs : List Hp} {G : Hp} {x0_0 : Int} {a0_1 : Option Addr} {k0_1 : Nat} {x0_1 : List (Int × Int)} {x1_0 : Int} {x1_1 : Int} {x1_2 : Int} {x1_3 : Int} {x2 : Int} {x3 : Int} {r : ((Int × Int × Int) × Int)} (hG : G ∈ Fs) (s0_1 : SlR (Rep.pair (Rep.int .i64) (Rep.int .i64)) G a0_1 k0_1 x0_1) (h : bounds_Batched (x0_0, x0_1) (x1_0, x1_1, x1_2, x1_3) x2 x3 = some r) : RetS Tryz.prog 26 #[.agg #[.int .i64 x0_0, .slice a0_1 x0_1.length k0_1], .agg #[.int .i64 x1_0, .int .i64 x1_1, .int .i64 x1_2, .int .i64 x1_3], .int .i64 x2, .int .i64 x3] Fs [] [] (fun v bo so => v = .tuple #[.agg #[.int .i64 r.1.1, .int .i64 r.1.2.1, .int .i64 r.1.2.2], .int .i64 r.2] ∧ bo = [] ∧ so = []) := by
 unfold bounds_Batched at h
 try dsimp only at h
 refine RetS.of (vs := [_, _, _, _]) Tryz.func26 rfl Tryz.ntmps26 [(0, _), (1, _), (2, _), (3, _)] ⟨rfl, rfl, rfl, rfl, trivial⟩ rfl hG fun w0 S0 hS0 B0 => ?_
 refine Cov.seq ?_;refine Cov.region rfl ?_
 refine Cov.box [_, _] .ro rfl rfl rfl (fun b1 hb1 => ?_)
 refine Cov.box [_, _, _, _] .ro rfl rfl rfl (fun b2 hb2 => ?_)
 refine Cov.alloc .ro ty88 rfl (fun b3 hb3 => ?_)
 refine Cov.q .ro (.assign rfl) rfl ?_;refine Cov.region_end ?_;refine Cov.seq ?_;refine Cov.region rfl ?_;refine Cov.q .ro (.load_own_a 2 [_, _] rfl rfl ty73 rfl) rfl ?_;refine Cov.q .ro (.move rfl) rfl ?_
 obtain ⟨u4, hu4, r5⟩ := bind_some h; clear h
 refine Cov.callW (b1 := []) (b2 := [_, _, _]) (s1 := []) [_, _] [] .ro rfl rfl Tryz.call52 rfl rfl (cuckoo_Layout_c (G := G) List.mem_cons_self s0_1 hu4) rfl B0 (fun v7 bo so G8 e9 B10 h6 => ?_)
 obtain ⟨a12, k13, rfl, rfl, rfl, s14⟩ := h6
 refine Cov.same (bl' := [_, _, _]) (sl' := []) rfl rfl rfl ?_;refine Cov.q .ro (.move rfl) rfl ?_;refine Cov.q .ro (.extract rfl rfl) rfl ?_;refine Cov.q .ro (.extract rfl rfl) rfl ?_;refine Cov.q .ro (.assign rfl) rfl ?_;refine Cov.q .ro (.assign rfl) rfl ?_;refine Cov.region_end ?_;refine Cov.seq ?_;refine Cov.seq ?_
 refine Cov.region rfl ?_;refine Cov.q .ro (.move rfl) rfl ?_;refine Cov.q .ro (.neq rfl rfl) rfl ?_;refine Cov.region_end ?_
 refine Cov.cond_dec rfl (fun c15 => ?_) (fun c15 => ?_)
 ·have r16 := ifT r5 c15; clear r5
  refine Cov.seq ?_;refine Cov.region rfl ?_;refine Cov.q .ro (.build [_, _, _] [] ty88 pl88 rfl rfl) rfl ?_;refine Cov.q .ro (.move rfl) rfl ?_;refine Cov.store 0 [_, _, _] [_, _, _] .ro rfl rfl rfl ty88 rfl rfl rfl rfl ?_;refine Cov.q .ro (.assign rfl) rfl ?_;refine Cov.region_end ?_;refine Cov.prune [(8, _), (9, _)] ⟨rfl, rfl, trivial⟩ ?_
  cases r16
  refine Cov.retSD 3 (c := ⟨26, none⟩) (.inr ⟨_, rfl⟩) [.cell 8 88, .tmp 9] [_, _] rfl Tryz.func26 Tryz.results26 ⟨RV.cell_a 0 [_, _, _] rfl rfl ty88 rfl, RV.tmp rfl, trivial⟩ (fun _ h => List.mem_cons_of_mem _ h) ⟨rfl, rfl, rfl⟩
 ·have r17 := ifF r5 c15; clear r5
  refine Cov.skip ?_;refine Cov.seq ?_;refine Cov.region rfl ?_
  refine Cov.alloc .ro ty88 rfl (fun b18 hb18 => ?_)
  refine Cov.region_end ?_;refine Cov.prune [(3, _), (5, _), (8, _), (10, _), (12, _)] ⟨rfl, rfl, rfl, rfl, rfl, trivial⟩ ?_;refine Cov.seq ?_;refine Cov.seq ?_;refine Cov.region rfl ?_;refine Cov.q .ro (.move rfl) rfl ?_;refine Cov.q .ro (.len_sl rfl rfl sl50) rfl ?_;refine Cov.q .ro (.move rfl) rfl ?_;refine Cov.region_end ?_
  refine Cov.cutB (β := Int × Int × Int × Int × Int × Int × Int × Int × Int × Int × Int) (fun y => []) [(8, _), (12, _)] (fun y => G8 :: Fs) (fun y => [(b18, .cells #[.int .i64 y.1, .int .i64 y.2.1, .int .i64 y.2.2.1] 88 (0, 0)), (b3, .cells #[.int .i64 y.2.2.2.1, .int .i64 y.2.2.2.2.1, .int .i64 y.2.2.2.2.2.1] 88 (0, 0)), (b2, .cells #[.int .i64 y.2.2.2.2.2.2.1, .int .i64 y.2.2.2.2.2.2.2.1, .int .i64 y.2.2.2.2.2.2.2.2.1, .int .i64 y.2.2.2.2.2.2.2.2.2.1] 27 (0, 0)), (b1, .cells #[.int .i64 y.2.2.2.2.2.2.2.2.2.2, .slice a0_1 x0_1.length k0_1] 73 (0, 0))]) [] (fun y => []) [] (fun y => bounds_Batched_J1 y.1 y.2.1 y.2.2.1 y.2.2.2.1 y.2.2.2.2.1 y.2.2.2.2.2.1 y.2.2.2.2.2.2.1 y.2.2.2.2.2.2.2.1 y.2.2.2.2.2.2.2.2.1 y.2.2.2.2.2.2.2.2.2.1 y.2.2.2.2.2.2.2.2.2.2 = some r) ⟨rfl, rfl, trivial⟩ [] rfl [] rfl ?_ ?_
  ·intro y hI
   obtain ⟨v100, v101, v102, v103, v104, v105, v106, v107, v108, v109, v110⟩ := y
   have r112 := hI; clear hI
   try dsimp only at r112
   refine Cov.prune [(8, _), (12, _)] ⟨rfl, rfl, trivial⟩ ?_;refine Cov.same (bl' := [(b18, .cells #[.int .i64 v100, .int .i64 v101, .int .i64 v102] 88 (0, 0)), (b3, .cells #[.int .i64 v103, .int .i64 v104, .int .i64 v105] 88 (0, 0)), (b2, .cells #[.int .i64 v106, .int .i64 v107, .int .i64 v108, .int .i64 v109] 27 (0, 0)), (b1, .cells #[.int .i64 v110, .slice a0_1 x0_1.length k0_1] 73 (0, 0))]) (sl' := []) (Fs' := G8 :: Fs) rfl rfl rfl ?_
   unfold bounds_Batched_J1 at r112
   try dsimp only at r112
   refine Cov.seq ?_;refine Cov.region rfl ?_;refine Cov.q .ro (.load_own_a 0 [_, _, _] rfl rfl ty88 rfl) rfl ?_;refine Cov.store 1 [_, _, _] [_, _, _, _] .ro rfl rfl rfl ty88 rfl rfl rfl rfl ?_;refine Cov.q .ro (.assign rfl) rfl ?_;refine Cov.region_end ?_
   cases r112
   refine Cov.retSD 4 (c := ⟨26, none⟩) (.inr ⟨_, rfl⟩) [.cell 8 88, .tmp 9] [_, _] rfl Tryz.func26 Tryz.results26 ⟨RV.cell_a 1 [_, _, _] rfl rfl ty88 rfl, RV.tmp rfl, trivial⟩ (fun _ h => List.mem_cons_of_mem _ h) ⟨rfl, rfl, rfl⟩
  ·intro hb114
   refine Cov.block ?_
   refine Cov.loop2 (α := Nat × List (List Int) × Int × Int × Int) (fun y => [(29, .int .i64 (y.1 : Int))]) [(3, _), (5, _), (8, _), (12, _), (27, _), (28, _)] (fun y => []) (fun y => [(b18, .cells #[.int .i64 y.2.2.1, .int .i64 y.2.2.2.1, .int .i64 y.2.2.2.2] 88 (0, 0))]) [_, _, _] (fun y => []) [] (fun y => List.drop y.1 u4.1 = y.2.1 ∧ bounds_Batched_L2 bounds_Batched_J1 x3 x1_0 x1_1 x1_2 x1_3 x0_0 y.2.1 y.2.2.1 y.2.2.2.1 y.2.2.2.2 = some r) (fun y => y.2.1.length) (0, u4.1, 0, 0, 0) ⟨rfl, r17⟩ ⟨rfl, rfl, rfl, rfl, rfl, rfl, rfl, trivial⟩ rfl rfl rfl (fun y hI hb162 => ?_)
   obtain ⟨i155, w156, v158, v159, v160⟩ := y
   obtain ⟨g157, r161⟩ := hI
   try dsimp only at g157 r161
   refine Cov.prune [(29, .int .i64 (i155 : Int)), (3, _), (5, _), (8, _), (12, _), (27, _), (28, _)] ⟨rfl, rfl, rfl, rfl, rfl, rfl, rfl, trivial⟩ ?_;refine Cov.same (bl' := [(b18, .cells #[.int .i64 v158, .int .i64 v159, .int .i64 v160] 88 (0, 0)), _, _, _]) (sl' := []) (Fs' := G8 :: Fs) rfl rfl rfl ?_
   cases w156 with
   | nil =>
    rw [bounds_Batched_L2] at r161; try dsimp only at r161
    refine Cov.seq ?_;refine Cov.region rfl ?_;refine Cov.q .ro (.lss rfl rfl) rfl ?_;refine Cov.region_end ?_;refine Cov.seq ?_
    refine Cov.cond_dec rfl (fun c => absurd c (drop_nil g157)) (fun _ => ?_)
    refine Cov.exit rfl ?_
    refine Cov.prune _ ?_ (Cov.same rfl rfl rfl (hb114 (v158, v159, v160, 0, 0, 0, x1_0, x1_1, x1_2, x1_3, x0_0) r161))
    exact ⟨rfl, rfl, trivial⟩
   | cons x173 xs174 =>
    have r172 : bounds_Batched_B2 bounds_Batched_J1 x3 x1_0 x1_1 x1_2 x1_3 x0_0 (bounds_Batched_L2 bounds_Batched_J1 x3 x1_0 x1_1 x1_2 x1_3 x0_0 xs174) x173 v158 v159 v160 = some r := r161; clear r161; unfold bounds_Batched_B2 at r172; try dsimp only at r172
    refine Cov.seq ?_;refine Cov.region rfl ?_;refine Cov.q .ro (.lss rfl rfl) rfl ?_;refine Cov.region_end ?_;refine Cov.seq ?_
    refine Cov.cond_dec rfl (fun _ => ?_) (fun c => absurd (drop_lt g157) c)
    refine Cov.skip ?_;refine Cov.seq ?_;refine Cov.block ?_;refine Cov.seq ?_;refine Cov.region rfl ?_
    obtain ⟨c175, p176, h177⟩ := SlR.get s14 (drop_idx g157)
    obtain ⟨a178, k179, rfl, s180⟩ := h177
    refine Cov.q .ro (.idxR s14 rfl rfl (drop_idx g157) sl50 ty41.sz) rfl ?_;refine Cov.q .ro (.load_rp p176 List.mem_cons_self rfl ty41 rfl) rfl ?_;refine Cov.q .ro (.assign rfl) rfl ?_;refine Cov.region_end ?_;refine Cov.seq ?_;refine Cov.seq ?_;refine Cov.region rfl ?_;refine Cov.q .ro (.move rfl) rfl ?_;refine Cov.q .ro (.len_sl rfl rfl sl41) rfl ?_
    refine Cov.q .ro (.eql rfl rfl) rfl ?_;refine Cov.region_end ?_
    refine Cov.cond_dec rfl (fun c181 => ?_) (fun c181 => ?_)
    ·have r182 := ifT r172 c181; clear r172
     refine Cov.exit rfl ?_;refine Cov.region rfl ?_;refine Cov.q .ro (.addw rfl rfl) rfl ?_;refine Cov.q .ro (.move rfl) rfl ?_;refine Cov.region_end ?_
     refine Cov.prune _ ?_ (Cov.same rfl rfl rfl (hb162 ((i155 + 1), xs174, v158, v159, v160) ⟨(drop_succ g157), r182⟩ (Nat.lt_succ_self _)))
     exact ⟨(congrArg (fun z => some (Value.int .i64 z)) (idx_wrap (SlR.len s14) g157)), rfl, rfl, rfl, rfl, rfl, rfl, trivial⟩
    ·have r183 := ifF r172 c181; clear r172
     refine Cov.skip ?_;refine Cov.seq ?_;refine Cov.region rfl ?_;refine Cov.q .ro (.load_own_a 2 [_, _, _, _] rfl rfl ty27 rfl) rfl ?_;refine Cov.q .ro (.move rfl) rfl ?_;refine Cov.q .ro (.len_sl rfl rfl sl41) rfl ?_;refine Cov.q .ro (.move rfl) rfl ?_
     obtain ⟨u184, hu184, r185⟩ := bind_some r183; clear r183
     refine Cov.callS (b1 := []) (b2 := [_, _, _, _]) (s1 := []) [_, _, _, _] [] .ro rfl rfl Tryz.call53 rfl rfl (cost_Of_c (G := G8) List.mem_cons_self  hu184) rfl (fun v187 bo so h186 => ?_)
     obtain ⟨rfl, rfl, rfl⟩ := h186
     refine Cov.same (bl' := [_, _, _, _]) (sl' := []) rfl rfl rfl ?_;refine Cov.q .ro (.move rfl) rfl ?_;refine Cov.q .ro (.extract rfl rfl) rfl ?_;refine Cov.q .ro (.extract rfl rfl) rfl ?_
     refine Cov.alloc .ro ty88 rfl (fun b188 hb188 => ?_)
     refine Cov.store 0 [_, _, _] [_, _, _, _, _] .ro rfl rfl rfl ty88 rfl rfl rfl rfl ?_;refine Cov.q .ro (.assign rfl) rfl ?_;refine Cov.region_end ?_;refine Cov.prune [(29, _), (3, _), (5, _), (8, _), (12, _), (27, _), (28, _), (15, _), (16, _)] ⟨rfl, rfl, rfl, rfl, rfl, rfl, rfl, rfl, rfl, trivial⟩ ?_;refine Cov.seq ?_;refine Cov.seq ?_;refine Cov.region rfl ?_;refine Cov.q .ro (.move rfl) rfl ?_;refine Cov.q .ro (.neq rfl rfl) rfl ?_
     refine Cov.region_end ?_
     refine Cov.cond_dec rfl (fun c189 => ?_) (fun c189 => ?_)
     ·have r190 := ifT r185 c189; clear r185
      refine Cov.seq ?_;refine Cov.region rfl ?_;refine Cov.q .ro (.build [_, _, _] [] ty88 pl88 rfl rfl) rfl ?_;refine Cov.q .ro (.move rfl) rfl ?_;refine Cov.store 2 [_, _, _] [_, _, _, _, _] .ro rfl rfl rfl ty88 rfl rfl rfl rfl ?_;refine Cov.q .ro (.assign rfl) rfl ?_;refine Cov.region_end ?_
      cases r190
      refine Cov.retSD 5 (c := ⟨26, none⟩) (.inr ⟨_, rfl⟩) [.cell 8 88, .tmp 9] [_, _] rfl Tryz.func26 Tryz.results26 ⟨RV.cell_a 2 [_, _, _] rfl rfl ty88 rfl, RV.tmp rfl, trivial⟩ (fun _ h => List.mem_cons_of_mem _ h) ⟨rfl, rfl, rfl⟩
     ·have r191 := ifF r185 c189; clear r185
      refine Cov.skip ?_;refine Cov.region rfl ?_;refine Cov.q .ro (.load_own_a 1 [_, _, _] rfl rfl ty88 rfl) rfl ?_;refine Cov.q .ro (.load_own_a 0 [_, _, _] rfl rfl ty88 rfl) rfl ?_
      obtain ⟨u192, hu192, r193⟩ := bind_some r191; clear r191
      refine Cov.callS (b1 := []) (b2 := [_, _, _, _, _]) (s1 := []) [_, _] [] .ro rfl rfl Tryz.call54 rfl rfl (cost_Add_c (G := G8) List.mem_cons_self  hu192) rfl (fun v195 bo so h194 => ?_)
      obtain ⟨rfl, rfl, rfl⟩ := h194
      refine Cov.same (bl' := [_, _, _, _, _]) (sl' := []) rfl rfl rfl ?_;refine Cov.store 1 [_, _, _] [_, _, _, _, _] .ro rfl rfl rfl ty88 rfl rfl rfl rfl ?_;refine Cov.region_end ?_;refine Cov.inBlock ?_;refine Cov.region rfl ?_;refine Cov.q .ro (.addw rfl rfl) rfl ?_;refine Cov.q .ro (.move rfl) rfl ?_;refine Cov.region_end ?_;refine Cov.drop 1 0 [_, _, _, _] _ rfl rfl ?_
      refine Cov.prune _ ?_ (Cov.same rfl rfl rfl (hb162 ((i155 + 1), xs174, u192.1, u192.2.1, u192.2.2) ⟨(drop_succ g157), r193⟩ (Nat.lt_succ_self _)))
      exact ⟨(congrArg (fun z => some (Value.int .i64 z)) (idx_wrap (SlR.len s14) g157)), rfl, rfl, rfl, rfl, rfl, rfl, trivial⟩
set_option maxHeartbeats 4000000 in
set_option maxRecDepth 100000 in
theorem ref19_Check_c {Fs : List Hp} {G : Hp} {x0_0 : Int} {a0_1 : Option Addr} {k0_1 : Nat} {x0_1 : List (Int × Int)} {r : Int} (hG : G ∈ Fs) (s0_1 : SlR (Rep.pair (Rep.int .i64) (Rep.int .i64)) G a0_1 k0_1 x0_1) (h : ref19_Check (x0_0, x0_1) = some r) : RetS Tryz.prog 63 #[.agg #[.int .i64 x0_0, .slice a0_1 x0_1.length k0_1]] Fs [] [] (fun v bo so => v = .int .i64 r ∧ bo = [] ∧ so = []) := by
 unfold ref19_Check at h
 try dsimp only at h
 refine RetS.of (vs := [_]) Tryz.func63 rfl Tryz.ntmps63 [(0, _)] ⟨rfl, trivial⟩ rfl hG fun w0 S0 hS0 B0 => ?_
 refine Cov.seq ?_;refine Cov.region rfl ?_
 refine Cov.box [_, _] .ro rfl rfl rfl (fun b1 hb1 => ?_)
 refine Cov.q .ro (.assign rfl) rfl ?_;refine Cov.region_end ?_;refine Cov.seq ?_;refine Cov.seq ?_;refine Cov.region rfl ?_;refine Cov.q .ro (.fieldAddr 0 rfl fl73_0 ty3.sz rfl) rfl ?_;refine Cov.q .ro (.load_own 0 rfl rfl ty3 rfl) rfl ?_;refine Cov.q .ro (.lss rfl rfl) rfl ?_;refine Cov.q .ro (.move rfl) rfl ?_
 refine Cov.cutR 4 (β := Unit) (fun y => [(12, .bool (decide ((x0_0 < 1) ∨ (64 < x0_0))))]) [(1, _)] (fun y => G :: Fs) (fun y => []) [_] (fun y => []) [] (fun y => True) ⟨rfl, trivial⟩ [0] rfl [] rfl ?_ ?_
 ·rintro _ _
  refine Cov.prune [(12, .bool (decide ((x0_0 < 1) ∨ (64 < x0_0)))), (1, _)] ⟨rfl, rfl, trivial⟩ ?_;refine Cov.same (bl' := [_]) (sl' := []) (Fs' := G :: Fs) rfl rfl rfl ?_;refine Cov.q .ro (.move rfl) rfl ?_;refine Cov.cutR 5 (β := Unit) (fun y => [(18, .bool (decide (((x0_0 < 1) ∨ (64 < x0_0)) ∨ ((x0_1.length : Int) < 1))))]) [(1, _)] (fun y => G :: Fs) (fun y => []) [_] (fun y => []) [] (fun y => True) ⟨rfl, trivial⟩ [0] rfl [] rfl ?_ ?_
  ·rintro _ _
   refine Cov.prune [(18, .bool (decide (((x0_0 < 1) ∨ (64 < x0_0)) ∨ ((x0_1.length : Int) < 1)))), (1, _)] ⟨rfl, rfl, trivial⟩ ?_;refine Cov.same (bl' := [_]) (sl' := []) (Fs' := G :: Fs) rfl rfl rfl ?_;refine Cov.q .ro (.move rfl) rfl ?_;refine Cov.cutR 5 (β := Unit) (fun y => [(24, .bool (decide ((((x0_0 < 1) ∨ (64 < x0_0)) ∨ ((x0_1.length : Int) < 1)) ∨ (4 < (x0_1.length : Int)))))]) [(1, _)] (fun y => G :: Fs) (fun y => []) [_] (fun y => []) [] (fun y => True) ⟨rfl, trivial⟩ [0] rfl [] rfl ?_ ?_
   ·rintro _ _
    refine Cov.prune [(24, .bool (decide ((((x0_0 < 1) ∨ (64 < x0_0)) ∨ ((x0_1.length : Int) < 1)) ∨ (4 < (x0_1.length : Int))))), (1, _)] ⟨rfl, rfl, trivial⟩ ?_;refine Cov.same (bl' := [_]) (sl' := []) (Fs' := G :: Fs) rfl rfl rfl ?_;refine Cov.region_end ?_
    refine Cov.cond_dec rfl (fun c14 => ?_) (fun c14 => ?_)
    ·have r15 := ifT h c14; clear h
     refine Cov.seq ?_;refine Cov.region rfl ?_;refine Cov.q .ro (.assign rfl) rfl ?_;refine Cov.region_end ?_
     cases r15
     refine Cov.drop 1 0 [] _ rfl rfl ?_
     refine Cov.retS (c := ⟨63, none⟩) (.inr ⟨_, rfl⟩) [.tmp 2] [_] rfl Tryz.func63 Tryz.results63 ⟨RV.tmp rfl, trivial⟩ (fun _ h => List.mem_cons_of_mem _ h) ⟨rfl, rfl, rfl⟩
    ·have r16 := ifF h c14; clear h
     refine Cov.skip ?_;refine Cov.seq ?_;refine Cov.seq ?_;refine Cov.region rfl ?_;refine Cov.q .ro (.fieldAddr 1 rfl fl73_1 ty71.sz rfl) rfl ?_;refine Cov.q .ro (.load_own 0 rfl rfl ty71 rfl) rfl ?_;refine Cov.q .ro (.len_sl rfl rfl sl71) rfl ?_;refine Cov.q .ro (.move rfl) rfl ?_;refine Cov.region_end ?_
     refine Cov.block ?_
     refine Cov.loop2 (α := Nat × (List (Int × Int))) (fun y => [(28, .int .i64 (y.1 : Int))]) [(26, _), (27, _)] (fun y => []) (fun y => []) [_] (fun y => []) [] (fun y => List.drop y.1 x0_1 = y.2 ∧ ref19_Check_L1 y.2  = some r) (fun y => y.2.length) (0, x0_1) ⟨rfl, r16⟩ ⟨rfl, rfl, rfl, trivial⟩ rfl rfl rfl (fun y hI hb49 => ?_)
     obtain ⟨i45, w46⟩ := y
     obtain ⟨g47, r48⟩ := hI
     try dsimp only at g47 r48
     refine Cov.prune [(28, .int .i64 (i45 : Int)), (26, _), (27, _)] ⟨rfl, rfl, rfl, trivial⟩ ?_;refine Cov.same (bl' := [_]) (sl' := []) (Fs' := G :: Fs) rfl rfl rfl ?_
     cases w46 with
     | nil =>
      rw [ref19_Check_L1] at r48; try dsimp only at r48
      refine Cov.seq ?_;refine Cov.region rfl ?_;refine Cov.q .ro (.lss rfl rfl) rfl ?_;refine Cov.region_end ?_;refine Cov.seq ?_
      refine Cov.cond_dec rfl (fun c => absurd c (drop_nil g47)) (fun _ => ?_)
      refine Cov.exit rfl ?_;refine Cov.seq ?_;refine Cov.region rfl ?_;refine Cov.q .ro (.assign rfl) rfl ?_;refine Cov.region_end ?_
      cases r48
      refine Cov.drop 1 0 [] _ rfl rfl ?_
      refine Cov.retS (c := ⟨63, none⟩) (.inr ⟨_, rfl⟩) [.tmp 2] [_] rfl Tryz.func63 Tryz.results63 ⟨RV.tmp rfl, trivial⟩ (fun _ h => List.mem_cons_of_mem _ h) ⟨rfl, rfl, rfl⟩
     | cons x54 xs55 =>
      have r53 : ref19_Check_B1 (ref19_Check_L1 xs55) x54  = some r := r48; clear r48; unfold ref19_Check_B1 at r53; try dsimp only at r53
      refine Cov.seq ?_;refine Cov.region rfl ?_;refine Cov.q .ro (.lss rfl rfl) rfl ?_;refine Cov.region_end ?_;refine Cov.seq ?_
      refine Cov.cond_dec rfl (fun _ => ?_) (fun c => absurd (drop_lt g47) c)
      refine Cov.skip ?_;refine Cov.seq ?_;refine Cov.block ?_;refine Cov.seq ?_;refine Cov.region rfl ?_
      obtain ⟨c56, p57, h58⟩ := SlR.get s0_1 (drop_idx g47)
      obtain ⟨_, _, rfl, rfl, rfl⟩ := h58
      refine Cov.q .ro (.idxR s0_1 rfl rfl (drop_idx g47) sl71 ty123.sz) rfl ?_;refine Cov.q .ro (.load_rp_a [_, _] p57 List.mem_cons_self rfl ty123 rfl) rfl ?_
      refine Cov.alloc .ro ty123 rfl (fun b59 hb59 => ?_)
      refine Cov.store 0 [_, _] [_, _] .ro rfl rfl rfl ty123 rfl rfl rfl rfl ?_;refine Cov.region_end ?_;refine Cov.seq ?_;refine Cov.region rfl ?_;refine Cov.q .ro (.fieldAddr 0 rfl fl123_0 ty3.sz rfl) rfl ?_;refine Cov.q .ro (.load_own 0 rfl rfl ty3 rfl) rfl ?_;refine Cov.q .ro (.lss rfl rfl) rfl ?_;refine Cov.q .ro (.move rfl) rfl ?_;refine Cov.cutR 4 (β := Unit) (fun y => [(39, .bool (decide ((x54.1 < 0) ∨ (2147483647 ≤ x54.1))))]) [(28, _), (26, _), (27, _), (4, _)] (fun y => G :: Fs) (fun y => []) [_, _] (fun y => []) [] (fun y => True) ⟨rfl, rfl, rfl, rfl, trivial⟩ [0, 1] rfl [] rfl ?_ ?_
      ·rintro _ _
       refine Cov.prune [(39, .bool (decide ((x54.1 < 0) ∨ (2147483647 ≤ x54.1)))), (28, _), (26, _), (27, _), (4, _)] ⟨rfl, rfl, rfl, rfl, rfl, trivial⟩ ?_;refine Cov.same (bl' := [_, _]) (sl' := []) (Fs' := G :: Fs) rfl rfl rfl ?_;refine Cov.q .ro (.move rfl) rfl ?_;refine Cov.cutR 4 (β := Unit) (fun y => [(44, .bool (decide (((x54.1 < 0) ∨ (2147483647 ≤ x54.1)) ∨ (x54.2 < 0))))]) [(28, _), (26, _), (27, _), (4, _)] (fun y => G :: Fs) (fun y => []) [_, _] (fun y => []) [] (fun y => True) ⟨rfl, rfl, rfl, rfl, trivial⟩ [0, 1] rfl [] rfl ?_ ?_
       ·rintro _ _
        refine Cov.prune [(44, .bool (decide (((x54.1 < 0) ∨ (2147483647 ≤ x54.1)) ∨ (x54.2 < 0)))), (28, _), (26, _), (27, _), (4, _)] ⟨rfl, rfl, rfl, rfl, rfl, trivial⟩ ?_;refine Cov.same (bl' := [_, _]) (sl' := []) (Fs' := G :: Fs) rfl rfl rfl ?_;refine Cov.q .ro (.move rfl) rfl ?_;refine Cov.cutR 4 (β := Unit) (fun y => [(49, .bool (decide ((((x54.1 < 0) ∨ (2147483647 ≤ x54.1)) ∨ (x54.2 < 0)) ∨ (2147483647 ≤ x54.2))))]) [(28, _), (26, _), (27, _)] (fun y => G :: Fs) (fun y => []) [_, _] (fun y => []) [] (fun y => True) ⟨rfl, rfl, rfl, trivial⟩ [0, 1] rfl [] rfl ?_ ?_
        ·rintro _ _
         refine Cov.prune [(49, .bool (decide ((((x54.1 < 0) ∨ (2147483647 ≤ x54.1)) ∨ (x54.2 < 0)) ∨ (2147483647 ≤ x54.2)))), (28, _), (26, _), (27, _)] ⟨rfl, rfl, rfl, rfl, trivial⟩ ?_;refine Cov.same (bl' := [_, _]) (sl' := []) (Fs' := G :: Fs) rfl rfl rfl ?_;refine Cov.region_end ?_
         refine Cov.cond_dec rfl (fun c72 => ?_) (fun c72 => ?_)
         ·have r73 := ifT r53 c72; clear r53
          refine Cov.seq ?_;refine Cov.region rfl ?_;refine Cov.q .ro (.assign rfl) rfl ?_;refine Cov.region_end ?_
          cases r73
          refine Cov.drop 2 0 [] _ rfl rfl ?_
          refine Cov.retS (c := ⟨63, none⟩) (.inr ⟨_, rfl⟩) [.tmp 2] [_] rfl Tryz.func63 Tryz.results63 ⟨RV.tmp rfl, trivial⟩ (fun _ h => List.mem_cons_of_mem _ h) ⟨rfl, rfl, rfl⟩
         ·have r74 := ifF r53 c72; clear r53
          refine Cov.skip ?_;refine Cov.inBlock ?_;refine Cov.region rfl ?_;refine Cov.q .ro (.addw rfl rfl) rfl ?_;refine Cov.q .ro (.move rfl) rfl ?_;refine Cov.region_end ?_;refine Cov.drop 1 0 [_] _ rfl rfl ?_
          refine Cov.prune _ ?_ (Cov.same rfl rfl rfl (hb49 ((i45 + 1), xs55) ⟨(drop_succ g47), r74⟩ (Nat.lt_succ_self _)))
          exact ⟨(congrArg (fun z => some (Value.int .i64 z)) (idx_wrap (SlR.len s0_1) g47)), rfl, rfl, trivial⟩
        ·intro hb69
         refine Cov.split 45 rfl (fun c68 => ?_) (fun c68 => ?_)
         ·refine Cov.g_off rfl rfl rfl ?_
          refine Cov.g_off rfl rfl rfl ?_;refine Cov.g_off rfl rfl rfl ?_;refine Cov.q .ro (.pick_t rfl rfl) rfl ?_
          refine Cov.prune _ ?_ (Cov.same rfl rfl rfl (hb69 () trivial))
          exact ⟨dor_t c68, rfl, rfl, rfl, trivial⟩
         ·refine Cov.g_on rfl ?_
          refine Cov.q .ro (.fieldAddr 1 rfl fl123_1 ty3.sz rfl) rfl ?_;refine Cov.g_on rfl ?_;refine Cov.q .ro (.load_own 0 rfl rfl ty3 rfl) rfl ?_;refine Cov.g_on rfl ?_;refine Cov.q .ro (.geq rfl rfl) rfl ?_;refine Cov.q .ro (.pick_f rfl rfl) rfl ?_
          refine Cov.prune _ ?_ (Cov.same rfl rfl rfl (hb69 () trivial))
          exact ⟨dor_f c68, rfl, rfl, rfl, trivial⟩
       ·intro hb65
        refine Cov.split 40 rfl (fun c64 => ?_) (fun c64 => ?_)
        ·refine Cov.g_off rfl rfl rfl ?_
         refine Cov.g_off rfl rfl rfl ?_;refine Cov.g_off rfl rfl rfl ?_;refine Cov.q .ro (.pick_t rfl rfl) rfl ?_
         refine Cov.prune _ ?_ (Cov.same rfl rfl rfl (hb65 () trivial))
         exact ⟨dor_t c64, rfl, rfl, rfl, rfl, trivial⟩
        ·refine Cov.g_on rfl ?_
         refine Cov.q .ro (.fieldAddr 1 rfl fl123_1 ty3.sz rfl) rfl ?_;refine Cov.g_on rfl ?_;refine Cov.q .ro (.load_own 0 rfl rfl ty3 rfl) rfl ?_;refine Cov.g_on rfl ?_;refine Cov.q .ro (.lss rfl rfl) rfl ?_;refine Cov.q .ro (.pick_f rfl rfl) rfl ?_
         refine Cov.prune _ ?_ (Cov.same rfl rfl rfl (hb65 () trivial))
         exact ⟨dor_f c64, rfl, rfl, rfl, rfl, trivial⟩
      ·intro hb61
       refine Cov.split 35 rfl (fun c60 => ?_) (fun c60 => ?_)
       ·refine Cov.g_off rfl rfl rfl ?_
        refine Cov.g_off rfl rfl rfl ?_;refine Cov.g_off rfl rfl rfl ?_;refine Cov.q .ro (.pick_t rfl rfl) rfl ?_
        refine Cov.prune _ ?_ (Cov.same rfl rfl rfl (hb61 () trivial))
        exact ⟨dor_t c60, rfl, rfl, rfl, rfl, trivial⟩
       ·refine Cov.g_on rfl ?_
        refine Cov.q .ro (.fieldAddr 0 rfl fl123_0 ty3.sz rfl) rfl ?_;refine Cov.g_on rfl ?_;refine Cov.q .ro (.load_own 0 rfl rfl ty3 rfl) rfl ?_;refine Cov.g_on rfl ?_;refine Cov.q .ro (.geq rfl rfl) rfl ?_;refine Cov.q .ro (.pick_f rfl rfl) rfl ?_
        refine Cov.prune _ ?_ (Cov.same rfl rfl rfl (hb61 () trivial))
        exact ⟨dor_f c60, rfl, rfl, rfl, rfl, trivial⟩
   ·intro hb11
    refine Cov.split 19 rfl (fun c10 => ?_) (fun c10 => ?_)
    ·refine Cov.g_off rfl rfl rfl ?_
     refine Cov.g_off rfl rfl rfl ?_;refine Cov.g_off rfl rfl rfl ?_;refine Cov.g_off rfl rfl rfl ?_;refine Cov.q .ro (.pick_t rfl rfl) rfl ?_
     refine Cov.prune _ ?_ (Cov.same rfl rfl rfl (hb11 () trivial))
     exact ⟨dor_t c10, rfl, trivial⟩
    ·refine Cov.g_on rfl ?_
     refine Cov.q .ro (.fieldAddr 1 rfl fl73_1 ty71.sz rfl) rfl ?_;refine Cov.g_on rfl ?_;refine Cov.q .ro (.load_own 0 rfl rfl ty71 rfl) rfl ?_;refine Cov.g_on rfl ?_;refine Cov.q .ro (.len_sl rfl rfl sl71) rfl ?_;refine Cov.g_on rfl ?_;refine Cov.q .ro (.gtr rfl rfl) rfl ?_;refine Cov.q .ro (.pick_f rfl rfl) rfl ?_
     refine Cov.prune _ ?_ (Cov.same rfl rfl rfl (hb11 () trivial))
     exact ⟨dor_f c10, rfl, trivial⟩
  ·intro hb7
   refine Cov.split 13 rfl (fun c6 => ?_) (fun c6 => ?_)
   ·refine Cov.g_off rfl rfl rfl ?_
    refine Cov.g_off rfl rfl rfl ?_;refine Cov.g_off rfl rfl rfl ?_;refine Cov.g_off rfl rfl rfl ?_;refine Cov.q .ro (.pick_t rfl rfl) rfl ?_
    refine Cov.prune _ ?_ (Cov.same rfl rfl rfl (hb7 () trivial))
    exact ⟨dor_t c6, rfl, trivial⟩
   ·refine Cov.g_on rfl ?_
    refine Cov.q .ro (.fieldAddr 1 rfl fl73_1 ty71.sz rfl) rfl ?_;refine Cov.g_on rfl ?_;refine Cov.q .ro (.load_own 0 rfl rfl ty71 rfl) rfl ?_;refine Cov.g_on rfl ?_;refine Cov.q .ro (.len_sl rfl rfl sl71) rfl ?_;refine Cov.g_on rfl ?_;refine Cov.q .ro (.lss rfl rfl) rfl ?_;refine Cov.q .ro (.pick_f rfl rfl) rfl ?_
    refine Cov.prune _ ?_ (Cov.same rfl rfl rfl (hb7 () trivial))
    exact ⟨dor_f c6, rfl, trivial⟩
 ·intro hb3
  refine Cov.split 8 rfl (fun c2 => ?_) (fun c2 => ?_)
  ·refine Cov.g_off rfl rfl rfl ?_
   refine Cov.g_off rfl rfl rfl ?_;refine Cov.g_off rfl rfl rfl ?_;refine Cov.q .ro (.pick_t rfl rfl) rfl ?_
   refine Cov.prune _ ?_ (Cov.same rfl rfl rfl (hb3 () trivial))
   exact ⟨dor_t c2, rfl, trivial⟩
  ·refine Cov.g_on rfl ?_
   refine Cov.q .ro (.fieldAddr 0 rfl fl73_0 ty3.sz rfl) rfl ?_;refine Cov.g_on rfl ?_;refine Cov.q .ro (.load_own 0 rfl rfl ty3 rfl) rfl ?_;refine Cov.g_on rfl ?_;refine Cov.q .ro (.gtr rfl rfl) rfl ?_;refine Cov.q .ro (.pick_f rfl rfl) rfl ?_
   refine Cov.prune _ ?_ (Cov.same rfl rfl rfl (hb3 () trivial))
   exact ⟨dor_f c2, rfl, trivial⟩
set_option maxHeartbeats 4000000 in
set_option maxRecDepth 100000 in
theorem ref19_Homes_c {Fs : List Hp} {G : Hp} {x0_0 : Int} {a0_1 : Option Addr} {k0_1 : Nat} {x0_1 : List (Int × Int)} {x1 : Int} {r : ((List Int) × Int)} (hG : G ∈ Fs) (s0_1 : SlR (Rep.pair (Rep.int .i64) (Rep.int .i64)) G a0_1 k0_1 x0_1) (h : ref19_Homes (x0_0, x0_1) x1 = some r) : RetS Tryz.prog 108 #[.agg #[.int .i64 x0_0, .slice a0_1 x0_1.length k0_1], .int .i64 x1] Fs [] [] (fun v bo so => ∃ (oa0 : Option Addr) (ok0 : Nat) (oc0 : List Value), v = .tuple #[.slice oa0 r.1.length ok0, .int .i64 r.2] ∧ bo = [] ∧ so = [.s (.slice oa0 r.1.length ok0) 3 1 r.1.length oc0] ∧ OL (Rep.int .i64) G oc0 r.1) := by
 unfold ref19_Homes at h
 try dsimp only at h
 refine RetS.of (vs := [_, _]) Tryz.func108 rfl Tryz.ntmps108 [(0, _), (1, _)] ⟨rfl, rfl, trivial⟩ rfl hG fun w0 S0 hS0 B0 => ?_
 refine Cov.seq ?_;refine Cov.region rfl ?_
 refine Cov.box [_, _] .ro rfl rfl rfl (fun b1 hb1 => ?_)
 refine Cov.q .ro (.assign rfl) rfl ?_;refine Cov.q .ro (.assign rfl) rfl ?_;refine Cov.region_end ?_;refine Cov.seq ?_;refine Cov.seq ?_;refine Cov.region rfl ?_;refine Cov.q .ro (.load_own_a 0 [_, _] rfl rfl ty73 rfl) rfl ?_
 obtain ⟨u2, hu2, r3⟩ := bind_some h; clear h
 refine Cov.callS (b1 := []) (b2 := [_]) (s1 := []) [_] [] .ro rfl rfl Tryz.call63 rfl rfl (ref19_Check_c (G := G) List.mem_cons_self s0_1 hu2) rfl (fun v5 bo so h4 => ?_)
 obtain ⟨rfl, rfl, rfl⟩ := h4
 refine Cov.same (bl' := [_]) (sl' := []) rfl rfl rfl ?_;refine Cov.q .ro (.assign rfl) rfl ?_;refine Cov.region_end ?_;refine Cov.seq ?_;refine Cov.region rfl ?_;refine Cov.q .ro (.move rfl) rfl ?_;refine Cov.q .ro (.neq rfl rfl) rfl ?_;refine Cov.region_end ?_
 refine Cov.cond_dec rfl (fun c6 => ?_) (fun c6 => ?_)
 ·have r7 := ifT r3 c6; clear r3
  refine Cov.seq ?_;refine Cov.region rfl ?_;refine Cov.q .ro (.move rfl) rfl ?_;refine Cov.q .ro (.assign rfl) rfl ?_;refine Cov.q .ro (.assign rfl) rfl ?_;refine Cov.region_end ?_;refine Cov.own_nil 3 1 ?_
  cases r7
  refine Cov.drop 1 0 [] _ rfl rfl ?_
  refine Cov.retS (c := ⟨108, none⟩) (.inr ⟨_, rfl⟩) [.tmp 4, .tmp 5] [_, _] rfl Tryz.func108 Tryz.results108 ⟨RV.tmp rfl, RV.tmp rfl, trivial⟩ (fun _ h => List.mem_cons_of_mem _ h) ⟨none, 0, [], rfl, rfl, rfl, (OL.nil (Rp' := (Rep.int .i64)))⟩
 ·have r9 := ifF r3 c6; clear r3
  refine Cov.skip ?_;refine Cov.seq ?_;refine Cov.seq ?_;refine Cov.region rfl ?_;refine Cov.q .ro (.move rfl) rfl ?_;refine Cov.q .ro (.lss rfl rfl) rfl ?_;refine Cov.q .ro (.move rfl) rfl ?_;refine Cov.cutR 3 (β := Unit) (fun y => [(20, .bool (decide ((x1 < 0) ∨ (2147483647 ≤ x1))))]) [(1, _), (2, _)] (fun y => G :: Fs) (fun y => []) [_] (fun y => []) [] (fun y => True) ⟨rfl, rfl, trivial⟩ [0] rfl [] rfl ?_ ?_
  ·rintro _ _
   refine Cov.prune [(20, .bool (decide ((x1 < 0) ∨ (2147483647 ≤ x1)))), (1, _), (2, _)] ⟨rfl, rfl, rfl, trivial⟩ ?_;refine Cov.same (bl' := [_]) (sl' := []) (Fs' := G :: Fs) rfl rfl rfl ?_;refine Cov.region_end ?_
   refine Cov.cond_dec rfl (fun c14 => ?_) (fun c14 => ?_)
   ·have r15 := ifT r9 c14; clear r9
    refine Cov.seq ?_;refine Cov.region rfl ?_;refine Cov.q .ro (.assign rfl) rfl ?_;refine Cov.q .ro (.assign rfl) rfl ?_;refine Cov.region_end ?_;refine Cov.own_nil 3 1 ?_
    cases r15
    refine Cov.drop 1 0 [] _ rfl rfl ?_
    refine Cov.retS (c := ⟨108, none⟩) (.inr ⟨_, rfl⟩) [.tmp 4, .tmp 5] [_, _] rfl Tryz.func108 Tryz.results108 ⟨RV.tmp rfl, RV.tmp rfl, trivial⟩ (fun _ h => List.mem_cons_of_mem _ h) ⟨none, 0, [], rfl, rfl, rfl, (OL.nil (Rp' := (Rep.int .i64)))⟩
   ·have r17 := ifF r9 c14; clear r9
    refine Cov.skip ?_;refine Cov.seq ?_;refine Cov.region rfl ?_;refine Cov.q .ro (.assign rfl) rfl ?_;refine Cov.region_end ?_;refine Cov.seq ?_;refine Cov.seq ?_;refine Cov.region rfl ?_;refine Cov.q .ro (.fieldAddr 1 rfl fl73_1 ty71.sz rfl) rfl ?_
    refine Cov.q .ro (.load_own 0 rfl rfl ty71 rfl) rfl ?_;refine Cov.q .ro (.len_sl rfl rfl sl71) rfl ?_;refine Cov.q .ro (.move rfl) rfl ?_;refine Cov.region_end ?_;refine Cov.block ?_;refine Cov.own_nil 3 1 ?_
    refine Cov.loop2 (α := Nat × (List (Int × Int)) × List Int × Option Addr × Nat × List Value) (fun y => [(7, .slice y.2.2.2.1 y.2.2.1.length y.2.2.2.2.1), (24, .int .i64 (y.1 : Int))]) [(1, _), (2, _), (22, _), (23, _)] (fun y => []) (fun y => []) [_] (fun y => [.s (.slice y.2.2.2.1 y.2.2.1.length y.2.2.2.2.1) 3 1 y.2.2.1.length y.2.2.2.2.2]) [] (fun y => OL (Rep.int .i64) G y.2.2.2.2.2 y.2.2.1 ∧ List.drop y.1 x0_1 = y.2.1 ∧ ref19_Homes_L1 x1 x0_0 y.2.1 y.2.2.1 = some r) (fun y => y.2.1.length) (0, x0_1, ([] : List Int), none, 0, []) ⟨(OL.nil (Rp' := (Rep.int .i64))), rfl, r17⟩ ⟨rfl, rfl, rfl, rfl, rfl, rfl, trivial⟩ rfl rfl rfl (fun y hI hb82 => ?_)
    obtain ⟨i72, w73, v75, a76, k77, cs78⟩ := y
    obtain ⟨o79, g74, r81⟩ := hI
    try dsimp only at o79 g74 r81
    refine Cov.prune [(7, .slice a76 v75.length k77), (24, .int .i64 (i72 : Int)), (1, _), (2, _), (22, _), (23, _)] ⟨rfl, rfl, rfl, rfl, rfl, rfl, trivial⟩ ?_;refine Cov.same (bl' := [_]) (sl' := [.s (.slice a76 v75.length k77) 3 1 v75.length cs78]) (Fs' := G :: Fs) rfl rfl rfl ?_
    cases w73 with
    | nil =>
     rw [ref19_Homes_L1] at r81; try dsimp only at r81
     refine Cov.seq ?_;refine Cov.region rfl ?_;refine Cov.q .ro (.lss rfl rfl) rfl ?_;refine Cov.region_end ?_;refine Cov.seq ?_
     refine Cov.cond_dec rfl (fun c => absurd c (drop_nil g74)) (fun _ => ?_)
     refine Cov.exit rfl ?_;refine Cov.seq ?_;refine Cov.region rfl ?_;refine Cov.q .ro (.move rfl) rfl ?_;refine Cov.q .ro (.assign rfl) rfl ?_;refine Cov.q .ro (.assign rfl) rfl ?_;refine Cov.region_end ?_
     cases r81
     refine Cov.drop 1 0 [] _ rfl rfl ?_
     refine Cov.retS (c := ⟨108, none⟩) (.inr ⟨_, rfl⟩) [.tmp 4, .tmp 5] [_, _] rfl Tryz.func108 Tryz.results108 ⟨RV.tmp rfl, RV.tmp rfl, trivial⟩ (fun _ h => List.mem_cons_of_mem _ h) ⟨a76, k77, cs78, rfl, rfl, rfl, o79⟩
    | cons x88 xs89 =>
     have r87 : ref19_Homes_B1 x1 x0_0 (ref19_Homes_L1 x1 x0_0 xs89) x88 v75 = some r := r81; clear r81; unfold ref19_Homes_B1 at r87; try dsimp only at r87
     refine Cov.seq ?_;refine Cov.region rfl ?_;refine Cov.q .ro (.lss rfl rfl) rfl ?_;refine Cov.region_end ?_;refine Cov.seq ?_
     refine Cov.cond_dec rfl (fun _ => ?_) (fun c => absurd (drop_lt g74) c)
     refine Cov.skip ?_;refine Cov.seq ?_;refine Cov.block ?_;refine Cov.seq ?_;refine Cov.region rfl ?_
     obtain ⟨c90, p91, h92⟩ := SlR.get s0_1 (drop_idx g74)
     obtain ⟨_, _, rfl, rfl, rfl⟩ := h92
     refine Cov.q .ro (.idxR s0_1 rfl rfl (drop_idx g74) sl71 ty123.sz) rfl ?_;refine Cov.q .ro (.load_rp_a [_, _] p91 List.mem_cons_self rfl ty123 rfl) rfl ?_
     refine Cov.alloc .ro ty123 rfl (fun b93 hb93 => ?_)
     refine Cov.store 0 [_, _] [_, _] .ro rfl rfl rfl ty123 rfl rfl rfl rfl ?_;refine Cov.region_end ?_;refine Cov.region rfl ?_;refine Cov.q .ro (.move rfl) rfl ?_;refine Cov.q .ro (.fieldAddr 0 rfl fl123_0 ty3.sz rfl) rfl ?_;refine Cov.q .ro (.load_own 0 rfl rfl ty3 rfl) rfl ?_;refine Cov.q .ro (.move rfl) rfl ?_;refine Cov.q .ro (.mulw rfl rfl) rfl ?_;refine Cov.q .ro (.fieldAddr 1 rfl fl123_1 ty3.sz rfl) rfl ?_
     refine Cov.q .ro (.load_own 0 rfl rfl ty3 rfl) rfl ?_;refine Cov.q .ro (.addw rfl rfl) rfl ?_;refine Cov.q .ro (.remt rfl rfl (by decide)) rfl ?_;refine Cov.q .ro (.fieldAddr 0 rfl fl73_0 ty3.sz rfl) rfl ?_;refine Cov.q .ro (.load_own 1 rfl rfl ty3 rfl) rfl ?_
     obtain ⟨u94, hu94, r95⟩ := bind_some r87; clear r87
     refine Cov.q .ro (.remt rfl rfl (nz_some hu94)) rfl ?_
     refine Cov.lit [_] [(0, _)] .ro sl41 ty3 rfl rfl rfl rfl rfl rfl (fun b96 hb96 => ?_)
     have o97 : OL (Rep.int .i64) G [.int .i64 (Int.tmod (Int.tmod (w64 ((w64 (x88.1 * x1)) + x88.2)) 2147483647) x0_0)] ([(Int.tmod (Int.tmod (w64 ((w64 (x88.1 * x1)) + x88.2)) 2147483647) x0_0)] : List Int) := ((OL.cons rfl (Rep.intI .i64 (Int.tmod (Int.tmod (w64 ((w64 (x88.1 * x1)) + x88.2)) 2147483647) x0_0)) (OL.nil (Rp' := (Rep.int .i64)))) :)
     refine Cov.reval 40 (n' := ([(Int.tmod (Int.tmod (w64 ((w64 (x88.1 * x1)) + x88.2)) 2147483647) x0_0)] : List Int).length) rfl rfl ?_
     obtain ⟨u103, hu103, r104⟩ := bind_some r95; clear r95
     refine Cov.appO (Q := (Rep.int .i64)) 0 .ro sl41 ty3 rfl rfl rfl rfl rfl rfl o79 o97 rfl rfl rfl B0 hu103 rfl (fun a99 k100 cs101 o102 => ?_)
     refine Cov.q .ro (.assign rfl) rfl ?_;refine Cov.region_end ?_;refine Cov.prune [(7, _), (24, _), (1, _), (2, _), (22, _), (23, _)] ⟨rfl, rfl, rfl, rfl, rfl, rfl, trivial⟩ ?_;refine Cov.inBlock ?_;refine Cov.region rfl ?_;refine Cov.q .ro (.addw rfl rfl) rfl ?_;refine Cov.q .ro (.move rfl) rfl ?_;refine Cov.region_end ?_;refine Cov.drop 1 0 [_] _ rfl rfl ?_
     refine Cov.prune _ ?_ (Cov.same rfl rfl rfl (hb82 ((i72 + 1), xs89, u103, a99, k100, cs101) ⟨o102, (drop_succ g74), r104⟩ (Nat.lt_succ_self _)))
     exact ⟨rfl, (congrArg (fun z => some (Value.int .i64 z)) (idx_wrap (SlR.len s0_1) g74)), rfl, rfl, rfl, rfl, trivial⟩
  ·intro hb11
   refine Cov.split 17 rfl (fun c10 => ?_) (fun c10 => ?_)
   ·refine Cov.g_off rfl rfl rfl ?_
    refine Cov.g_off rfl rfl rfl ?_;refine Cov.q .ro (.pick_t rfl rfl) rfl ?_
    refine Cov.prune _ ?_ (Cov.same rfl rfl rfl (hb11 () trivial))
    exact ⟨dor_t c10, rfl, rfl, trivial⟩
   ·refine Cov.g_on rfl ?_
    refine Cov.q .ro (.move rfl) rfl ?_;refine Cov.g_on rfl ?_;refine Cov.q .ro (.geq rfl rfl) rfl ?_;refine Cov.q .ro (.pick_f rfl rfl) rfl ?_
    refine Cov.prune _ ?_ (Cov.same rfl rfl rfl (hb11 () trivial))
    exact ⟨dor_f c10, rfl, rfl, trivial⟩
set_option maxHeartbeats 4000000 in
set_option maxRecDepth 100000 in
theorem ref19_has_c {Fs : List Hp} {G : Hp} {a0 : Option Addr} {k0 : Nat} {x0 : List Int} {x1 : Int} {r : Bool} (hG : G ∈ Fs) (s0 : SlR (Rep.int .i64) G a0 k0 x0) (h : ref19_has x0 x1 = some r) : RetS Tryz.prog 109 #[.slice a0 x0.length k0, .int .i64 x1] Fs [] [] (fun v bo so => v = .bool r ∧ bo = [] ∧ so = []) := by
 unfold ref19_has at h
 try dsimp only at h
 refine RetS.of (vs := [_, _]) Tryz.func109 rfl Tryz.ntmps109 [(0, _), (1, _)] ⟨rfl, rfl, trivial⟩ rfl hG fun w0 S0 hS0 B0 => ?_
 refine Cov.seq ?_;refine Cov.region rfl ?_;refine Cov.q .ro (.assign rfl) rfl ?_;refine Cov.region_end ?_;refine Cov.seq ?_;refine Cov.seq ?_;refine Cov.region rfl ?_;refine Cov.q .ro (.move rfl) rfl ?_;refine Cov.q .ro (.len_sl rfl rfl sl41) rfl ?_
 refine Cov.q .ro (.move rfl) rfl ?_;refine Cov.region_end ?_;refine Cov.block ?_
 refine Cov.loop2 (α := Nat × List Int) (fun y => [(9, .int .i64 (y.1 : Int))]) [(1, _), (7, _), (8, _)] (fun y => []) (fun y => []) [] (fun y => []) [] (fun y => List.drop y.1 x0 = y.2 ∧ ref19_has_L1 x1 y.2  = some r) (fun y => y.2.length) (0, x0) ⟨rfl, h⟩ ⟨rfl, rfl, rfl, rfl, trivial⟩ rfl rfl rfl (fun y hI hb19 => ?_)
 obtain ⟨i15, w16⟩ := y
 obtain ⟨g17, r18⟩ := hI
 try dsimp only at g17 r18
 refine Cov.prune [(9, .int .i64 (i15 : Int)), (1, _), (7, _), (8, _)] ⟨rfl, rfl, rfl, rfl, trivial⟩ ?_;refine Cov.same (bl' := []) (sl' := []) (Fs' := G :: Fs) rfl rfl rfl ?_
 cases w16 with
 | nil =>
  rw [ref19_has_L1] at r18; try dsimp only at r18
  refine Cov.seq ?_;refine Cov.region rfl ?_;refine Cov.q .ro (.lss rfl rfl) rfl ?_;refine Cov.region_end ?_;refine Cov.seq ?_
  refine Cov.cond_dec rfl (fun c => absurd c (drop_nil g17)) (fun _ => ?_)
  refine Cov.exit rfl ?_;refine Cov.seq ?_;refine Cov.region rfl ?_;refine Cov.q .ro (.assign rfl) rfl ?_;refine Cov.region_end ?_
  cases r18
  refine Cov.retS (c := ⟨109, none⟩) (.inr ⟨_, rfl⟩) [.tmp 4] [_] rfl Tryz.func109 Tryz.results109 ⟨RV.tmp rfl, trivial⟩ (fun _ h => List.mem_cons_of_mem _ h) ⟨rfl, rfl, rfl⟩
 | cons x24 xs25 =>
  have r23 : ref19_has_B1 x1 (ref19_has_L1 x1 xs25) x24  = some r := r18; clear r18; unfold ref19_has_B1 at r23; try dsimp only at r23
  refine Cov.seq ?_;refine Cov.region rfl ?_;refine Cov.q .ro (.lss rfl rfl) rfl ?_;refine Cov.region_end ?_;refine Cov.seq ?_
  refine Cov.cond_dec rfl (fun _ => ?_) (fun c => absurd (drop_lt g17) c)
  refine Cov.skip ?_;refine Cov.seq ?_;refine Cov.block ?_;refine Cov.seq ?_;refine Cov.region rfl ?_
  obtain ⟨c26, p27, h28⟩ := SlR.get s0 (drop_idx g17)
  obtain rfl := h28
  refine Cov.q .ro (.idxR s0 rfl rfl (drop_idx g17) sl41 ty3.sz) rfl ?_;refine Cov.q .ro (.load_rp p27 List.mem_cons_self rfl ty3 rfl) rfl ?_;refine Cov.q .ro (.assign rfl) rfl ?_;refine Cov.region_end ?_;refine Cov.seq ?_;refine Cov.region rfl ?_;refine Cov.q .ro (.move rfl) rfl ?_;refine Cov.q .ro (.move rfl) rfl ?_;refine Cov.q .ro (.eql rfl rfl) rfl ?_
  refine Cov.region_end ?_
  refine Cov.cond_dec rfl (fun c29 => ?_) (fun c29 => ?_)
  ·have r30 := ifT r23 c29; clear r23
   refine Cov.seq ?_;refine Cov.region rfl ?_;refine Cov.q .ro (.assign rfl) rfl ?_;refine Cov.region_end ?_
   cases r30
   refine Cov.retS (c := ⟨109, none⟩) (.inr ⟨_, rfl⟩) [.tmp 4] [_] rfl Tryz.func109 Tryz.results109 ⟨RV.tmp rfl, trivial⟩ (fun _ h => List.mem_cons_of_mem _ h) ⟨rfl, rfl, rfl⟩
  ·have r31 := ifF r23 c29; clear r23
   refine Cov.skip ?_;refine Cov.inBlock ?_;refine Cov.region rfl ?_;refine Cov.q .ro (.addw rfl rfl) rfl ?_;refine Cov.q .ro (.move rfl) rfl ?_;refine Cov.region_end ?_
   refine Cov.prune _ ?_ (Cov.same rfl rfl rfl (hb19 ((i15 + 1), xs25) ⟨(drop_succ g17), r31⟩ (Nat.lt_succ_self _)))
   exact ⟨(congrArg (fun z => some (Value.int .i64 z)) (idx_wrap (SlR.len s0) g17)), rfl, rfl, rfl, trivial⟩
set_option maxHeartbeats 4000000 in
set_option maxRecDepth 100000 in
theorem ref19_Layout_c {Fs : List Hp} {G : Hp} {x0_0 : Int} {a0_1 : Option Addr} {k0_1 : Nat} {x0_1 : List (Int × Int)} {x1 : Int} {r : ((List (List Int)) × Int)} (hG : G ∈ Fs) (s0_1 : SlR (Rep.pair (Rep.int .i64) (Rep.int .i64)) G a0_1 k0_1 x0_1) (h : ref19_Layout (x0_0, x0_1) x1 = some r) : RetW Tryz.prog 55 #[.agg #[.int .i64 x0_0, .slice a0_1 x0_1.length k0_1], .int .i64 x1] Fs [] [] (fun v bo so G => ∃ a0 : Option Addr, ∃ k0 : Nat, v = .tuple #[.slice a0 r.1.length k0, .int .i64 r.2] ∧ bo = [] ∧ so = [] ∧ SlR (Rep.sl (Rep.int .i64)) G a0 k0 r.1) := by
 unfold ref19_Layout at h
 try dsimp only at h
 refine RetW.of (vs := [_, _]) Tryz.func55 rfl Tryz.ntmps55 [(0, _), (1, _)] ⟨rfl, rfl, trivial⟩ rfl hG fun w0 S0 hS0 B0 => ?_
 refine Cov.seq ?_;refine Cov.region rfl ?_
 refine Cov.box [_, _] .ro rfl rfl rfl (fun b1 hb1 => ?_)
 refine Cov.q .ro (.assign rfl) rfl ?_;refine Cov.q .ro (.assign rfl) rfl ?_;refine Cov.region_end ?_;refine Cov.seq ?_;refine Cov.seq ?_;refine Cov.region rfl ?_;refine Cov.q .ro (.load_own_a 0 [_, _] rfl rfl ty73 rfl) rfl ?_
 obtain ⟨u2, hu2, r3⟩ := bind_some h; clear h
 refine Cov.callS (b1 := []) (b2 := [_]) (s1 := []) [_] [] .ro rfl rfl Tryz.call63 rfl rfl (ref19_Check_c (G := G) List.mem_cons_self s0_1 hu2) rfl (fun v5 bo so h4 => ?_)
 obtain ⟨rfl, rfl, rfl⟩ := h4
 refine Cov.same (bl' := [_]) (sl' := []) rfl rfl rfl ?_;refine Cov.q .ro (.assign rfl) rfl ?_;refine Cov.region_end ?_;refine Cov.seq ?_;refine Cov.region rfl ?_;refine Cov.q .ro (.move rfl) rfl ?_;refine Cov.q .ro (.neq rfl rfl) rfl ?_;refine Cov.region_end ?_
 refine Cov.cond_dec rfl (fun c6 => ?_) (fun c6 => ?_)
 ·have r7 := ifT r3 c6; clear r3
  refine Cov.seq ?_;refine Cov.region rfl ?_;refine Cov.q .ro (.move rfl) rfl ?_;refine Cov.q .ro (.assign rfl) rfl ?_;refine Cov.q .ro (.assign rfl) rfl ?_;refine Cov.region_end ?_
  cases r7
  refine Cov.drop 1 0 [] _ rfl rfl ?_
  refine Cov.retW (c := ⟨55, none⟩) (.inr ⟨_, rfl⟩) [.tmp 4, .tmp 5] [_, _] rfl Tryz.func55 Tryz.results55 ⟨RV.tmp rfl, RV.tmp rfl, trivial⟩ (fun _ h => List.mem_cons_of_mem _ h) List.mem_cons_self B0 (by subst hS0; simp [blks]) (fun G' hg => ⟨none, 0, rfl, rfl, rfl, (SlR.mono hg (SlR.nil (Rp' := (Rep.sl (Rep.int .i64)))))⟩)
 ·have r8 := ifF r3 c6; clear r3
  refine Cov.skip ?_;refine Cov.seq ?_;refine Cov.seq ?_;refine Cov.region rfl ?_;refine Cov.q .ro (.move rfl) rfl ?_;refine Cov.q .ro (.lss rfl rfl) rfl ?_;refine Cov.q .ro (.move rfl) rfl ?_;refine Cov.cutR 3 (β := Unit) (fun y => [(23, .bool (decide ((x1 < 0) ∨ (1024 < x1))))]) [(1, _), (2, _)] (fun y => G :: Fs) (fun y => []) [_] (fun y => []) [] (fun y => True) ⟨rfl, rfl, trivial⟩ [0] rfl [] rfl ?_ ?_
  ·rintro _ _
   refine Cov.prune [(23, .bool (decide ((x1 < 0) ∨ (1024 < x1)))), (1, _), (2, _)] ⟨rfl, rfl, rfl, trivial⟩ ?_;refine Cov.same (bl' := [_]) (sl' := []) (Fs' := G :: Fs) rfl rfl rfl ?_;refine Cov.region_end ?_
   refine Cov.cond_dec rfl (fun c13 => ?_) (fun c13 => ?_)
   ·have r14 := ifT r8 c13; clear r8
    refine Cov.seq ?_;refine Cov.region rfl ?_;refine Cov.q .ro (.assign rfl) rfl ?_;refine Cov.q .ro (.assign rfl) rfl ?_;refine Cov.region_end ?_
    cases r14
    refine Cov.drop 1 0 [] _ rfl rfl ?_
    refine Cov.retW (c := ⟨55, none⟩) (.inr ⟨_, rfl⟩) [.tmp 4, .tmp 5] [_, _] rfl Tryz.func55 Tryz.results55 ⟨RV.tmp rfl, RV.tmp rfl, trivial⟩ (fun _ h => List.mem_cons_of_mem _ h) List.mem_cons_self B0 (by subst hS0; simp [blks]) (fun G' hg => ⟨none, 0, rfl, rfl, rfl, (SlR.mono hg (SlR.nil (Rp' := (Rep.sl (Rep.int .i64)))))⟩)
   ·have r15 := ifF r8 c13; clear r8
    refine Cov.skip ?_;refine Cov.seq ?_;refine Cov.region rfl ?_;refine Cov.q .ro (.fieldAddr 0 rfl fl73_0 ty3.sz rfl) rfl ?_;refine Cov.q .ro (.load_own 0 rfl rfl ty3 rfl) rfl ?_
    obtain ⟨u16, hu16, r17⟩ := bind_some r15; clear r15
    refine Cov.makeN (G := G) (Q := (Rep.int .i64)) 3 1 .ro sl50 ty41 rfl rfl hu16 rfl rfl (fun b18 es19 cs20 hb18 o21 => ?_)
    refine Cov.q .ro (.assign rfl) rfl ?_;refine Cov.region_end ?_;refine Cov.seq ?_;refine Cov.seq ?_;refine Cov.region rfl ?_;refine Cov.q .ro (.assign rfl) rfl ?_;refine Cov.region_end ?_;refine Cov.block ?_;refine Cov.pullS 1 rfl [_, _] rfl ?_
    refine Cov.pullS 1 rfl [_, _] rfl ?_
    refine Cov.loop2 (α := Nat × Hp × Int × List (List Int) × List NE × List Value × Int) (fun y => [(8, .int .i64 y.2.2.1), (7, .slice (some ⟨b18, 0, none⟩) y.2.2.2.1.length u16.length)]) [(1, _), (2, _)] (fun y => [y.2.1]) (fun y => [(b1, .cells #[.int .i64 y.2.2.2.2.2.2, .slice a0_1 x0_1.length k0_1] 73 (0, 0))]) [] (fun y => [.s (.slice (some ⟨b18, 0, none⟩) y.2.2.2.1.length u16.length) 41 1 y.2.2.2.1.length y.2.2.2.2.2.1, .g (packG 3 1 y.2.2.2.2.1)]) [] (fun y => HpLe G y.2.1 ∧ Bd w0 S0 Fs y.2.1 ∧ NL (Rep.int .i64) y.2.1 y.2.2.2.2.1 y.2.2.2.2.2.1 y.2.2.2.1 ∧ y.2.2.2.1.length = u16.length ∧ ref19_Layout_L2 x1 x0_1 y.1 y.2.2.1 y.2.2.2.1 y.2.2.2.2.2.2 = some r) (fun y => y.1) (big, G, 0, u16, es19, cs20, x0_0) ⟨(HpLe.refl _), B0, o21, rfl, r17⟩ ⟨rfl, rfl, rfl, rfl, trivial⟩ rfl rfl rfl (fun y hI hb266 => ?_)
    obtain ⟨n250, G252, v256, v257, es258, cs259, v264⟩ := y
    obtain ⟨e253, B254, o260, hl261, r265⟩ := hI
    try dsimp only at e253 B254 o260 hl261 r265
    refine Cov.prune [(8, .int .i64 v256), (7, .slice (some ⟨b18, 0, none⟩) v257.length u16.length), (1, _), (2, _)] ⟨rfl, rfl, rfl, rfl, trivial⟩ ?_;refine Cov.same (bl' := [(b1, .cells #[.int .i64 v264, .slice a0_1 x0_1.length k0_1] 73 (0, 0))]) (sl' := [.s (.slice (some ⟨b18, 0, none⟩) v257.length u16.length) 41 1 v257.length cs259, .g (packG 3 1 es258)]) (Fs' := G252 :: Fs) rfl rfl rfl ?_
    obtain ⟨m270, rfl⟩ : ∃ m, n250 = m + 1 := by cases n250 with | zero => exact absurd (show (none : Option _) = some _ from r265) (by simp) | succ m => exact ⟨m, rfl⟩
    have r269 : ref19_Layout_B2 x1 x0_1 (ref19_Layout_L2 x1 x0_1 m270) v256 v257 v264 = some r := r265; clear r265; unfold ref19_Layout_B2 at r269; try dsimp only at r269
    refine Cov.seq ?_;refine Cov.seq ?_;refine Cov.region rfl ?_;refine Cov.q .ro (.move rfl) rfl ?_;refine Cov.q .ro (.move rfl) rfl ?_;refine Cov.q .ro (.lss rfl rfl) rfl ?_;refine Cov.region_end ?_
    refine Cov.cond_dec rfl (fun c271 => ?_) (fun c271 => ?_)
    ·have r272 := ifT r269 c271; clear r269
     refine Cov.skip ?_;refine Cov.seq ?_;refine Cov.block ?_;refine Cov.seq ?_;refine Cov.region rfl ?_;refine Cov.q .ro (.load_own_a 0 [_, _] rfl rfl ty73 rfl) rfl ?_;refine Cov.q .ro (.move rfl) rfl ?_
     obtain ⟨u273, hu273, r274⟩ := bind_some r272; clear r272
     refine Cov.callS (b1 := []) (b2 := [_]) (s1 := []) [_, _] [] .ro rfl rfl Tryz.call108 rfl rfl (ref19_Homes_c (G := G252) List.mem_cons_self (SlR.mono e253 s0_1) hu273) rfl (fun v276 bo so h275 => ?_)
     obtain ⟨a278, k279, cs280, rfl, rfl, rfl, o281⟩ := h275
     refine Cov.same (bl' := [_]) (sl' := [_, _, _]) rfl rfl rfl ?_;refine Cov.q .ro (.move rfl) rfl ?_;refine Cov.q .ro (.extract rfl rfl) rfl ?_;refine Cov.q .ro (.extract rfl rfl) rfl ?_;refine Cov.q .ro (.assign rfl) rfl ?_;refine Cov.q .ro (.assign rfl) rfl ?_;refine Cov.region_end ?_;refine Cov.seq ?_;refine Cov.region rfl ?_
     refine Cov.q .ro (.move rfl) rfl ?_;refine Cov.q .ro (.len_sl rfl rfl sl41) rfl ?_;refine Cov.q .ro (.move rfl) rfl ?_;refine Cov.region_end ?_;refine Cov.block ?_
     refine Cov.freezeR 0 rfl rfl o281 [_, _] rfl B254 (fun G346 e347 B348 s349 => ?_)
     refine Cov.pullS 1 rfl [_, _] rfl ?_;refine Cov.pullS 1 rfl [_, _] rfl ?_
     refine Cov.loop2 (α := Nat × List Int × Hp × List (List Int) × List NE × List Value) (fun y => [(7, .slice (some ⟨b18, 0, none⟩) y.2.2.2.1.length u16.length), (40, .int .i64 (y.1 : Int))]) [(8, _), (1, _), (2, _), (9, _), (38, _), (39, _)] (fun y => [y.2.2.1]) (fun y => []) [_] (fun y => [.s (.slice (some ⟨b18, 0, none⟩) y.2.2.2.1.length u16.length) 41 1 y.2.2.2.1.length y.2.2.2.2.2, .g (packG 3 1 y.2.2.2.2.1)]) [] (fun y => HpLe G346 y.2.2.1 ∧ Bd w0 S0 Fs y.2.2.1 ∧ NL (Rep.int .i64) y.2.2.1 y.2.2.2.2.1 y.2.2.2.2.2 y.2.2.2.1 ∧ y.2.2.2.1.length = u16.length ∧ List.drop y.1 u273.1 = y.2.1 ∧ ref19_Layout_L1 (ref19_Layout_L2 x1 x0_1 m270) v256 u273.1 v264 y.2.1 y.1 y.2.2.2.1 = some r) (fun y => y.2.1.length) (0, u273.1, G346, v257, es258, cs259) ⟨(HpLe.refl _), B348, (NL.mono e347 o260), hl261, rfl, r274⟩ ⟨rfl, rfl, rfl, rfl, rfl, rfl, rfl, rfl, trivial⟩ rfl rfl rfl (fun y hI hb426 => ?_)
     obtain ⟨i411, w412, G414, v418, es419, cs420⟩ := y
     obtain ⟨e415, B416, o421, hl422, g413, r425⟩ := hI
     try dsimp only at e415 B416 o421 hl422 g413 r425
     refine Cov.prune [(7, .slice (some ⟨b18, 0, none⟩) v418.length u16.length), (40, .int .i64 (i411 : Int)), (8, _), (1, _), (2, _), (9, _), (38, _), (39, _)] ⟨rfl, rfl, rfl, rfl, rfl, rfl, rfl, rfl, trivial⟩ ?_;refine Cov.same (bl' := [_]) (sl' := [.s (.slice (some ⟨b18, 0, none⟩) v418.length u16.length) 41 1 v418.length cs420, .g (packG 3 1 es419)]) (Fs' := G414 :: Fs) rfl rfl rfl ?_
     cases w412 with
     | nil =>
      rw [ref19_Layout_L1] at r425; try dsimp only at r425
      refine Cov.seq ?_;refine Cov.region rfl ?_;refine Cov.q .ro (.lss rfl rfl) rfl ?_;refine Cov.region_end ?_;refine Cov.seq ?_
      refine Cov.cond_dec rfl (fun c => absurd c (drop_nil g413)) (fun _ => ?_)
      refine Cov.exit rfl ?_;refine Cov.inBlock ?_;refine Cov.region rfl ?_;refine Cov.q .ro (.move rfl) rfl ?_;refine Cov.q .ro (.addw rfl rfl) rfl ?_;refine Cov.q .ro (.assign rfl) rfl ?_;refine Cov.region_end ?_
      refine Cov.prune _ ?_ (Cov.same rfl rfl rfl (hb266 (m270, G414, (w64 (v256 + 1)), v418, es419, cs420, v264) ⟨(HpLe.trans (HpLe.trans e253 e347) e415), B416, o421, hl422, r425⟩ (Nat.lt_succ_self _)))
      exact ⟨rfl, rfl, rfl, rfl, trivial⟩
     | cons x434 xs435 =>
      have r433 : ref19_Layout_B1 (ref19_Layout_L2 x1 x0_1 m270) v256 u273.1 v264 (ref19_Layout_L1 (ref19_Layout_L2 x1 x0_1 m270) v256 u273.1 v264 xs435 (i411 + 1)) x434 i411 v418 = some r := r425; clear r425; unfold ref19_Layout_B1 at r433; try dsimp only at r433
      refine Cov.seq ?_;refine Cov.region rfl ?_;refine Cov.q .ro (.lss rfl rfl) rfl ?_;refine Cov.region_end ?_;refine Cov.seq ?_
      refine Cov.cond_dec rfl (fun _ => ?_) (fun c => absurd (drop_lt g413) c)
      refine Cov.skip ?_;refine Cov.seq ?_;refine Cov.block ?_;refine Cov.seq ?_;refine Cov.region rfl ?_;refine Cov.q .ro (.move rfl) rfl ?_
      obtain ⟨c436, p437, h438⟩ := SlR.get (SlR.mono e415 s349) (drop_idx g413)
      obtain rfl := h438
      refine Cov.q .ro (.idxR (SlR.mono e415 s349) rfl rfl (drop_idx g413) sl41 ty3.sz) rfl ?_;refine Cov.q .ro (.load_rp p437 List.mem_cons_self rfl ty3 rfl) rfl ?_;refine Cov.q .ro (.assign rfl) rfl ?_;refine Cov.q .ro (.assign rfl) rfl ?_;refine Cov.region_end ?_;refine Cov.seq ?_;refine Cov.region rfl ?_;refine Cov.q .ro (.move rfl) rfl ?_;refine Cov.q .ro (.move rfl) rfl ?_
      obtain ⟨u439, hu439, r440⟩ := bind_some r433; clear r433
      obtain ⟨a441, k442, h443, s444⟩ := SlR.sub (SlR.mono e415 s349) hu439
      refine Cov.q .ro (.sliceR (SlR.mono e415 s349) rfl hu439 sl41 ty3.sz (fun _ => .no) (fun h => .yes' rfl h) h443) rfl ?_;refine Cov.q .ro (.move rfl) rfl ?_
      obtain ⟨u445, hu445, r446⟩ := bind_some r440; clear r440
      refine Cov.callS (b1 := []) (b2 := [_]) (s1 := []) [_, _] [] .ro rfl rfl Tryz.call109 rfl rfl (ref19_has_c (G := G414) List.mem_cons_self s444 hu445) rfl (fun v448 bo so h447 => ?_)
      obtain ⟨rfl, rfl, rfl⟩ := h447
      refine Cov.same (bl' := [_]) (sl' := [_, _]) rfl rfl rfl ?_;refine Cov.q .ro (.not rfl) rfl ?_;refine Cov.region_end ?_
      refine Cov.cond rfl (fun c449 => ?_) (fun c449 => ?_)
      ·have r450 := ifT r446 c449; clear r446
       refine Cov.region rfl ?_;refine Cov.q .ro (.move rfl) rfl ?_;refine Cov.q .ro (.move rfl) rfl ?_;refine Cov.q .ro (.move rfl) rfl ?_;refine Cov.q .ro (.move rfl) rfl ?_
       obtain ⟨u451, hu451, r452⟩ := bind_some r450; clear r450
       obtain ⟨e453, he454, hn455, ho456, p457⟩ := NL.get o421 hu451
       refine Cov.q .ro (.idxO 0 rfl rfl rfl hu451 sl50 ty41.sz) rfl ?_;refine Cov.q .ro (.loadO 0 0 rfl hu451 p457 rfl (.inl ⟨rfl, rfl⟩) ty41 rfl) rfl ?_;refine Cov.q .ro (.move rfl) rfl ?_
       refine Cov.lit [_] [(0, _)] .ro sl41 ty3 rfl rfl rfl rfl rfl rfl (fun b458 hb458 => ?_)
       have o459 : OL (Rep.int .i64) G414 [.int .i64 v256] ([v256] : List Int) := ((OL.cons rfl (Rep.intI .i64 v256) (OL.nil (Rp' := (Rep.int .i64)))) :)
       refine Cov.reval 58 (n' := ([v256] : List Int).length) rfl rfl ?_
       refine Cov.freezeR 0 rfl rfl o459 [_, _] rfl B416 (fun G461 e462 B463 s464 => ?_)
       refine Cov.takeN 1 rfl he454 hn455 ?_
       obtain ⟨u471, hu471, r472⟩ := bind_some r452; clear r452
       refine Cov.appR (Q := (Rep.int .i64)) 0 .ro sl41 ty3 rfl rfl rfl rfl rfl (OL.mono e462 ho456) rfl rfl s464 rfl List.mem_cons_self hu471 rfl (fun a467 k468 cs469 o470 => ?_)
       obtain ⟨u474, hu474, r475⟩ := bind_some r472; clear r472
       obtain ⟨e476, he477, hn478, ho479, p480⟩ := NL.get (NL.mono e462 o421) hu474
       refine Cov.q .ro (.idxO 1 rfl rfl rfl hu474 sl50 ty41.sz) rfl ?_
       obtain ⟨u481, hu481, r482⟩ := bind_some r475; clear r475
       refine Cov.storeN 0 1 (Q := (Rep.int .i64)) .ro rfl rfl rfl (NL.mono e462 o421) he454 o470 hu481 rfl (.inl ⟨rfl, rfl⟩) rfl ty41 rfl (fun es483 cs484 hlcs484 o485 => ?_)
       refine Cov.reval 7 hlcs484 rfl ?_;refine Cov.reval 51 hlcs484 rfl ?_;refine Cov.reval 53 hlcs484 rfl ?_;refine Cov.region_end ?_;refine Cov.prune [(7, _), (40, _), (8, _), (1, _), (2, _), (9, _), (38, _), (39, _)] ⟨rfl, rfl, rfl, rfl, rfl, rfl, rfl, rfl, trivial⟩ ?_;refine Cov.inBlock ?_;refine Cov.region rfl ?_;refine Cov.q .ro (.addw rfl rfl) rfl ?_;refine Cov.q .ro (.move rfl) rfl ?_
       refine Cov.region_end ?_
       refine Cov.prune _ ?_ (Cov.same rfl rfl rfl (hb426 ((i411 + 1), xs435, G461, u481, es483, cs484) ⟨(HpLe.trans e415 e462), B463, o485, (hlcs484.trans hl422), (drop_succ g413), r482⟩ (Nat.lt_succ_self _)))
       exact ⟨rfl, (congrArg (fun z => some (Value.int .i64 z)) (idx_wrap (OL.len' o281) g413)), rfl, rfl, rfl, rfl, rfl, rfl, trivial⟩
      ·have r487 := ifBF r446 c449; clear r446
       refine Cov.skip ?_;refine Cov.inBlock ?_;refine Cov.region rfl ?_;refine Cov.q .ro (.addw rfl rfl) rfl ?_;refine Cov.q .ro (.move rfl) rfl ?_;refine Cov.region_end ?_;refine Cov.prune [(7, _), (40, _), (8, _), (1, _), (2, _), (9, _), (38, _), (39, _)] ⟨rfl, rfl, rfl, rfl, rfl, rfl, rfl, rfl, trivial⟩ ?_
       refine Cov.prune _ ?_ (Cov.same rfl rfl rfl (hb426 ((i411 + 1), xs435, G414, v418, es419, cs420) ⟨e415, B416, o421, hl422, (drop_succ g413), r487⟩ (Nat.lt_succ_self _)))
       exact ⟨rfl, (congrArg (fun z => some (Value.int .i64 z)) (idx_wrap (OL.len' o281) g413)), rfl, rfl, rfl, rfl, rfl, rfl, trivial⟩
    ·have r488 := ifF r269 c271; clear r269
     refine Cov.exit rfl ?_;refine Cov.seq ?_;refine Cov.region rfl ?_;refine Cov.q .ro (.move rfl) rfl ?_;refine Cov.q .ro (.assign rfl) rfl ?_;refine Cov.q .ro (.assign rfl) rfl ?_;refine Cov.region_end ?_;refine Cov.pullS 1 rfl [_, _] rfl ?_;refine Cov.pullS 1 rfl [_, _] rfl ?_
     refine Cov.freezeN (Q := (Rep.int .i64)) rfl o260 rfl B254 (fun G489 e490 B491 s492 => ?_)
     cases r488
     refine Cov.drop 1 0 [] _ rfl rfl ?_
     refine Cov.retW (c := ⟨55, none⟩) (.inr ⟨_, rfl⟩) [.tmp 4, .tmp 5] [_, _] rfl Tryz.func55 Tryz.results55 ⟨RV.tmp rfl, RV.tmp rfl, trivial⟩ (fun _ h => List.mem_cons_of_mem _ h) List.mem_cons_self B491 (by subst hS0; simp [blks]) (fun G' hg => ⟨(some ⟨b18, 0, none⟩), u16.length, rfl, rfl, rfl, (SlR.mono hg s492)⟩)
  ·intro hb10
   refine Cov.split 20 rfl (fun c9 => ?_) (fun c9 => ?_)
   ·refine Cov.g_off rfl rfl rfl ?_
    refine Cov.g_off rfl rfl rfl ?_;refine Cov.q .ro (.pick_t rfl rfl) rfl ?_
    refine Cov.prune _ ?_ (Cov.same rfl rfl rfl (hb10 () trivial))
    exact ⟨dor_t c9, rfl, rfl, trivial⟩
   ·refine Cov.g_on rfl ?_
    refine Cov.q .ro (.move rfl) rfl ?_;refine Cov.g_on rfl ?_;refine Cov.q .ro (.gtr rfl rfl) rfl ?_;refine Cov.q .ro (.pick_f rfl rfl) rfl ?_
    refine Cov.prune _ ?_ (Cov.same rfl rfl rfl (hb10 () trivial))
    exact ⟨dor_f c9, rfl, rfl, trivial⟩
set_option maxHeartbeats 4000000 in
set_option maxRecDepth 100000 in
theorem ref28_Units_c {Fs : List Hp} {G : Hp} {x0_0 : Int} {x0_1 : Int} {x0_2 : Int} {x0_3 : Int} {x1 : Int} {r : (Int × Int)} (hG : G ∈ Fs)  (h : ref28_Units (x0_0, x0_1, x0_2, x0_3) x1 = some r) : RetS Tryz.prog 110 #[.agg #[.int .i64 x0_0, .int .i64 x0_1, .int .i64 x0_2, .int .i64 x0_3], .int .i64 x1] Fs [] [] (fun v bo so => v = .tuple #[.int .i64 r.1, .int .i64 r.2] ∧ bo = [] ∧ so = []) := by
 unfold ref28_Units at h
 try dsimp only at h
 refine RetS.of (vs := [_, _]) Tryz.func110 rfl Tryz.ntmps110 [(0, _), (1, _)] ⟨rfl, rfl, trivial⟩ rfl hG fun w0 S0 hS0 B0 => ?_
 refine Cov.seq ?_;refine Cov.region rfl ?_
 refine Cov.box [_, _, _, _] .ro rfl rfl rfl (fun b1 hb1 => ?_)
 refine Cov.q .ro (.assign rfl) rfl ?_;refine Cov.q .ro (.assign rfl) rfl ?_;refine Cov.region_end ?_;refine Cov.seq ?_;refine Cov.seq ?_;refine Cov.region rfl ?_;refine Cov.q .ro (.load_own_a 0 [_, _, _, _] rfl rfl ty27 rfl) rfl ?_
 obtain ⟨u2, hu2, r3⟩ := bind_some h; clear h
 refine Cov.callS (b1 := []) (b2 := [_]) (s1 := []) [_] [] .ro rfl rfl Tryz.call124 rfl rfl (ref23_Shape_c (G := G) List.mem_cons_self  hu2) rfl (fun v5 bo so h4 => ?_)
 obtain ⟨rfl, rfl, rfl⟩ := h4
 refine Cov.same (bl' := [_]) (sl' := []) rfl rfl rfl ?_;refine Cov.q .ro (.not rfl) rfl ?_;refine Cov.region_end ?_
 refine Cov.cond rfl (fun c6 => ?_) (fun c6 => ?_)
 ·have r7 := ifT r3 c6; clear r3
  refine Cov.seq ?_;refine Cov.region rfl ?_;refine Cov.q .ro (.assign rfl) rfl ?_;refine Cov.q .ro (.assign rfl) rfl ?_;refine Cov.region_end ?_
  cases r7
  refine Cov.drop 1 0 [] _ rfl rfl ?_
  refine Cov.retS (c := ⟨110, none⟩) (.inr ⟨_, rfl⟩) [.tmp 4, .tmp 5] [_, _] rfl Tryz.func110 Tryz.results110 ⟨RV.tmp rfl, RV.tmp rfl, trivial⟩ (fun _ h => List.mem_cons_of_mem _ h) ⟨rfl, rfl, rfl⟩
 ·have r8 := ifBF r3 c6; clear r3
  refine Cov.skip ?_;refine Cov.seq ?_;refine Cov.seq ?_;refine Cov.region rfl ?_;refine Cov.q .ro (.move rfl) rfl ?_;refine Cov.q .ro (.lss rfl rfl) rfl ?_;refine Cov.q .ro (.move rfl) rfl ?_;refine Cov.cutR 3 (β := Unit) (fun y => [(14, .bool (decide ((x1 < 1) ∨ (1024 < x1))))]) [(1, _), (2, _)] (fun y => G :: Fs) (fun y => []) [_] (fun y => []) [] (fun y => True) ⟨rfl, rfl, trivial⟩ [0] rfl [] rfl ?_ ?_
  ·rintro _ _
   refine Cov.prune [(14, .bool (decide ((x1 < 1) ∨ (1024 < x1)))), (1, _), (2, _)] ⟨rfl, rfl, rfl, trivial⟩ ?_;refine Cov.same (bl' := [_]) (sl' := []) (Fs' := G :: Fs) rfl rfl rfl ?_;refine Cov.region_end ?_
   refine Cov.cond_dec rfl (fun c13 => ?_) (fun c13 => ?_)
   ·have r14 := ifT r8 c13; clear r8
    refine Cov.seq ?_;refine Cov.region rfl ?_;refine Cov.q .ro (.assign rfl) rfl ?_;refine Cov.q .ro (.assign rfl) rfl ?_;refine Cov.region_end ?_
    cases r14
    refine Cov.drop 1 0 [] _ rfl rfl ?_
    refine Cov.retS (c := ⟨110, none⟩) (.inr ⟨_, rfl⟩) [.tmp 4, .tmp 5] [_, _] rfl Tryz.func110 Tryz.results110 ⟨RV.tmp rfl, RV.tmp rfl, trivial⟩ (fun _ h => List.mem_cons_of_mem _ h) ⟨rfl, rfl, rfl⟩
   ·have r15 := ifF r8 c13; clear r8
    refine Cov.skip ?_;refine Cov.seq ?_;refine Cov.region rfl ?_;refine Cov.q .ro (.load_own_a 0 [_, _, _, _] rfl rfl ty27 rfl) rfl ?_;refine Cov.q .ro (.move rfl) rfl ?_
    obtain ⟨u16, hu16, r17⟩ := bind_some r15; clear r15
    refine Cov.callS (b1 := []) (b2 := [_]) (s1 := []) [_, _] [] .ro rfl rfl Tryz.call154 rfl rfl (ref23_Units_c (G := G) List.mem_cons_self  hu16) rfl (fun v19 bo so h18 => ?_)
    obtain ⟨rfl, rfl, rfl⟩ := h18
    refine Cov.same (bl' := [_]) (sl' := []) rfl rfl rfl ?_;refine Cov.q .ro (.assign rfl) rfl ?_;refine Cov.q .ro (.assign rfl) rfl ?_;refine Cov.region_end ?_
    cases r17
    refine Cov.drop 1 0 [] _ rfl rfl ?_
    refine Cov.retS (c := ⟨110, none⟩) (.inr ⟨_, rfl⟩) [.tmp 4, .tmp 5] [_, _] rfl Tryz.func110 Tryz.results110 ⟨RV.tmp rfl, RV.tmp rfl, trivial⟩ (fun _ h => List.mem_cons_of_mem _ h) ⟨rfl, rfl, rfl⟩
  ·intro hb10
   refine Cov.split 11 rfl (fun c9 => ?_) (fun c9 => ?_)
   ·refine Cov.g_off rfl rfl rfl ?_
    refine Cov.g_off rfl rfl rfl ?_;refine Cov.q .ro (.pick_t rfl rfl) rfl ?_
    refine Cov.prune _ ?_ (Cov.same rfl rfl rfl (hb10 () trivial))
    exact ⟨dor_t c9, rfl, rfl, trivial⟩
   ·refine Cov.g_on rfl ?_
    refine Cov.q .ro (.move rfl) rfl ?_;refine Cov.g_on rfl ?_;refine Cov.q .ro (.gtr rfl rfl) rfl ?_;refine Cov.q .ro (.pick_f rfl rfl) rfl ?_
    refine Cov.prune _ ?_ (Cov.same rfl rfl rfl (hb10 () trivial))
    exact ⟨dor_f c9, rfl, rfl, trivial⟩
set_option maxHeartbeats 4000000 in
set_option maxRecDepth 100000 in
theorem ref28_Of_c {Fs : List Hp} {G : Hp} {x0_0 : Int} {x0_1 : Int} {x0_2 : Int} {x0_3 : Int} {x1 : Int} {x2 : Int} {x3 : Int} {r : ((Int × Int × Int) × Int)} (hG : G ∈ Fs)  (h : ref28_Of (x0_0, x0_1, x0_2, x0_3) x1 x2 x3 = some r) : RetS Tryz.prog 56 #[.agg #[.int .i64 x0_0, .int .i64 x0_1, .int .i64 x0_2, .int .i64 x0_3], .int .i64 x1, .int .i64 x2, .int .i64 x3] Fs [] [] (fun v bo so => v = .tuple #[.agg #[.int .i64 r.1.1, .int .i64 r.1.2.1, .int .i64 r.1.2.2], .int .i64 r.2] ∧ bo = [] ∧ so = []) := by
 unfold ref28_Of at h
 try dsimp only at h
 refine RetS.of (vs := [_, _, _, _]) Tryz.func56 rfl Tryz.ntmps56 [(0, _), (1, _), (2, _), (3, _)] ⟨rfl, rfl, rfl, rfl, trivial⟩ rfl hG fun w0 S0 hS0 B0 => ?_
 refine Cov.seq ?_;refine Cov.region rfl ?_
 refine Cov.box [_, _, _, _] .ro rfl rfl rfl (fun b1 hb1 => ?_)
 refine Cov.alloc .ro ty88 rfl (fun b2 hb2 => ?_)
 refine Cov.q .ro (.assign rfl) rfl ?_;refine Cov.region_end ?_;refine Cov.seq ?_;refine Cov.region rfl ?_;refine Cov.q .ro (.load_own_a 1 [_, _, _, _] rfl rfl ty27 rfl) rfl ?_;refine Cov.q .ro (.move rfl) rfl ?_
 obtain ⟨u3, hu3, r4⟩ := bind_some h; clear h
 refine Cov.callS (b1 := []) (b2 := [_, _]) (s1 := []) [_, _] [] .ro rfl rfl Tryz.call110 rfl rfl (ref28_Units_c (G := G) List.mem_cons_self  hu3) rfl (fun v6 bo so h5 => ?_)
 obtain ⟨rfl, rfl, rfl⟩ := h5
 refine Cov.same (bl' := [_, _]) (sl' := []) rfl rfl rfl ?_;refine Cov.q .ro (.move rfl) rfl ?_;refine Cov.q .ro (.extract rfl rfl) rfl ?_;refine Cov.q .ro (.extract rfl rfl) rfl ?_;refine Cov.q .ro (.assign rfl) rfl ?_;refine Cov.q .ro (.assign rfl) rfl ?_;refine Cov.region_end ?_;refine Cov.seq ?_;refine Cov.seq ?_
 refine Cov.region rfl ?_;refine Cov.q .ro (.move rfl) rfl ?_;refine Cov.q .ro (.neq rfl rfl) rfl ?_;refine Cov.region_end ?_
 refine Cov.cond_dec rfl (fun c7 => ?_) (fun c7 => ?_)
 ·have r8 := ifT r4 c7; clear r4
  refine Cov.seq ?_;refine Cov.region rfl ?_;refine Cov.q .ro (.build [_, _, _] [] ty88 pl88 rfl rfl) rfl ?_;refine Cov.q .ro (.move rfl) rfl ?_;refine Cov.store 0 [_, _, _] [_, _] .ro rfl rfl rfl ty88 rfl rfl rfl rfl ?_;refine Cov.q .ro (.assign rfl) rfl ?_;refine Cov.region_end ?_;refine Cov.prune [(8, _), (9, _)] ⟨rfl, rfl, trivial⟩ ?_
  cases r8
  refine Cov.retSD 2 (c := ⟨56, none⟩) (.inr ⟨_, rfl⟩) [.cell 8 88, .tmp 9] [_, _] rfl Tryz.func56 Tryz.results56 ⟨RV.cell_a 0 [_, _, _] rfl rfl ty88 rfl, RV.tmp rfl, trivial⟩ (fun _ h => List.mem_cons_of_mem _ h) ⟨rfl, rfl, rfl⟩
 ·have r9 := ifF r4 c7; clear r4
  refine Cov.skip ?_;refine Cov.seq ?_;refine Cov.seq ?_;refine Cov.region rfl ?_;refine Cov.q .ro (.move rfl) rfl ?_;refine Cov.q .ro (.lss rfl rfl) rfl ?_;refine Cov.q .ro (.move rfl) rfl ?_;refine Cov.cutR 3 (β := Unit) (fun y => [(28, .bool (decide ((x2 < 1) ∨ (64 < x2))))]) [(2, _), (3, _), (4, _), (8, _), (10, _)] (fun y => G :: Fs) (fun y => []) [_, _] (fun y => []) [] (fun y => True) ⟨rfl, rfl, rfl, rfl, rfl, trivial⟩ [0, 1] rfl [] rfl ?_ ?_
  ·rintro _ _
   refine Cov.prune [(28, .bool (decide ((x2 < 1) ∨ (64 < x2)))), (2, _), (3, _), (4, _), (8, _), (10, _)] ⟨rfl, rfl, rfl, rfl, rfl, rfl, trivial⟩ ?_;refine Cov.same (bl' := [_, _]) (sl' := []) (Fs' := G :: Fs) rfl rfl rfl ?_;refine Cov.q .ro (.move rfl) rfl ?_;refine Cov.cutR 3 (β := Unit) (fun y => [(32, .bool (decide (((x2 < 1) ∨ (64 < x2)) ∨ (x3 < 1))))]) [(2, _), (3, _), (4, _), (8, _), (10, _)] (fun y => G :: Fs) (fun y => []) [_, _] (fun y => []) [] (fun y => True) ⟨rfl, rfl, rfl, rfl, rfl, trivial⟩ [0, 1] rfl [] rfl ?_ ?_
   ·rintro _ _
    refine Cov.prune [(32, .bool (decide (((x2 < 1) ∨ (64 < x2)) ∨ (x3 < 1)))), (2, _), (3, _), (4, _), (8, _), (10, _)] ⟨rfl, rfl, rfl, rfl, rfl, rfl, trivial⟩ ?_;refine Cov.same (bl' := [_, _]) (sl' := []) (Fs' := G :: Fs) rfl rfl rfl ?_;refine Cov.q .ro (.move rfl) rfl ?_;refine Cov.cutR 3 (β := Unit) (fun y => [(36, .bool (decide ((((x2 < 1) ∨ (64 < x2)) ∨ (x3 < 1)) ∨ (16 < x3))))]) [(2, _), (3, _), (4, _), (8, _), (10, _)] (fun y => G :: Fs) (fun y => []) [_, _] (fun y => []) [] (fun y => True) ⟨rfl, rfl, rfl, rfl, rfl, trivial⟩ [0, 1] rfl [] rfl ?_ ?_
    ·rintro _ _
     refine Cov.prune [(36, .bool (decide ((((x2 < 1) ∨ (64 < x2)) ∨ (x3 < 1)) ∨ (16 < x3)))), (2, _), (3, _), (4, _), (8, _), (10, _)] ⟨rfl, rfl, rfl, rfl, rfl, rfl, trivial⟩ ?_;refine Cov.same (bl' := [_, _]) (sl' := []) (Fs' := G :: Fs) rfl rfl rfl ?_;refine Cov.region_end ?_
     refine Cov.cond_dec rfl (fun c22 => ?_) (fun c22 => ?_)
     ·have r23 := ifT r9 c22; clear r9
      refine Cov.seq ?_;refine Cov.region rfl ?_;refine Cov.q .ro (.build [_, _, _] [] ty88 pl88 rfl rfl) rfl ?_;refine Cov.store 0 [_, _, _] [_, _] .ro rfl rfl rfl ty88 rfl rfl rfl rfl ?_;refine Cov.q .ro (.assign rfl) rfl ?_;refine Cov.region_end ?_
      cases r23
      refine Cov.retSD 2 (c := ⟨56, none⟩) (.inr ⟨_, rfl⟩) [.cell 8 88, .tmp 9] [_, _] rfl Tryz.func56 Tryz.results56 ⟨RV.cell_a 0 [_, _, _] rfl rfl ty88 rfl, RV.tmp rfl, trivial⟩ (fun _ h => List.mem_cons_of_mem _ h) ⟨rfl, rfl, rfl⟩
     ·have r24 := ifF r9 c22; clear r9
      refine Cov.skip ?_;refine Cov.seq ?_;refine Cov.region rfl ?_;refine Cov.q .ro (.move rfl) rfl ?_;refine Cov.q .ro (.fieldAddr 1 rfl fl27_1 ty3.sz rfl) rfl ?_;refine Cov.q .ro (.load_own 1 rfl rfl ty3 rfl) rfl ?_;refine Cov.q .ro (.mulw rfl rfl) rfl ?_;refine Cov.q .ro (.assign rfl) rfl ?_;refine Cov.region_end ?_
      refine Cov.seq ?_;refine Cov.region rfl ?_;refine Cov.q .ro (.move rfl) rfl ?_;refine Cov.q .ro (.move rfl) rfl ?_;refine Cov.q .ro (.mulw rfl rfl) rfl ?_;refine Cov.q .ro (.move rfl) rfl ?_;refine Cov.q .ro (.move rfl) rfl ?_;refine Cov.q .ro (.mulw rfl rfl) rfl ?_;refine Cov.q .ro (.move rfl) rfl ?_
      refine Cov.q .ro (.move rfl) rfl ?_;refine Cov.q .ro (.mulw rfl rfl) rfl ?_;refine Cov.q .ro (.move rfl) rfl ?_;refine Cov.q .ro (.mulw rfl rfl) rfl ?_;refine Cov.q .ro (.build [_, _, _] [(0, _), (1, _), (2, _)] ty88 pl88 rfl rfl) rfl ?_;refine Cov.store 0 [_, _, _] [_, _] .ro rfl rfl rfl ty88 rfl rfl rfl rfl ?_;refine Cov.q .ro (.assign rfl) rfl ?_;refine Cov.region_end ?_;refine Cov.prune [(8, _), (9, _)] ⟨rfl, rfl, trivial⟩ ?_
      cases r24
      refine Cov.retSD 2 (c := ⟨56, none⟩) (.inr ⟨_, rfl⟩) [.cell 8 88, .tmp 9] [_, _] rfl Tryz.func56 Tryz.results56 ⟨RV.cell_a 0 [_, _, _] rfl rfl ty88 rfl, RV.tmp rfl, trivial⟩ (fun _ h => List.mem_cons_of_mem _ h) ⟨rfl, rfl, rfl⟩
    ·intro hb19
     refine Cov.split 33 rfl (fun c18 => ?_) (fun c18 => ?_)
     ·refine Cov.g_off rfl rfl rfl ?_
      refine Cov.g_off rfl rfl rfl ?_;refine Cov.q .ro (.pick_t rfl rfl) rfl ?_
      refine Cov.prune _ ?_ (Cov.same rfl rfl rfl (hb19 () trivial))
      exact ⟨dor_t c18, rfl, rfl, rfl, rfl, rfl, trivial⟩
     ·refine Cov.g_on rfl ?_
      refine Cov.q .ro (.move rfl) rfl ?_;refine Cov.g_on rfl ?_;refine Cov.q .ro (.gtr rfl rfl) rfl ?_;refine Cov.q .ro (.pick_f rfl rfl) rfl ?_
      refine Cov.prune _ ?_ (Cov.same rfl rfl rfl (hb19 () trivial))
      exact ⟨dor_f c18, rfl, rfl, rfl, rfl, rfl, trivial⟩
   ·intro hb15
    refine Cov.split 29 rfl (fun c14 => ?_) (fun c14 => ?_)
    ·refine Cov.g_off rfl rfl rfl ?_
     refine Cov.g_off rfl rfl rfl ?_;refine Cov.q .ro (.pick_t rfl rfl) rfl ?_
     refine Cov.prune _ ?_ (Cov.same rfl rfl rfl (hb15 () trivial))
     exact ⟨dor_t c14, rfl, rfl, rfl, rfl, rfl, trivial⟩
    ·refine Cov.g_on rfl ?_
     refine Cov.q .ro (.move rfl) rfl ?_;refine Cov.g_on rfl ?_;refine Cov.q .ro (.lss rfl rfl) rfl ?_;refine Cov.q .ro (.pick_f rfl rfl) rfl ?_
     refine Cov.prune _ ?_ (Cov.same rfl rfl rfl (hb15 () trivial))
     exact ⟨dor_f c14, rfl, rfl, rfl, rfl, rfl, trivial⟩
  ·intro hb11
   refine Cov.split 25 rfl (fun c10 => ?_) (fun c10 => ?_)
   ·refine Cov.g_off rfl rfl rfl ?_
    refine Cov.g_off rfl rfl rfl ?_;refine Cov.q .ro (.pick_t rfl rfl) rfl ?_
    refine Cov.prune _ ?_ (Cov.same rfl rfl rfl (hb11 () trivial))
    exact ⟨dor_t c10, rfl, rfl, rfl, rfl, rfl, trivial⟩
   ·refine Cov.g_on rfl ?_
    refine Cov.q .ro (.move rfl) rfl ?_;refine Cov.g_on rfl ?_;refine Cov.q .ro (.gtr rfl rfl) rfl ?_;refine Cov.q .ro (.pick_f rfl rfl) rfl ?_
    refine Cov.prune _ ?_ (Cov.same rfl rfl rfl (hb11 () trivial))
    exact ⟨dor_f c10, rfl, rfl, rfl, rfl, rfl, trivial⟩
set_option maxHeartbeats 4000000 in
set_option maxRecDepth 100000 in
theorem ref28_Add_c {Fs : List Hp} {G : Hp} {x0_0 : Int} {x0_1 : Int} {x0_2 : Int} {x1_0 : Int} {x1_1 : Int} {x1_2 : Int} {r : (Int × Int × Int)} (hG : G ∈ Fs)  (h : ref28_Add (x0_0, x0_1, x0_2) (x1_0, x1_1, x1_2) = some r) : RetS Tryz.prog 57 #[.agg #[.int .i64 x0_0, .int .i64 x0_1, .int .i64 x0_2], .agg #[.int .i64 x1_0, .int .i64 x1_1, .int .i64 x1_2]] Fs [] [] (fun v bo so => v = .agg #[.int .i64 r.1, .int .i64 r.2.1, .int .i64 r.2.2] ∧ bo = [] ∧ so = []) := by
 unfold ref28_Add at h
 try dsimp only at h
 refine RetS.of (vs := [_, _]) Tryz.func57 rfl Tryz.ntmps57 [(0, _), (1, _)] ⟨rfl, rfl, trivial⟩ rfl hG fun w0 S0 hS0 B0 => ?_
 refine Cov.seq ?_;refine Cov.region rfl ?_
 refine Cov.box [_, _, _] .ro rfl rfl rfl (fun b1 hb1 => ?_)
 refine Cov.box [_, _, _] .ro rfl rfl rfl (fun b2 hb2 => ?_)
 refine Cov.alloc .ro ty88 rfl (fun b3 hb3 => ?_)
 refine Cov.region_end ?_;refine Cov.seq ?_;refine Cov.region rfl ?_;refine Cov.q .ro (.fieldAddr 0 rfl fl88_0 ty3.sz rfl) rfl ?_;refine Cov.q .ro (.load_own 2 rfl rfl ty3 rfl) rfl ?_;refine Cov.q .ro (.fieldAddr 0 rfl fl88_0 ty3.sz rfl) rfl ?_;refine Cov.q .ro (.load_own 1 rfl rfl ty3 rfl) rfl ?_;refine Cov.q .ro (.addw rfl rfl) rfl ?_;refine Cov.q .ro (.fieldAddr 1 rfl fl88_1 ty3.sz rfl) rfl ?_
 refine Cov.q .ro (.load_own 2 rfl rfl ty3 rfl) rfl ?_;refine Cov.q .ro (.fieldAddr 1 rfl fl88_1 ty3.sz rfl) rfl ?_;refine Cov.q .ro (.load_own 1 rfl rfl ty3 rfl) rfl ?_;refine Cov.q .ro (.addw rfl rfl) rfl ?_;refine Cov.q .ro (.fieldAddr 2 rfl fl88_2 ty3.sz rfl) rfl ?_;refine Cov.q .ro (.load_own 2 rfl rfl ty3 rfl) rfl ?_;refine Cov.q .ro (.fieldAddr 2 rfl fl88_2 ty3.sz rfl) rfl ?_;refine Cov.q .ro (.load_own 1 rfl rfl ty3 rfl) rfl ?_;refine Cov.q .ro (.addw rfl rfl) rfl ?_
 refine Cov.q .ro (.build [_, _, _] [(0, _), (1, _), (2, _)] ty88 pl88 rfl rfl) rfl ?_;refine Cov.store 0 [_, _, _] [_, _, _] .ro rfl rfl rfl ty88 rfl rfl rfl rfl ?_;refine Cov.region_end ?_;refine Cov.prune [(4, _)] ⟨rfl, trivial⟩ ?_
 cases h
 refine Cov.retSD 3 (c := ⟨57, none⟩) (.inr ⟨_, rfl⟩) [.cell 4 88] [_] rfl Tryz.func57 Tryz.results57 ⟨RV.cell_a 0 [_, _, _] rfl rfl ty88 rfl, trivial⟩ (fun _ h => List.mem_cons_of_mem _ h) ⟨rfl, rfl, rfl⟩
set_option maxHeartbeats 4000000 in
set_option maxRecDepth 100000 in
theorem ref43_Batched_c {Fs : List Hp} {G : Hp} {x0_0 : Int} {a0_1 : Option Addr} {k0_1 : Nat} {x0_1 : List (Int × Int)} {x1_0 : Int} {x1_1 : Int} {x1_2 : Int} {x1_3 : Int} {x2 : Int} {x3 : Int} {r : ((Int × Int × Int) × Int)} (hG : G ∈ Fs) (s0_1 : SlR (Rep.pair (Rep.int .i64) (Rep.int .i64)) G a0_1 k0_1 x0_1) (h : ref43_Batched (x0_0, x0_1) (x1_0, x1_1, x1_2, x1_3) x2 x3 = some r) : RetS Tryz.prog 27 #[.agg #[.int .i64 x0_0, .slice a0_1 x0_1.length k0_1], .agg #[.int .i64 x1_0, .int .i64 x1_1, .int .i64 x1_2, .int .i64 x1_3], .int .i64 x2, .int .i64 x3] Fs [] [] (fun v bo so => v = .tuple #[.agg #[.int .i64 r.1.1, .int .i64 r.1.2.1, .int .i64 r.1.2.2], .int .i64 r.2] ∧ bo = [] ∧ so = []) := by
 unfold ref43_Batched at h
 try dsimp only at h
 refine RetS.of (vs := [_, _, _, _]) Tryz.func27 rfl Tryz.ntmps27 [(0, _), (1, _), (2, _), (3, _)] ⟨rfl, rfl, rfl, rfl, trivial⟩ rfl hG fun w0 S0 hS0 B0 => ?_
 refine Cov.seq ?_;refine Cov.region rfl ?_
 refine Cov.box [_, _] .ro rfl rfl rfl (fun b1 hb1 => ?_)
 refine Cov.box [_, _, _, _] .ro rfl rfl rfl (fun b2 hb2 => ?_)
 refine Cov.alloc .ro ty88 rfl (fun b3 hb3 => ?_)
 refine Cov.q .ro (.assign rfl) rfl ?_;refine Cov.region_end ?_;refine Cov.seq ?_;refine Cov.region rfl ?_;refine Cov.q .ro (.load_own_a 2 [_, _] rfl rfl ty73 rfl) rfl ?_;refine Cov.q .ro (.move rfl) rfl ?_
 obtain ⟨u4, hu4, r5⟩ := bind_some h; clear h
 refine Cov.callW (b1 := []) (b2 := [_, _, _]) (s1 := []) [_, _] [] .ro rfl rfl Tryz.call55 rfl rfl (ref19_Layout_c (G := G) List.mem_cons_self s0_1 hu4) rfl B0 (fun v7 bo so G8 e9 B10 h6 => ?_)
 obtain ⟨a12, k13, rfl, rfl, rfl, s14⟩ := h6
 refine Cov.same (bl' := [_, _, _]) (sl' := []) rfl rfl rfl ?_;refine Cov.q .ro (.move rfl) rfl ?_;refine Cov.q .ro (.extract rfl rfl) rfl ?_;refine Cov.q .ro (.extract rfl rfl) rfl ?_;refine Cov.q .ro (.assign rfl) rfl ?_;refine Cov.q .ro (.assign rfl) rfl ?_;refine Cov.region_end ?_;refine Cov.seq ?_;refine Cov.seq ?_
 refine Cov.region rfl ?_;refine Cov.q .ro (.move rfl) rfl ?_;refine Cov.q .ro (.neq rfl rfl) rfl ?_;refine Cov.region_end ?_
 refine Cov.cond_dec rfl (fun c15 => ?_) (fun c15 => ?_)
 ·have r16 := ifT r5 c15; clear r5
  refine Cov.seq ?_;refine Cov.region rfl ?_;refine Cov.q .ro (.build [_, _, _] [] ty88 pl88 rfl rfl) rfl ?_;refine Cov.q .ro (.move rfl) rfl ?_;refine Cov.store 0 [_, _, _] [_, _, _] .ro rfl rfl rfl ty88 rfl rfl rfl rfl ?_;refine Cov.q .ro (.assign rfl) rfl ?_;refine Cov.region_end ?_;refine Cov.prune [(8, _), (9, _)] ⟨rfl, rfl, trivial⟩ ?_
  cases r16
  refine Cov.retSD 3 (c := ⟨27, none⟩) (.inr ⟨_, rfl⟩) [.cell 8 88, .tmp 9] [_, _] rfl Tryz.func27 Tryz.results27 ⟨RV.cell_a 0 [_, _, _] rfl rfl ty88 rfl, RV.tmp rfl, trivial⟩ (fun _ h => List.mem_cons_of_mem _ h) ⟨rfl, rfl, rfl⟩
 ·have r17 := ifF r5 c15; clear r5
  refine Cov.skip ?_;refine Cov.seq ?_;refine Cov.region rfl ?_
  refine Cov.alloc .ro ty88 rfl (fun b18 hb18 => ?_)
  refine Cov.region_end ?_;refine Cov.prune [(3, _), (5, _), (8, _), (10, _), (12, _)] ⟨rfl, rfl, rfl, rfl, rfl, trivial⟩ ?_;refine Cov.seq ?_;refine Cov.seq ?_;refine Cov.region rfl ?_;refine Cov.q .ro (.assign rfl) rfl ?_;refine Cov.region_end ?_;refine Cov.cutB (β := Int × Int × Int × Int × Int × Int × Int × Int × Int × Int × Int) (fun y => []) [(8, _), (12, _)] (fun y => G8 :: Fs) (fun y => [(b18, .cells #[.int .i64 y.1, .int .i64 y.2.1, .int .i64 y.2.2.1] 88 (0, 0)), (b3, .cells #[.int .i64 y.2.2.2.1, .int .i64 y.2.2.2.2.1, .int .i64 y.2.2.2.2.2.1] 88 (0, 0)), (b2, .cells #[.int .i64 y.2.2.2.2.2.2.1, .int .i64 y.2.2.2.2.2.2.2.1, .int .i64 y.2.2.2.2.2.2.2.2.1, .int .i64 y.2.2.2.2.2.2.2.2.2.1] 27 (0, 0)), (b1, .cells #[.int .i64 y.2.2.2.2.2.2.2.2.2.2, .slice a0_1 x0_1.length k0_1] 73 (0, 0))]) [] (fun y => []) [] (fun y => ref43_Batched_J1 y.1 y.2.1 y.2.2.1 y.2.2.2.1 y.2.2.2.2.1 y.2.2.2.2.2.1 y.2.2.2.2.2.2.1 y.2.2.2.2.2.2.2.1 y.2.2.2.2.2.2.2.2.1 y.2.2.2.2.2.2.2.2.2.1 y.2.2.2.2.2.2.2.2.2.2 = some r) ⟨rfl, rfl, trivial⟩ [] rfl [] rfl ?_ ?_
  ·intro y hI
   obtain ⟨v16229, v16230, v16231, v16232, v16233, v16234, v16235, v16236, v16237, v16238, v16239⟩ := y
   have r16241 := hI; clear hI
   try dsimp only at r16241
   refine Cov.prune [(8, _), (12, _)] ⟨rfl, rfl, trivial⟩ ?_;refine Cov.same (bl' := [(b18, .cells #[.int .i64 v16229, .int .i64 v16230, .int .i64 v16231] 88 (0, 0)), (b3, .cells #[.int .i64 v16232, .int .i64 v16233, .int .i64 v16234] 88 (0, 0)), (b2, .cells #[.int .i64 v16235, .int .i64 v16236, .int .i64 v16237, .int .i64 v16238] 27 (0, 0)), (b1, .cells #[.int .i64 v16239, .slice a0_1 x0_1.length k0_1] 73 (0, 0))]) (sl' := []) (Fs' := G8 :: Fs) rfl rfl rfl ?_
   unfold ref43_Batched_J1 at r16241
   try dsimp only at r16241
   refine Cov.seq ?_;refine Cov.region rfl ?_;refine Cov.q .ro (.load_own_a 0 [_, _, _] rfl rfl ty88 rfl) rfl ?_;refine Cov.store 1 [_, _, _] [_, _, _, _] .ro rfl rfl rfl ty88 rfl rfl rfl rfl ?_;refine Cov.q .ro (.assign rfl) rfl ?_;refine Cov.region_end ?_
   cases r16241
   refine Cov.retSD 4 (c := ⟨27, none⟩) (.inr ⟨_, rfl⟩) [.cell 8 88, .tmp 9] [_, _] rfl Tryz.func27 Tryz.results27 ⟨RV.cell_a 1 [_, _, _] rfl rfl ty88 rfl, RV.tmp rfl, trivial⟩ (fun _ h => List.mem_cons_of_mem _ h) ⟨rfl, rfl, rfl⟩
  ·intro hb16243
   refine Cov.block ?_
   refine Cov.loop2 (α := Nat × Int × Int × Int × Int) (fun y => [(13, .int .i64 y.2.1)]) [(3, _), (5, _), (8, _), (10, _), (12, _)] (fun y => []) (fun y => [(b18, .cells #[.int .i64 y.2.2.1, .int .i64 y.2.2.2.1, .int .i64 y.2.2.2.2] 88 (0, 0))]) [_, _, _] (fun y => []) [] (fun y => ref43_Batched_L3 ref43_Batched_J1 x3 u4.1 x1_0 x1_1 x1_2 x1_3 x0_0 y.1 y.2.1 y.2.2.1 y.2.2.2.1 y.2.2.2.2 = some r) (fun y => y.1) (big, 0, 0, 0, 0) r17 ⟨rfl, rfl, rfl, rfl, rfl, rfl, trivial⟩ rfl rfl rfl (fun y hI hb24355 => ?_)
   obtain ⟨n24348, v24350, v24351, v24352, v24353⟩ := y
   have r24354 := hI; clear hI
   try dsimp only at r24354
   refine Cov.prune [(13, .int .i64 v24350), (3, _), (5, _), (8, _), (10, _), (12, _)] ⟨rfl, rfl, rfl, rfl, rfl, rfl, trivial⟩ ?_;refine Cov.same (bl' := [(b18, .cells #[.int .i64 v24351, .int .i64 v24352, .int .i64 v24353] 88 (0, 0)), _, _, _]) (sl' := []) (Fs' := G8 :: Fs) rfl rfl rfl ?_
   obtain ⟨m24365, rfl⟩ : ∃ m, n24348 = m + 1 := by cases n24348 with | zero => exact absurd (show (none : Option _) = some _ from r24354) (by simp) | succ m => exact ⟨m, rfl⟩
   have r24364 : ref43_Batched_B3 ref43_Batched_J1 x3 u4.1 x1_0 x1_1 x1_2 x1_3 x0_0 (ref43_Batched_L3 ref43_Batched_J1 x3 u4.1 x1_0 x1_1 x1_2 x1_3 x0_0 m24365) v24350 v24351 v24352 v24353 = some r := r24354; clear r24354; unfold ref43_Batched_B3 at r24364; try dsimp only at r24364
   refine Cov.seq ?_;refine Cov.seq ?_;refine Cov.region rfl ?_;refine Cov.q .ro (.move rfl) rfl ?_;refine Cov.q .ro (.move rfl) rfl ?_;refine Cov.q .ro (.len_sl rfl rfl sl50) rfl ?_;refine Cov.q .ro (.lss rfl rfl) rfl ?_;refine Cov.region_end ?_
   refine Cov.cond_dec rfl (fun c24366 => ?_) (fun c24366 => ?_)
   ·have r24367 := ifT r24364 c24366; clear r24364
    refine Cov.skip ?_;refine Cov.seq ?_;refine Cov.block ?_;refine Cov.seq ?_;refine Cov.seq ?_;refine Cov.region rfl ?_;refine Cov.q .ro (.move rfl) rfl ?_;refine Cov.q .ro (.move rfl) rfl ?_
    obtain ⟨u24368, hu24368, r24369⟩ := bind_some r24367; clear r24367
    obtain ⟨c24370, p24371, h24372⟩ := SlR.get s14 hu24368
    obtain ⟨a24373, k24374, rfl, s24375⟩ := h24372
    refine Cov.q .ro (.idxR s14 rfl rfl hu24368 sl50 ty41.sz) rfl ?_;refine Cov.q .ro (.load_rp p24371 List.mem_cons_self rfl ty41 rfl) rfl ?_;refine Cov.q .ro (.len_sl rfl rfl sl41) rfl ?_;refine Cov.q .ro (.eql rfl rfl) rfl ?_;refine Cov.region_end ?_
    refine Cov.cond_dec rfl (fun c24376 => ?_) (fun c24376 => ?_)
    ·have r24377 := ifT r24369 c24376; clear r24369
     refine Cov.exit rfl ?_;refine Cov.region rfl ?_;refine Cov.q .ro (.move rfl) rfl ?_;refine Cov.q .ro (.addw rfl rfl) rfl ?_;refine Cov.q .ro (.assign rfl) rfl ?_;refine Cov.region_end ?_
     refine Cov.prune _ ?_ (Cov.same rfl rfl rfl (hb24355 (m24365, (w64 (v24350 + 1)), v24351, v24352, v24353) r24377 (Nat.lt_succ_self _)))
     exact ⟨rfl, rfl, rfl, rfl, rfl, rfl, trivial⟩
    ·have r24378 := ifF r24369 c24376; clear r24369
     refine Cov.skip ?_;refine Cov.seq ?_;refine Cov.cutG (β := Nat × Int × Int × Int × Int) (fun y => [(14, .pointer (some ⟨y.1, 0, none⟩)), (15, .int .i64 y.2.2.2.2)]) [(13, _), (3, _), (5, _), (8, _), (10, _), (12, _)] (fun y => G8 :: Fs) (fun y => [(y.1, .cells #[.int .i64 y.2.1, .int .i64 y.2.2.1, .int .i64 y.2.2.2.1] 88 (0, 0))]) [_, _, _, _] (fun y => []) [] (fun y => (ref43_Batched_J2 (ref43_Batched_L3 ref43_Batched_J1 x3 u4.1 x1_0 x1_1 x1_2 x1_3 x0_0 m24365) v24350 v24351 v24352 v24353) y.2.1 y.2.2.1 y.2.2.2.1 y.2.2.2.2 = some r) ⟨rfl, rfl, rfl, rfl, rfl, rfl, trivial⟩ [0, 1, 2, 3] rfl [] rfl ?_ ?_
     ·intro y hI
      obtain ⟨b28403, v28404, v28405, v28406, v28407⟩ := y
      have r28409 := hI; clear hI
      try dsimp only at r28409
      refine Cov.prune [(14, .pointer (some ⟨b28403, 0, none⟩)), (15, .int .i64 v28407), (13, _), (3, _), (5, _), (8, _), (10, _), (12, _)] ⟨rfl, rfl, rfl, rfl, rfl, rfl, rfl, rfl, trivial⟩ ?_;refine Cov.same (bl' := [(b28403, .cells #[.int .i64 v28404, .int .i64 v28405, .int .i64 v28406] 88 (0, 0)), _, _, _, _]) (sl' := []) (Fs' := G8 :: Fs) rfl rfl rfl ?_
      unfold ref43_Batched_J2 at r28409
      try dsimp only at r28409
      refine Cov.seq ?_;refine Cov.seq ?_;refine Cov.region rfl ?_;refine Cov.q .ro (.move rfl) rfl ?_;refine Cov.q .ro (.neq rfl rfl) rfl ?_;refine Cov.region_end ?_
      refine Cov.cond_dec rfl (fun c28422 => ?_) (fun c28422 => ?_)
      ·have r28423 := ifT r28409 c28422; clear r28409
       refine Cov.seq ?_;refine Cov.region rfl ?_;refine Cov.q .ro (.build [_, _, _] [] ty88 pl88 rfl rfl) rfl ?_;refine Cov.q .ro (.move rfl) rfl ?_;refine Cov.store 2 [_, _, _] [_, _, _, _, _] .ro rfl rfl rfl ty88 rfl rfl rfl rfl ?_;refine Cov.q .ro (.assign rfl) rfl ?_;refine Cov.region_end ?_
       cases r28423
       refine Cov.retSD 5 (c := ⟨27, none⟩) (.inr ⟨_, rfl⟩) [.cell 8 88, .tmp 9] [_, _] rfl Tryz.func27 Tryz.results27 ⟨RV.cell_a 2 [_, _, _] rfl rfl ty88 rfl, RV.tmp rfl, trivial⟩ (fun _ h => List.mem_cons_of_mem _ h) ⟨rfl, rfl, rfl⟩
      ·have r28424 := ifF r28409 c28422; clear r28409
       refine Cov.skip ?_;refine Cov.region rfl ?_;refine Cov.q .ro (.load_own_a 1 [_, _, _] rfl rfl ty88 rfl) rfl ?_;refine Cov.q .ro (.load_own_a 0 [_, _, _] rfl rfl ty88 rfl) rfl ?_
       obtain ⟨u28425, hu28425, r28426⟩ := bind_some r28424; clear r28424
       refine Cov.callS (b1 := []) (b2 := [_, _, _, _, _]) (s1 := []) [_, _] [] .ro rfl rfl Tryz.call57 rfl rfl (ref28_Add_c (G := G8) List.mem_cons_self  hu28425) rfl (fun v28428 bo so h28427 => ?_)
       obtain ⟨rfl, rfl, rfl⟩ := h28427
       refine Cov.same (bl' := [_, _, _, _, _]) (sl' := []) rfl rfl rfl ?_;refine Cov.store 1 [_, _, _] [_, _, _, _, _] .ro rfl rfl rfl ty88 rfl rfl rfl rfl ?_;refine Cov.region_end ?_;refine Cov.inBlock ?_;refine Cov.region rfl ?_;refine Cov.q .ro (.move rfl) rfl ?_;refine Cov.q .ro (.addw rfl rfl) rfl ?_;refine Cov.q .ro (.assign rfl) rfl ?_;refine Cov.region_end ?_
       refine Cov.drop 1 0 [_, _, _, _] _ rfl rfl ?_
       refine Cov.prune _ ?_ (Cov.same rfl rfl rfl (hb24355 (m24365, (w64 (v24350 + 1)), u28425.1, u28425.2.1, u28425.2.2) r28426 (Nat.lt_succ_self _)))
       exact ⟨rfl, rfl, rfl, rfl, rfl, rfl, trivial⟩
     ·intro hb28429
      refine Cov.drawL (.q 0 (.q 1 (.q 2 (.q 3 (.q 4 (.q 5 (.q 6 (.alt (.e 7 1 (.q 8 (.q 9 (.q 10 (.e 11 1 (.e 12 1 (.q 13 .nil))))))) (.e 11 1 (.e 7 1 (.q 8 (.q 9 (.q 10 (.e 12 1 (.q 13 .nil))))))))))))))) [_, _, _, _] (by kernel_rfl) (by kernel_rfl) (pick_mem [0, 1, 2, 3] rfl) ?_
      obtain ⟨u28430, hu28430, r28441⟩ := bind_some r24378; clear r24378
      obtain ⟨u28437, hu28437, r28442⟩ := bind_some r28441; clear r28441
      refine Cov.dq (.load_own_a 2 [_, _, _, _] rfl rfl ty27 rfl) rfl ?_;refine Cov.dq (.move rfl) rfl ?_;refine Cov.dq (.move rfl) rfl ?_
      obtain ⟨c28443, p28444, h28445⟩ := SlR.get s14 hu28430
      obtain ⟨a28446, k28447, rfl, s28448⟩ := h28445
      refine Cov.dq (.idxR s14 rfl rfl hu28430 sl50 ty41.sz) rfl ?_;refine Cov.dq (.load_rp p28444 List.mem_cons_self rfl ty41 rfl) rfl ?_;refine Cov.dq (.len_sl rfl rfl sl41) rfl ?_;refine Cov.dq (.move rfl) rfl ?_;refine Cov.alt ?_ ?_
      ·refine Cov.callS (b1 := []) (b2 := [_, _, _, _]) (s1 := []) [_, _, _, _] [] .d1 rfl rfl Tryz.call56 rfl rfl (ref28_Of_c (G := G8) List.mem_cons_self  hu28437) rfl (fun v28450 bo so h28449 => ?_)
       obtain ⟨rfl, rfl, rfl⟩ := h28449
       refine Cov.same (bl' := [_, _, _, _]) (sl' := []) rfl rfl rfl ?_;refine Cov.clsL (HpLe.refl _) (pick_mem [0, 1, 2, 3] rfl) ?_;refine Cov.dq (.move rfl) rfl ?_;refine Cov.dq (.extract rfl rfl) rfl ?_;refine Cov.dq (.extract rfl rfl) rfl ?_
       refine Cov.alloc .d1 ty88 rfl (fun b28451 hb28451 => ?_)
       refine Cov.clsL (HpLe.refl _) (pick_mem [1, 2, 3, 4] rfl) ?_;refine Cov.store 0 [_, _, _] [_, _, _, _, _] .d1 rfl rfl rfl ty88 rfl rfl rfl rfl ?_;refine Cov.clsL (HpLe.refl _) (pick_mem [1, 2, 3, 4] rfl) ?_;refine Cov.dq (.assign rfl) rfl ?_;refine Cov.draw_end ?_;refine Cov.prune [(13, _), (3, _), (5, _), (8, _), (10, _), (12, _), (14, _), (15, _)] ⟨rfl, rfl, rfl, rfl, rfl, rfl, rfl, rfl, trivial⟩ ?_
       refine Cov.prune _ ?_ (Cov.same rfl rfl rfl (hb28429 (b28451, u28437.1.1, u28437.1.2.1, u28437.1.2.2, u28437.2) r28442))
       exact ⟨rfl, rfl, rfl, rfl, rfl, rfl, rfl, rfl, trivial⟩
      ·refine Cov.alloc .d1 ty88 rfl (fun b28452 hb28452 => ?_)
       refine Cov.clsL (HpLe.refl _) (pick_mem [1, 2, 3, 4] rfl) ?_
       refine Cov.callS (b1 := []) (b2 := [_, _, _, _, _]) (s1 := []) [_, _, _, _] [] .d1 rfl rfl Tryz.call56 rfl rfl (ref28_Of_c (G := G8) List.mem_cons_self  hu28437) rfl (fun v28454 bo so h28453 => ?_)
       obtain ⟨rfl, rfl, rfl⟩ := h28453
       refine Cov.same (bl' := [_, _, _, _, _]) (sl' := []) rfl rfl rfl ?_;refine Cov.clsL (HpLe.refl _) (pick_mem [1, 2, 3, 4] rfl) ?_;refine Cov.dq (.move rfl) rfl ?_;refine Cov.dq (.extract rfl rfl) rfl ?_;refine Cov.dq (.extract rfl rfl) rfl ?_;refine Cov.store 0 [_, _, _] [_, _, _, _, _] .d1 rfl rfl rfl ty88 rfl rfl rfl rfl ?_;refine Cov.clsL (HpLe.refl _) (pick_mem [1, 2, 3, 4] rfl) ?_;refine Cov.dq (.assign rfl) rfl ?_;refine Cov.draw_end ?_
       refine Cov.prune [(13, _), (3, _), (5, _), (8, _), (10, _), (12, _), (14, _), (15, _)] ⟨rfl, rfl, rfl, rfl, rfl, rfl, rfl, rfl, trivial⟩ ?_
       refine Cov.prune _ ?_ (Cov.same rfl rfl rfl (hb28429 (b28452, u28437.1.1, u28437.1.2.1, u28437.1.2.2, u28437.2) r28442))
       exact ⟨rfl, rfl, rfl, rfl, rfl, rfl, rfl, rfl, trivial⟩
   ·have r32453 := ifF r24364 c24366; clear r24364
    refine Cov.exit rfl ?_
    refine Cov.prune _ ?_ (Cov.same rfl rfl rfl (hb16243 (v24351, v24352, v24353, 0, 0, 0, x1_0, x1_1, x1_2, x1_3, x0_0) r32453))
    exact ⟨rfl, rfl, trivial⟩
set_option maxHeartbeats 4000000 in
set_option maxRecDepth 100000 in
theorem cuckoo_sets_c {Fs : List Hp} {G : Hp} {x0 : Int} {x1 : Int} {r : Int} (hG : G ∈ Fs)  (h : cuckoo_sets x0 x1 = some r) : RetS Tryz.prog 111 #[.int .i64 x0, .int .i64 x1] Fs [] [] (fun v bo so => v = .int .i64 r ∧ bo = [] ∧ so = []) := by
 unfold cuckoo_sets at h
 try dsimp only at h
 refine RetS.of (vs := [_, _]) Tryz.func111 rfl Tryz.ntmps111 [(0, _), (1, _)] ⟨rfl, rfl, trivial⟩ rfl hG fun w0 S0 hS0 B0 => ?_
 refine Cov.seq ?_;refine Cov.region rfl ?_;refine Cov.q .ro (.assign rfl) rfl ?_;refine Cov.region_end ?_;refine Cov.seq ?_;refine Cov.region rfl ?_;refine Cov.q .ro (.assign rfl) rfl ?_;refine Cov.region_end ?_;refine Cov.seq ?_
 refine Cov.seq ?_;refine Cov.region rfl ?_;refine Cov.q .ro (.assign rfl) rfl ?_;refine Cov.region_end ?_;refine Cov.block ?_
 refine Cov.loop2 (α := Nat × Int × Int) (fun y => [(5, .int .i64 y.2.1), (6, .int .i64 y.2.2)]) [(0, _), (1, _)] (fun y => []) (fun y => []) [] (fun y => []) [] (fun y => cuckoo_sets_L1 x0 x1 y.1 y.2.1 y.2.2 = some r) (fun y => y.1) (big, 1, 1) h ⟨rfl, rfl, rfl, rfl, trivial⟩ rfl rfl rfl (fun y hI hb17 => ?_)
 obtain ⟨n12, v14, v15⟩ := y
 have r16 := hI; clear hI
 try dsimp only at r16
 refine Cov.prune [(5, .int .i64 v14), (6, .int .i64 v15), (0, _), (1, _)] ⟨rfl, rfl, rfl, rfl, trivial⟩ ?_;refine Cov.same (bl' := []) (sl' := []) (Fs' := G :: Fs) rfl rfl rfl ?_
 obtain ⟨m21, rfl⟩ : ∃ m, n12 = m + 1 := by cases n12 with | zero => exact absurd (show (none : Option _) = some _ from r16) (by simp) | succ m => exact ⟨m, rfl⟩
 have r20 : cuckoo_sets_B1 x0 x1 (cuckoo_sets_L1 x0 x1 m21) v14 v15 = some r := r16; clear r16; unfold cuckoo_sets_B1 at r20; try dsimp only at r20
 refine Cov.seq ?_;refine Cov.seq ?_;refine Cov.region rfl ?_;refine Cov.q .ro (.move rfl) rfl ?_;refine Cov.q .ro (.move rfl) rfl ?_;refine Cov.q .ro (.move rfl) rfl ?_;refine Cov.q .ro (.move rfl) rfl ?_;refine Cov.q .ro (.subw rfl rfl) rfl ?_;refine Cov.q .ro (.min2 rfl rfl) rfl ?_
 refine Cov.q .ro (.leq rfl rfl) rfl ?_;refine Cov.region_end ?_
 refine Cov.cond_dec rfl (fun c22 => ?_) (fun c22 => ?_)
 ·have r23 := ifT r20 c22; clear r20
  refine Cov.skip ?_;refine Cov.seq ?_;refine Cov.block ?_;refine Cov.seq ?_;refine Cov.region rfl ?_;refine Cov.q .ro (.move rfl) rfl ?_;refine Cov.q .ro (.move rfl) rfl ?_;refine Cov.q .ro (.move rfl) rfl ?_;refine Cov.q .ro (.subw rfl rfl) rfl ?_
  refine Cov.q .ro (.addw rfl rfl) rfl ?_;refine Cov.q .ro (.mulw rfl rfl) rfl ?_;refine Cov.q .ro (.move rfl) rfl ?_
  obtain ⟨u24, hu24, r25⟩ := bind_some r23; clear r23
  refine Cov.q .ro (.quow rfl rfl (nz_some hu24)) rfl ?_;refine Cov.q .ro (.assign rfl) rfl ?_;refine Cov.region_end ?_;refine Cov.prune [(5, _), (6, _), (0, _), (1, _)] ⟨rfl, rfl, rfl, rfl, trivial⟩ ?_;refine Cov.seq ?_;refine Cov.region rfl ?_;refine Cov.q .ro (.move rfl) rfl ?_;refine Cov.q .ro (.gtr rfl rfl) rfl ?_;refine Cov.region_end ?_
  refine Cov.cond_dec rfl (fun c26 => ?_) (fun c26 => ?_)
  ·have r27 := ifT r25 c26; clear r25
   refine Cov.seq ?_;refine Cov.region rfl ?_;refine Cov.q .ro (.move rfl) rfl ?_;refine Cov.q .ro (.assign rfl) rfl ?_;refine Cov.region_end ?_
   cases r27
   refine Cov.retS (c := ⟨111, none⟩) (.inr ⟨_, rfl⟩) [.tmp 4] [_] rfl Tryz.func111 Tryz.results111 ⟨RV.tmp rfl, trivial⟩ (fun _ h => List.mem_cons_of_mem _ h) ⟨rfl, rfl, rfl⟩
  ·have r28 := ifF r25 c26; clear r25
   refine Cov.skip ?_;refine Cov.inBlock ?_;refine Cov.region rfl ?_;refine Cov.q .ro (.move rfl) rfl ?_;refine Cov.q .ro (.addw rfl rfl) rfl ?_;refine Cov.q .ro (.assign rfl) rfl ?_;refine Cov.region_end ?_
   refine Cov.prune _ ?_ (Cov.same rfl rfl rfl (hb17 (m21, (w64 (Int.tdiv (w64 (v14 * (w64 ((w64 (x0 - v15)) + 1)))) v15)), (w64 (v15 + 1))) r28 (Nat.lt_succ_self _)))
   exact ⟨rfl, rfl, rfl, rfl, trivial⟩
 ·have r29 := ifF r20 c22; clear r20
  refine Cov.exit rfl ?_;refine Cov.seq ?_;refine Cov.region rfl ?_;refine Cov.q .ro (.move rfl) rfl ?_;refine Cov.q .ro (.assign rfl) rfl ?_;refine Cov.region_end ?_
  cases r29
  refine Cov.retS (c := ⟨111, none⟩) (.inr ⟨_, rfl⟩) [.tmp 4] [_] rfl Tryz.func111 Tryz.results111 ⟨RV.tmp rfl, trivial⟩ (fun _ h => List.mem_cons_of_mem _ h) ⟨rfl, rfl, rfl⟩
set_option maxHeartbeats 4000000 in
set_option maxRecDepth 100000 in
theorem cuckoo_start_c {Fs : List Hp} {G : Hp} {x0_0 : Int} {a0_1 : Option Addr} {k0_1 : Nat} {x0_1 : List (Int × Int)} {a1 : Option Addr} {k1 : Nat} {x1 : List Int} {r : ((List (List Int)) × (List Int) × (List Bool))} (hG : G ∈ Fs) (s0_1 : SlR (Rep.pair (Rep.int .i64) (Rep.int .i64)) G a0_1 k0_1 x0_1) (s1 : SlR (Rep.int .i64) G a1 k1 x1) (h : cuckoo_start (x0_0, x0_1) x1 = some r) : RetW Tryz.prog 113 #[.agg #[.int .i64 x0_0, .slice a0_1 x0_1.length k0_1], .slice a1 x1.length k1] Fs [] [] (fun v bo so G => ∃ a0 : Option Addr, ∃ k0 : Nat, ∃ a1 : Option Addr, ∃ k1 : Nat, ∃ (oa0 : Option Addr) (ok0 : Nat) (oc0 : List Value), ∃ b0 : Nat, v = .pointer (some ⟨b0, 0, none⟩) ∧ bo = [(b0, .cells #[.slice a0 r.1.length k0, .slice oa0 r.2.1.length ok0, .slice a1 r.2.2.length k1] 267 (0, 0))] ∧ so = [.s (.slice oa0 r.2.1.length ok0) 3 1 r.2.1.length oc0] ∧ SlR (Rep.sl (Rep.int .i64)) G a0 k0 r.1 ∧ SlR Rep.bool G a1 k1 r.2.2 ∧ OL (Rep.int .i64) G oc0 r.2.1) := by
 unfold cuckoo_start at h
 try dsimp only at h
 refine RetW.of (vs := [_, _]) Tryz.func113 rfl Tryz.ntmps113 [(0, _), (1, _)] ⟨rfl, rfl, trivial⟩ rfl hG fun w0 S0 hS0 B0 => ?_
 refine Cov.seq ?_;refine Cov.region rfl ?_
 refine Cov.box [_, _] .ro rfl rfl rfl (fun b1 hb1 => ?_)
 refine Cov.q .ro (.assign rfl) rfl ?_;refine Cov.region_end ?_;refine Cov.seq ?_;refine Cov.cutG (β := Nat × List Int × Option Addr × Nat × List Value × List Bool × Option Addr × Nat × List Value) (fun y => [(5, .pointer (some ⟨y.1, 0, none⟩))]) [(1, _), (2, _)] (fun y => G :: Fs) (fun y => [(y.1, .cells #[.slice none 0 0, .slice y.2.2.1 y.2.1.length y.2.2.2.1, .slice y.2.2.2.2.2.2.1 y.2.2.2.2.2.1.length y.2.2.2.2.2.2.2.1] 267 (0, 0))]) [_] (fun y => [.s (.slice y.2.2.1 y.2.1.length y.2.2.2.1) 3 1 y.2.1.length y.2.2.2.2.1, .s (.slice y.2.2.2.2.2.2.1 y.2.2.2.2.2.1.length y.2.2.2.2.2.2.2.1) 4 1 y.2.2.2.2.2.1.length y.2.2.2.2.2.2.2.2]) [] (fun y => OL (Rep.int .i64) G y.2.2.2.2.1 y.2.1 ∧ OL Rep.bool G y.2.2.2.2.2.2.2.2 y.2.2.2.2.2.1 ∧ (cuckoo_start_J4 x1 x0_0 x0_1) y.2.1 y.2.2.2.2.2.1 = some r) ⟨rfl, rfl, trivial⟩ [0] rfl [] rfl ?_ ?_
 ·intro y hI
  obtain ⟨b4026, v4027, a4028, k4029, cs4030, v4033, a4034, k4035, cs4036⟩ := y
  obtain ⟨o4031, o4037, r4040⟩ := hI
  try dsimp only at o4031 o4037 r4040
  refine Cov.prune [(5, .pointer (some ⟨b4026, 0, none⟩)), (1, _), (2, _)] ⟨rfl, rfl, rfl, trivial⟩ ?_;refine Cov.same (bl' := [(b4026, .cells #[.slice none 0 0, .slice a4028 v4027.length k4029, .slice a4034 v4033.length k4035] 267 (0, 0)), _]) (sl' := [.s (.slice a4028 v4027.length k4029) 3 1 v4027.length cs4030, .s (.slice a4034 v4033.length k4035) 4 1 v4033.length cs4036]) (Fs' := G :: Fs) rfl rfl rfl ?_
  unfold cuckoo_start_J4 at r4040
  try dsimp only at r4040
  refine Cov.seq ?_;refine Cov.seq ?_;refine Cov.region rfl ?_;refine Cov.q .ro (.move rfl) rfl ?_;refine Cov.q .ro (.nilCheck rfl rfl) rfl ?_;refine Cov.q .ro (.fieldAddr 1 rfl fl267_1 ty41.sz rfl) rfl ?_;refine Cov.q .ro (.load_own 0 rfl rfl ty41 rfl) rfl ?_;refine Cov.q .ro (.len_sl rfl rfl sl41) rfl ?_;refine Cov.q .ro (.move rfl) rfl ?_
  refine Cov.region_end ?_;refine Cov.cutB (β := List Int × Option Addr × Nat × List Value × Int) (fun y => []) [(5, _), (1, _), (2, _)] (fun y => G :: Fs) (fun y => [(b4026, .cells #[.slice none 0 0, .slice y.2.1 y.1.length y.2.2.1, .slice a4034 v4033.length k4035] 267 (0, 0)), (b1, .cells #[.int .i64 y.2.2.2.2, .slice a0_1 x0_1.length k0_1] 73 (0, 0))]) [] (fun y => [.s (.slice y.2.1 y.1.length y.2.2.1) 3 1 y.1.length y.2.2.2.1]) [_] (fun y => OL (Rep.int .i64) G y.2.2.2.1 y.1 ∧ (cuckoo_start_J2 x1 x0_1 v4033) y.1 y.2.2.2.2 = some r) ⟨rfl, rfl, rfl, trivial⟩ [] rfl [1] rfl ?_ ?_
  ·intro y hI
   obtain ⟨v4090, a4091, k4092, cs4093, v4096⟩ := y
   obtain ⟨o4094, r4098⟩ := hI
   try dsimp only at o4094 r4098
   refine Cov.prune [(5, _), (1, _), (2, _)] ⟨rfl, rfl, rfl, trivial⟩ ?_;refine Cov.same (bl' := [(b4026, .cells #[.slice none 0 0, .slice a4091 v4090.length k4092, .slice a4034 v4033.length k4035] 267 (0, 0)), (b1, .cells #[.int .i64 v4096, .slice a0_1 x0_1.length k0_1] 73 (0, 0))]) (sl' := [.s (.slice a4091 v4090.length k4092) 3 1 v4090.length cs4093, _]) (Fs' := G :: Fs) rfl rfl rfl ?_
   unfold cuckoo_start_J2 at r4098
   try dsimp only at r4098
   refine Cov.seq ?_;refine Cov.seq ?_;refine Cov.region rfl ?_;refine Cov.q .ro (.move rfl) rfl ?_;refine Cov.q .ro (.len_sl rfl rfl sl41) rfl ?_;refine Cov.q .ro (.move rfl) rfl ?_;refine Cov.region_end ?_;refine Cov.block ?_;refine Cov.own_nil 41 1 ?_
   refine Cov.loop2 (α := Nat × List Int × Hp × List (List Int) × Option Addr × Nat × List Value) (fun y => [(34, .int .i64 (y.1 : Int))]) [(5, _), (2, _), (32, _), (33, _)] (fun y => [y.2.2.1]) (fun y => [(b4026, .cells #[.slice y.2.2.2.2.1 y.2.2.2.1.length y.2.2.2.2.2.1, .slice a4091 v4090.length k4092, .slice a4034 v4033.length k4035] 267 (0, 0))]) [_] (fun y => [.s (.slice y.2.2.2.2.1 y.2.2.2.1.length y.2.2.2.2.2.1) 41 1 y.2.2.2.1.length y.2.2.2.2.2.2]) [_, _] (fun y => HpLe G y.2.2.1 ∧ Bd w0 S0 Fs y.2.2.1 ∧ OL (Rep.sl (Rep.int .i64)) y.2.2.1 y.2.2.2.2.2.2 y.2.2.2.1 ∧ List.drop y.1 x1 = y.2.1 ∧ cuckoo_start_L1 v4096 x0_1 v4090 v4033 y.2.1 y.2.2.2.1 = some r) (fun y => y.2.1.length) (0, x1, G, ([] : List (List Int)), none, 0, []) ⟨(HpLe.refl _), B0, (OL.nil (Rp' := (Rep.sl (Rep.int .i64)))), rfl, r4098⟩ ⟨rfl, rfl, rfl, rfl, rfl, trivial⟩ rfl rfl rfl (fun y hI hb4202 => ?_)
   obtain ⟨i4188, w4189, G4191, v4195, a4196, k4197, cs4198⟩ := y
   obtain ⟨e4192, B4193, o4199, g4190, r4201⟩ := hI
   try dsimp only at e4192 B4193 o4199 g4190 r4201
   refine Cov.prune [(34, .int .i64 (i4188 : Int)), (5, _), (2, _), (32, _), (33, _)] ⟨rfl, rfl, rfl, rfl, rfl, trivial⟩ ?_;refine Cov.same (bl' := [(b4026, .cells #[.slice a4196 v4195.length k4197, .slice a4091 v4090.length k4092, .slice a4034 v4033.length k4035] 267 (0, 0)), _]) (sl' := [.s (.slice a4196 v4195.length k4197) 41 1 v4195.length cs4198, _, _]) (Fs' := G4191 :: Fs) rfl rfl rfl ?_
   cases w4189 with
   | nil =>
    rw [cuckoo_start_L1] at r4201; try dsimp only at r4201
    refine Cov.seq ?_;refine Cov.region rfl ?_;refine Cov.q .ro (.lss rfl rfl) rfl ?_;refine Cov.region_end ?_;refine Cov.seq ?_
    refine Cov.cond_dec rfl (fun c => absurd c (drop_nil g4190)) (fun _ => ?_)
    refine Cov.exit rfl ?_;refine Cov.seq ?_;refine Cov.region rfl ?_;refine Cov.q .ro (.move rfl) rfl ?_;refine Cov.q .ro (.assign rfl) rfl ?_;refine Cov.region_end ?_
    refine Cov.freezeR 0 rfl rfl o4199 [_, _] rfl B4193 (fun G4212 e4213 B4214 s4215 => ?_)
    refine Cov.freezeR 1 rfl rfl (OL.mono (HpLe.trans e4192 e4213) o4037) [_] rfl B4214 (fun G4217 e4218 B4219 s4220 => ?_)
    cases r4201
    refine Cov.pull 1 rfl [_, _] rfl ?_;refine Cov.drop 1 0 [_] _ rfl rfl ?_
    refine Cov.retW (c := ⟨113, none⟩) (.inr ⟨_, rfl⟩) [.tmp 4] [_] rfl Tryz.func113 Tryz.results113 ⟨RV.tmp rfl, trivial⟩ (fun _ h => List.mem_cons_of_mem _ h) List.mem_cons_self B4219 (by subst hS0; simp [blks]) (fun G' hg => ⟨a4196, k4197, a4034, k4035, a4091, k4092, cs4093, _, rfl, rfl, rfl, (SlR.mono hg (SlR.mono e4218 s4215)), (SlR.mono hg s4220), (OL.mono hg (OL.mono (HpLe.trans (HpLe.trans e4192 e4213) e4218) o4094))⟩)
   | cons x4210 xs4211 =>
    have r4209 : cuckoo_start_B1 v4096 x0_1 v4090 v4033 (cuckoo_start_L1 v4096 x0_1 v4090 v4033 xs4211) x4210 v4195 = some r := r4201; clear r4201; unfold cuckoo_start_B1 at r4209; try dsimp only at r4209
    refine Cov.seq ?_;refine Cov.region rfl ?_;refine Cov.q .ro (.lss rfl rfl) rfl ?_;refine Cov.region_end ?_;refine Cov.seq ?_
    refine Cov.cond_dec rfl (fun _ => ?_) (fun c => absurd (drop_lt g4190) c)
    refine Cov.skip ?_;refine Cov.seq ?_;refine Cov.block ?_;refine Cov.seq ?_;refine Cov.region rfl ?_
    obtain ⟨c4222, p4223, h4224⟩ := SlR.get (SlR.mono e4192 s1) (drop_idx g4190)
    obtain rfl := h4224
    refine Cov.q .ro (.idxR (SlR.mono e4192 s1) rfl rfl (drop_idx g4190) sl41 ty3.sz) rfl ?_;refine Cov.q .ro (.load_rp p4223 List.mem_cons_self rfl ty3 rfl) rfl ?_;refine Cov.q .ro (.assign rfl) rfl ?_;refine Cov.region_end ?_;refine Cov.drawL (.q 0 (.q 1 (.q 2 (.q 3 (.q 4 (.q 5 (.q 6 (.e 7 1 (.e 8 1 (.e 9 1 (.q 10 (.q 11 (.e 12 2 .nil))))))))))))) [_, _] (by kernel_rfl) (by kernel_rfl) (pick_mem [0, 1] rfl) ?_;refine Cov.dq (.move rfl) rfl ?_;refine Cov.dq (.move rfl) rfl ?_;refine Cov.dq (.nilCheck rfl rfl) rfl ?_;refine Cov.dq (.fieldAddr 0 rfl fl267_0 ty50.sz rfl) rfl ?_
    refine Cov.dq (.load_own 0 rfl rfl ty50 rfl) rfl ?_;refine Cov.dq (.load_own_a 1 [_, _] rfl rfl ty73 rfl) rfl ?_;refine Cov.dq (.move rfl) rfl ?_
    obtain ⟨u4225, hu4225, r4226⟩ := bind_some r4209; clear r4209
    refine Cov.callS (b1 := []) (b2 := [_, _]) (s1 := []) [_, _] [] .d1 rfl rfl Tryz.call104 rfl rfl (cuckoo_homes_c (G := G4191) List.mem_cons_self (SlR.mono e4192 s0_1) hu4225) rfl (fun v4228 bo so h4227 => ?_)
    obtain ⟨a4230, k4231, cs4232, rfl, rfl, rfl, o4233⟩ := h4227
    refine Cov.same (bl' := [_, _]) (sl' := [_, _, _, _]) rfl rfl rfl ?_;refine Cov.clsL (HpLe.refl _) (pick_mem [0, 1] rfl) ?_
    refine Cov.freezeR 0 rfl rfl o4233 [_, _, _] rfl B4193 (fun G4234 e4235 B4236 s4237 => ?_)
    refine Cov.lit [_] [(0, _)] .d1 sl50 ty41 rfl rfl rfl rfl rfl rfl (fun b4239 hb4239 => ?_)
    have o4240 : OL (Rep.sl (Rep.int .i64)) G4234 [.slice a4230 u4225.length k4231] ([u4225] : List (List Int)) := ((OL.cons rfl (Rep.slI s4237) (OL.nil (Rp' := (Rep.sl (Rep.int .i64))))) :)
    refine Cov.reval 46 (n' := ([u4225] : List (List Int)).length) rfl rfl ?_;refine Cov.clsL e4235 (pick_mem [0, 1] rfl) ?_
    obtain ⟨u4246, hu4246, r4247⟩ := bind_some r4226; clear r4226
    refine Cov.appO (Q := (Rep.sl (Rep.int .i64))) 0 .d1 sl50 ty41 rfl rfl rfl rfl rfl rfl (OL.mono e4235 o4199) o4240 rfl rfl rfl B4236 hu4246 rfl (fun a4242 k4243 cs4244 o4245 => ?_)
    refine Cov.clsL e4235 (pick_mem [0, 1] rfl) ?_;refine Cov.dq (.nilCheck rfl rfl) rfl ?_;refine Cov.dq (.fieldAddr 0 rfl fl267_0 ty50.sz rfl) rfl ?_;refine Cov.store 0 [_, _, _] [_, _] .d2 rfl rfl rfl ty50 rfl rfl rfl rfl ?_;refine Cov.draw_end ?_;refine Cov.prune [(34, _), (5, _), (2, _), (32, _), (33, _)] ⟨rfl, rfl, rfl, rfl, rfl, trivial⟩ ?_;refine Cov.inBlock ?_;refine Cov.region rfl ?_;refine Cov.q .ro (.addw rfl rfl) rfl ?_
    refine Cov.q .ro (.move rfl) rfl ?_;refine Cov.region_end ?_
    refine Cov.prune _ ?_ (Cov.same rfl rfl rfl (hb4202 ((i4188 + 1), xs4211, G4234, u4246, a4242, k4243, cs4244) ⟨(HpLe.trans e4192 e4235), B4236, o4245, (drop_succ g4190), r4247⟩ (Nat.lt_succ_self _)))
    exact ⟨(congrArg (fun z => some (Value.int .i64 z)) (idx_wrap (SlR.len s1) g4190)), rfl, rfl, rfl, rfl, trivial⟩
  ·intro hb4249
   refine Cov.block ?_
   refine Cov.loop2 (α := Nat × List Int × List Int × Option Addr × Nat × List Value) (fun y => [(22, .int .i64 (y.1 : Int))]) [(5, _), (1, _), (2, _), (21, _)] (fun y => []) (fun y => [(b4026, .cells #[.slice none 0 0, .slice y.2.2.2.1 y.2.2.1.length y.2.2.2.2.1, .slice a4034 v4033.length k4035] 267 (0, 0))]) [_] (fun y => [.s (.slice y.2.2.2.1 y.2.2.1.length y.2.2.2.2.1) 3 1 y.2.2.1.length y.2.2.2.2.2]) [_] (fun y => OL (Rep.int .i64) G y.2.2.2.2.2 y.2.2.1 ∧ List.drop y.1 v4027 = y.2.1 ∧ cuckoo_start_L3 (cuckoo_start_J2 x1 x0_1 v4033) x0_0 y.2.1 y.1 y.2.2.1 = some r) (fun y => y.2.1.length) (0, v4027, v4027, a4028, k4029, cs4030) ⟨o4031, rfl, r4040⟩ ⟨rfl, rfl, rfl, rfl, rfl, trivial⟩ rfl rfl rfl (fun y hI hb4277 => ?_)
   obtain ⟨i4267, w4268, v4270, a4271, k4272, cs4273⟩ := y
   obtain ⟨o4274, g4269, r4276⟩ := hI
   try dsimp only at o4274 g4269 r4276
   refine Cov.prune [(22, .int .i64 (i4267 : Int)), (5, _), (1, _), (2, _), (21, _)] ⟨rfl, rfl, rfl, rfl, rfl, trivial⟩ ?_;refine Cov.same (bl' := [(b4026, .cells #[.slice none 0 0, .slice a4271 v4270.length k4272, .slice a4034 v4033.length k4035] 267 (0, 0)), _]) (sl' := [.s (.slice a4271 v4270.length k4272) 3 1 v4270.length cs4273, _]) (Fs' := G :: Fs) rfl rfl rfl ?_
   cases w4268 with
   | nil =>
    rw [cuckoo_start_L3] at r4276; try dsimp only at r4276
    refine Cov.seq ?_;refine Cov.region rfl ?_;refine Cov.q .ro (.lss rfl rfl) rfl ?_;refine Cov.region_end ?_;refine Cov.seq ?_
    refine Cov.cond_dec rfl (fun c => absurd c (drop_nil g4269)) (fun _ => ?_)
    refine Cov.exit rfl ?_
    refine Cov.prune _ ?_ (Cov.same rfl rfl rfl (hb4249 (v4270, a4271, k4272, cs4273, x0_0) ⟨o4274, r4276⟩))
    exact ⟨rfl, rfl, rfl, trivial⟩
   | cons x4284 xs4285 =>
    have r4283 : cuckoo_start_B3 (cuckoo_start_J2 x1 x0_1 v4033) x0_0 (cuckoo_start_L3 (cuckoo_start_J2 x1 x0_1 v4033) x0_0 xs4285 (i4267 + 1)) x4284 i4267 v4270 = some r := r4276; clear r4276; unfold cuckoo_start_B3 at r4283; try dsimp only at r4283
    refine Cov.seq ?_;refine Cov.region rfl ?_;refine Cov.q .ro (.lss rfl rfl) rfl ?_;refine Cov.region_end ?_;refine Cov.seq ?_
    refine Cov.cond_dec rfl (fun _ => ?_) (fun c => absurd (drop_lt g4269) c)
    refine Cov.skip ?_;refine Cov.seq ?_;refine Cov.block ?_;refine Cov.seq ?_;refine Cov.region rfl ?_;refine Cov.q .ro (.move rfl) rfl ?_;refine Cov.q .ro (.assign rfl) rfl ?_;refine Cov.region_end ?_;refine Cov.region rfl ?_
    refine Cov.q .ro (.move rfl) rfl ?_;refine Cov.q .ro (.nilCheck rfl rfl) rfl ?_;refine Cov.q .ro (.fieldAddr 1 rfl fl267_1 ty41.sz rfl) rfl ?_;refine Cov.q .ro (.load_own 0 rfl rfl ty41 rfl) rfl ?_;refine Cov.q .ro (.move rfl) rfl ?_
    obtain ⟨u4286, hu4286, r4287⟩ := bind_some r4283; clear r4283
    obtain ⟨c4288, p4289, h4290⟩ := OL.get o4274 hu4286
    obtain rfl := h4290
    refine Cov.q .ro (.idxO 0 rfl rfl rfl hu4286 sl41 ty3.sz) rfl ?_
    obtain ⟨u4291, hu4291, r4292⟩ := bind_some r4287; clear r4287
    refine Cov.storeR 0 0 (Q := (Rep.int .i64)) .ro rfl rfl o4274 hu4291 rfl (.inl ⟨rfl, rfl⟩) rfl ty3 p4289 ((Rep.intI .i64 (-1)) :) rfl rfl (fun cs4293 hlcs4293 o4294 => ?_)
    refine Cov.reval 28 hlcs4293 rfl ?_;refine Cov.recell 0 [_, .slice a4271 u4291.length k4272, _] rfl (by rw [hlcs4293]) [_, _] rfl ?_;refine Cov.region_end ?_;refine Cov.inBlock ?_;refine Cov.region rfl ?_;refine Cov.q .ro (.addw rfl rfl) rfl ?_;refine Cov.q .ro (.move rfl) rfl ?_;refine Cov.region_end ?_
    refine Cov.prune _ ?_ (Cov.same rfl rfl rfl (hb4277 ((i4267 + 1), xs4285, u4291, a4271, k4272, cs4293) ⟨o4294, (drop_succ g4269), r4292⟩ (Nat.lt_succ_self _)))
    exact ⟨(congrArg (fun z => some (Value.int .i64 z)) (idx_wrap (OL.len' o4031) g4269)), rfl, rfl, rfl, rfl, trivial⟩
 ·intro hb4296
  refine Cov.drawL (.q 0 (.q 1 (.q 3 (.q 4 (.alt (.e 2 1 (.e 5 1 (.q 6 (.e 7 1 (.q 8 .nil))))) (.e 5 1 (.e 2 1 (.q 6 (.e 7 1 (.q 8 .nil)))))))))) [_] (by kernel_rfl) (by kernel_rfl) (pick_mem [0] rfl) ?_
  obtain ⟨u4297, hu4297, r4308⟩ := bind_some h; clear h
  obtain ⟨u4302, hu4302, r4309⟩ := bind_some r4308; clear r4308
  refine Cov.dq (.fieldAddr 0 rfl fl73_0 ty3.sz rfl) rfl ?_;refine Cov.dq (.load_own 0 rfl rfl ty3 rfl) rfl ?_;refine Cov.dq (.fieldAddr 0 rfl fl73_0 ty3.sz rfl) rfl ?_;refine Cov.dq (.load_own 0 rfl rfl ty3 rfl) rfl ?_;refine Cov.alt ?_ ?_
  ·refine Cov.makeR (G := G) (Q := (Rep.int .i64)) .d1 sl41 ty3 rfl rfl rfl ((Rep.intI .i64 0) :) rfl rfl hu4297 rfl rfl (fun b4310 cs4311 hb4310 o4312 => ?_)
   refine Cov.clsL (HpLe.refl _) (pick_mem [0] rfl) ?_
   refine Cov.makeR (G := G) (Q := Rep.bool) .d1 sl265 ty4 rfl rfl rfl ((Rep.boolI false) :) rfl rfl hu4302 rfl rfl (fun b4314 cs4315 hb4314 o4316 => ?_)
   refine Cov.clsL (HpLe.refl _) (pick_mem [0] rfl) ?_;refine Cov.dq (.build [_, _, _] [(1, _), (2, _)] ty267 pl267 rfl rfl) rfl ?_
   refine Cov.box [_, _, _] .d1 rfl rfl rfl (fun b4318 hb4318 => ?_)
   refine Cov.clsL (HpLe.refl _) (pick_mem [1] rfl) ?_;refine Cov.dq (.assign rfl) rfl ?_;refine Cov.draw_end ?_;refine Cov.pullS 1 rfl [_, _] rfl ?_
   refine Cov.prune _ ?_ (Cov.same rfl rfl rfl (hb4296 (b4318, u4297, (some ⟨b4310, 0, none⟩), u4297.length, cs4311, u4302, (some ⟨b4314, 0, none⟩), u4302.length, cs4315) ⟨o4312, o4316, r4309⟩))
   exact ⟨rfl, rfl, rfl, trivial⟩
  ·refine Cov.makeR (G := G) (Q := Rep.bool) .d1 sl265 ty4 rfl rfl rfl ((Rep.boolI false) :) rfl rfl hu4302 rfl rfl (fun b4319 cs4320 hb4319 o4321 => ?_)
   refine Cov.clsL (HpLe.refl _) (pick_mem [0] rfl) ?_
   refine Cov.makeR (G := G) (Q := (Rep.int .i64)) .d1 sl41 ty3 rfl rfl rfl ((Rep.intI .i64 0) :) rfl rfl hu4297 rfl rfl (fun b4323 cs4324 hb4323 o4325 => ?_)
   refine Cov.clsL (HpLe.refl _) (pick_mem [0] rfl) ?_;refine Cov.dq (.build [_, _, _] [(1, _), (2, _)] ty267 pl267 rfl rfl) rfl ?_
   refine Cov.box [_, _, _] .d1 rfl rfl rfl (fun b4327 hb4327 => ?_)
   refine Cov.clsL (HpLe.refl _) (pick_mem [1] rfl) ?_;refine Cov.dq (.assign rfl) rfl ?_;refine Cov.draw_end ?_
   refine Cov.prune _ ?_ (Cov.same rfl rfl rfl (hb4296 (b4327, u4297, (some ⟨b4323, 0, none⟩), u4297.length, cs4324, u4302, (some ⟨b4319, 0, none⟩), u4302.length, cs4320) ⟨o4325, o4321, r4309⟩))
   exact ⟨rfl, rfl, rfl, trivial⟩
set_option maxHeartbeats 4000000 in
set_option maxRecDepth 100000 in
theorem cuckoo_placing_place_R_c (n : Nat) : ∀ {Fs : List Hp} {G : Hp} {p0 : Nat} {a0_0 : Option Addr} {k0_0 : Nat} {x0_0 : List (List Int)} {a0_1 : Option Addr} {k0_1 : Nat} {x0_1 : List Int} {cc0_1 : List Value} {bb0_1 : Option Nat} {pre0_1 post0_1 : List Value} {a0_2 : Option Addr} {k0_2 : Nat} {x0_2 : List Bool} {x1 : Int} {a2 : Option Addr} {k2 : Nat} {x2 : List Bool} {cc2 : List Value} {bb2 : Option Nat} {pre2 post2 : List Value} {r : (Bool × (List Int) × (List Bool))} (hG : G ∈ Fs) (s0_0 : SlR (Rep.sl (Rep.int .i64)) G a0_0 k0_0 x0_0) (vva0_1 : VA a0_1 bb0_1 x0_1.length k0_1 pre0_1 cc0_1) (oo0_1 : OL (Rep.int .i64) G cc0_1 x0_1) (s0_2 : SlR Rep.bool G a0_2 k0_2 x0_2) (vva2 : VA a2 bb2 x2.length k2 pre2 cc2) (oo2 : OL Rep.bool G cc2 x2) (h : cuckoo_placing_place_R n (x0_0, x0_1, x0_2) x1 x2 = some r), RetS Tryz.prog 156 #[.pointer (some ⟨p0, 0, none⟩), .int .i64 x1, .slice a2 x2.length k2] Fs [(p0, .cells #[.slice a0_0 x0_0.length k0_0, .slice a0_1 x0_1.length k0_1, .slice a0_2 x0_2.length k0_2] 267 (0, 0))] [.g (viewG bb0_1 3 pre0_1 cc0_1 post0_1), .g (viewG bb2 4 pre2 cc2 post2)] (fun v bo so => ∃ lc0 : List Value, ∃ lc1 : List Value, v = .bool r.1 ∧ bo = [(p0, .cells #[.slice a0_0 x0_0.length k0_0, .slice a0_1 r.2.1.length k0_1, .slice a0_2 x0_2.length k0_2] 267 (0, 0))] ∧ so = [.g (viewG bb0_1 3 pre0_1 lc0 post0_1), .g (viewG bb2 4 pre2 lc1 post2)] ∧ OL (Rep.int .i64) G lc0 r.2.1 ∧ r.2.1.length = x0_1.length ∧ OL Rep.bool G lc1 r.2.2 ∧ r.2.2.length = x2.length) := by
 induction n with
 | zero => intro Fs G p0 a0_0 k0_0 x0_0 a0_1 k0_1 x0_1 cc0_1 bb0_1 pre0_1 post0_1 a0_2 k0_2 x0_2 x1 a2 k2 x2 cc2 bb2 pre2 post2 r hG s0_0 vva0_1 oo0_1 s0_2 vva2 oo2 h; exact absurd h (by unfold cuckoo_placing_place_R; simp)
 | succ n ih =>
  intro Fs G p0 a0_0 k0_0 x0_0 a0_1 k0_1 x0_1 cc0_1 bb0_1 pre0_1 post0_1 a0_2 k0_2 x0_2 x1 a2 k2 x2 cc2 bb2 pre2 post2 r hG s0_0 vva0_1 oo0_1 s0_2 vva2 oo2 h
  unfold cuckoo_placing_place_R at h
  unfold cuckoo_placing_place_B2 at h
  try dsimp only at h
  refine RetS.of (vs := [_, _, _]) Tryz.func156 rfl Tryz.ntmps156 [(0, _), (1, _), (2, _)] ⟨rfl, rfl, rfl, trivial⟩ rfl hG fun w0 S0 hS0 B0 => ?_
  refine Cov.seq ?_;refine Cov.region rfl ?_;refine Cov.q .ro (.assign rfl) rfl ?_;refine Cov.region_end ?_;refine Cov.scope ?_;refine Cov.seq ?_;refine Cov.label ?_;refine Cov.seq ?_;refine Cov.seq ?_
  refine Cov.region rfl ?_;refine Cov.q .ro (.move rfl) rfl ?_;refine Cov.q .ro (.nilCheck rfl rfl) rfl ?_;refine Cov.q .ro (.fieldAddr 0 rfl fl267_0 ty50.sz rfl) rfl ?_;refine Cov.q .ro (.load_own 0 rfl rfl ty50 rfl) rfl ?_;refine Cov.q .ro (.move rfl) rfl ?_
  obtain ⟨u3, hu3, r4⟩ := bind_some h; clear h
  obtain ⟨c5, p6, h7⟩ := SlR.get s0_0 hu3
  obtain ⟨a8, k9, rfl, s10⟩ := h7
  refine Cov.q .ro (.idxR s0_0 rfl rfl hu3 sl50 ty41.sz) rfl ?_;refine Cov.q .ro (.load_rp p6 List.mem_cons_self rfl ty41 rfl) rfl ?_;refine Cov.q .ro (.len_sl rfl rfl sl41) rfl ?_;refine Cov.q .ro (.move rfl) rfl ?_;refine Cov.region_end ?_;refine Cov.block ?_;refine Cov.pullS 1 rfl [_, _] rfl ?_
  refine Cov.loop2 (α := Nat × List Int × List Bool × List Value × List Int × List Value) (fun y => [(2, .slice a2 y.2.2.1.length k2), (18, .int .i64 (y.1 : Int))]) [(0, _), (1, _), (16, _), (17, _)] (fun y => []) (fun y => [(p0, .cells #[.slice a0_0 x0_0.length k0_0, .slice a0_1 y.2.2.2.2.1.length k0_1, .slice a0_2 x0_2.length k0_2] 267 (0, 0))]) [] (fun y => [.g (viewG bb2 4 pre2 y.2.2.2.1 post2), .g (viewG bb0_1 3 pre0_1 y.2.2.2.2.2 post0_1)]) [] (fun y => OL Rep.bool G y.2.2.2.1 y.2.2.1 ∧ VA a2 bb2 y.2.2.1.length k2 pre2 y.2.2.2.1 ∧ y.2.2.1.length = x2.length ∧ OL (Rep.int .i64) G y.2.2.2.2.2 y.2.2.2.2.1 ∧ VA a0_1 bb0_1 y.2.2.2.2.1.length k0_1 pre0_1 y.2.2.2.2.2 ∧ y.2.2.2.2.1.length = x0_1.length ∧ List.drop y.1 u3 = y.2.1 ∧ cuckoo_placing_place_L1 (cuckoo_placing_place_R n) x1 x0_0 x0_2 y.2.1 y.2.2.1 y.2.2.2.2.1 = some r) (fun y => y.2.1.length) (0, u3, x2, cc2, x0_1, cc0_1) ⟨oo2, vva2, rfl, oo0_1, vva0_1, rfl, rfl, r4⟩ ⟨rfl, rfl, rfl, rfl, rfl, rfl, trivial⟩ rfl rfl rfl (fun y hI hb128 => ?_)
  obtain ⟨i112, w113, v115, cs116, v121, cs122⟩ := y
  obtain ⟨o117, va118, hl119, o123, va124, hl125, g114, r127⟩ := hI
  try dsimp only at o117 va118 hl119 o123 va124 hl125 g114 r127
  refine Cov.prune [(2, .slice a2 v115.length k2), (18, .int .i64 (i112 : Int)), (0, _), (1, _), (16, _), (17, _)] ⟨rfl, rfl, rfl, rfl, rfl, rfl, trivial⟩ ?_;refine Cov.same (bl' := [(p0, .cells #[.slice a0_0 x0_0.length k0_0, .slice a0_1 v121.length k0_1, .slice a0_2 x0_2.length k0_2] 267 (0, 0))]) (sl' := [.g (viewG bb2 4 pre2 cs116 post2), .g (viewG bb0_1 3 pre0_1 cs122 post0_1)]) (Fs' := G :: Fs) rfl rfl rfl ?_
  cases w113 with
  | nil =>
   rw [cuckoo_placing_place_L1] at r127; try dsimp only at r127
   refine Cov.seq ?_;refine Cov.region rfl ?_;refine Cov.q .ro (.lss rfl rfl) rfl ?_;refine Cov.region_end ?_;refine Cov.seq ?_
   refine Cov.cond_dec rfl (fun c => absurd c (drop_nil g114)) (fun _ => ?_)
   refine Cov.exit rfl ?_;refine Cov.seq ?_;refine Cov.region rfl ?_;refine Cov.q .ro (.assign rfl) rfl ?_;refine Cov.region_end ?_
   cases r127
   refine Cov.pullS 1 rfl [_, _] rfl ?_
   refine Cov.retS (c := ⟨156, none⟩) (.inr ⟨_, rfl⟩) [.tmp 6] [_] rfl Tryz.func156 Tryz.results156 ⟨RV.tmp rfl, trivial⟩ (fun _ h => List.mem_cons_of_mem _ h) ⟨cs122, cs116, rfl, rfl, rfl, o123, hl125, o117, hl119⟩
  | cons x135 xs136 =>
   have r134 : cuckoo_placing_place_B1 (cuckoo_placing_place_R n) x1 x0_0 x0_2 (cuckoo_placing_place_L1 (cuckoo_placing_place_R n) x1 x0_0 x0_2 xs136) x135 v115 v121 = some r := r127; clear r127; unfold cuckoo_placing_place_B1 at r134; try dsimp only at r134
   refine Cov.seq ?_;refine Cov.region rfl ?_;refine Cov.q .ro (.lss rfl rfl) rfl ?_;refine Cov.region_end ?_;refine Cov.seq ?_
   refine Cov.cond_dec rfl (fun _ => ?_) (fun c => absurd (drop_lt g114) c)
   refine Cov.skip ?_;refine Cov.seq ?_;refine Cov.block ?_;refine Cov.seq ?_;refine Cov.region rfl ?_
   obtain ⟨c137, p138, h139⟩ := SlR.get s10 (drop_idx g114)
   obtain rfl := h139
   refine Cov.q .ro (.idxR s10 rfl rfl (drop_idx g114) sl41 ty3.sz) rfl ?_;refine Cov.q .ro (.load_rp p138 List.mem_cons_self rfl ty3 rfl) rfl ?_;refine Cov.q .ro (.assign rfl) rfl ?_;refine Cov.region_end ?_;refine Cov.seq ?_;refine Cov.block ?_;refine Cov.seq ?_;refine Cov.region rfl ?_;refine Cov.q .ro (.move rfl) rfl ?_
   refine Cov.q .ro (.move rfl) rfl ?_
   obtain ⟨u140, hu140, r141⟩ := bind_some r134; clear r134
   obtain ⟨c142, p143, h144⟩ := OL.get o117 hu140
   obtain rfl := h144
   refine Cov.q .ro (.idxV 0 rfl va118 o117 rfl rfl hu140 sl265 ty4.sz rfl rfl) rfl ?_;refine Cov.q .ro (.loadV 0 0 rfl va118 o117 rfl rfl hu140 p143 rfl (.inl ⟨rfl, rfl⟩) ty4 rfl) rfl ?_;refine Cov.q .ro (.move rfl) rfl ?_
   obtain ⟨u152, h153, r154⟩ := bind_some r141; clear r141
   refine Cov.cutR 8 (β := Unit) (fun y => [(35, .bool u152)]) [(2, _), (18, _), (0, _), (1, _), (16, _), (17, _), (8, _)] (fun y => G :: Fs) (fun y => []) [_] (fun y => []) [_, _] (fun y => True) ⟨rfl, rfl, rfl, rfl, rfl, rfl, rfl, trivial⟩ [0] rfl [0, 1] rfl ?_ ?_
   ·rintro _ _
    refine Cov.prune [(35, .bool u152), (2, _), (18, _), (0, _), (1, _), (16, _), (17, _), (8, _)] ⟨rfl, rfl, rfl, rfl, rfl, rfl, rfl, rfl, trivial⟩ ?_;refine Cov.same (bl' := [_]) (sl' := [_, _]) (Fs' := G :: Fs) rfl rfl rfl ?_;refine Cov.q .ro (.assign rfl) rfl ?_;refine Cov.region_end ?_
    refine Cov.cond rfl (fun c157 => ?_) (fun c157 => ?_)
    ·have r158 := ifT r154 c157; clear r154
     refine Cov.exit rfl ?_;refine Cov.region rfl ?_;refine Cov.q .ro (.addw rfl rfl) rfl ?_;refine Cov.q .ro (.move rfl) rfl ?_;refine Cov.region_end ?_
     refine Cov.prune _ ?_ (Cov.same rfl rfl rfl (hb128 ((i112 + 1), xs136, v115, cs116, v121, cs122) ⟨o117, va118, hl119, o123, va124, hl125, (drop_succ g114), r158⟩ (Nat.lt_succ_self _)))
     exact ⟨rfl, (congrArg (fun z => some (Value.int .i64 z)) (idx_wrap (SlR.len s10) g114)), rfl, rfl, rfl, rfl, trivial⟩
    ·have r159 := ifBF r154 c157; clear r154
     refine Cov.seq ?_;refine Cov.region rfl ?_;refine Cov.q .ro (.move rfl) rfl ?_;refine Cov.q .ro (.nilCheck rfl rfl) rfl ?_;refine Cov.q .ro (.fieldAddr 1 rfl fl267_1 ty41.sz rfl) rfl ?_;refine Cov.q .ro (.load_own 0 rfl rfl ty41 rfl) rfl ?_;refine Cov.q .ro (.move rfl) rfl ?_
     obtain ⟨u160, hu160, r161⟩ := bind_some r159; clear r159
     obtain ⟨c162, p163, h164⟩ := OL.get o123 hu160
     obtain rfl := h164
     refine Cov.q .ro (.idxV 1 rfl va124 o123 rfl rfl hu160 sl41 ty3.sz rfl rfl) rfl ?_;refine Cov.q .ro (.loadV 1 0 rfl va124 o123 rfl rfl hu160 p163 rfl (.inl ⟨rfl, rfl⟩) ty3 rfl) rfl ?_;refine Cov.q .ro (.lss rfl rfl) rfl ?_;refine Cov.q .ro (.assign rfl) rfl ?_;refine Cov.region_end ?_
     refine Cov.cond_dec rfl (fun c165 => ?_) (fun c165 => ?_)
     ·have r166 := ifT r161 c165; clear r161
      refine Cov.seq ?_;refine Cov.region rfl ?_;refine Cov.q .ro (.move rfl) rfl ?_;refine Cov.q .ro (.nilCheck rfl rfl) rfl ?_;refine Cov.q .ro (.fieldAddr 1 rfl fl267_1 ty41.sz rfl) rfl ?_;refine Cov.q .ro (.load_own 0 rfl rfl ty41 rfl) rfl ?_;refine Cov.q .ro (.move rfl) rfl ?_;refine Cov.q .ro (.move rfl) rfl ?_
      obtain ⟨u167, hu167, r168⟩ := bind_some r166; clear r166
      obtain ⟨c169, p170, h171⟩ := OL.get o123 hu167
      obtain rfl := h171
      refine Cov.q .ro (.idxV 1 rfl va124 o123 rfl rfl hu167 sl41 ty3.sz rfl rfl) rfl ?_
      obtain ⟨u172, hu172, r173⟩ := bind_some r168; clear r168
      refine Cov.storeV 1 0 (Q := (Rep.int .i64)) .ro rfl va124 rfl rfl o123 hu172 rfl (.inl ⟨rfl, rfl⟩) rfl ty3 p170 ((Rep.intI .i64 x1) :) rfl rfl (fun cs174 hlcs174 o175 va176 => ?_)
      refine Cov.reval 40 hlcs174 rfl ?_;refine Cov.reval 48 hlcs174 rfl ?_;refine Cov.recell 0 [_, .slice a0_1 u172.length k0_1, _] rfl (by rw [hlcs174]) [_] rfl ?_;refine Cov.region_end ?_;refine Cov.prune [] trivial ?_;refine Cov.seq ?_;refine Cov.region rfl ?_;refine Cov.q .ro (.assign rfl) rfl ?_;refine Cov.region_end ?_
      cases r173
      refine Cov.pullS 1 rfl [_, _] rfl ?_
      refine Cov.retS (c := ⟨156, none⟩) (.inr ⟨_, rfl⟩) [.tmp 6] [_] rfl Tryz.func156 Tryz.results156 ⟨RV.tmp rfl, trivial⟩ (fun _ h => List.mem_cons_of_mem _ h) ⟨cs174, cs116, rfl, rfl, rfl, o175, (hlcs174.trans hl125), o117, hl119⟩
     ·have r178 := ifF r161 c165; clear r161
      refine Cov.skip ?_;refine Cov.inBlock ?_;refine Cov.seq ?_;refine Cov.region rfl ?_;refine Cov.q .ro (.move rfl) rfl ?_;refine Cov.q .ro (.move rfl) rfl ?_
      obtain ⟨u179, hu179, r180⟩ := bind_some r178; clear r178
      obtain ⟨c181, p182, h183⟩ := OL.get o117 hu179
      obtain rfl := h183
      refine Cov.q .ro (.idxV 0 rfl va118 o117 rfl rfl hu179 sl265 ty4.sz rfl rfl) rfl ?_
      obtain ⟨u184, hu184, r185⟩ := bind_some r180; clear r180
      refine Cov.storeV 0 0 (Q := Rep.bool) .ro rfl va118 rfl rfl o117 hu184 rfl (.inl ⟨rfl, rfl⟩) rfl ty4 p182 ((Rep.boolI true) :) rfl rfl (fun cs186 hlcs186 o187 va188 => ?_)
      refine Cov.reval 2 hlcs186 rfl ?_;refine Cov.reval 52 hlcs186 rfl ?_;refine Cov.region_end ?_;refine Cov.prune [(2, _), (18, _), (0, _), (1, _), (16, _), (17, _), (8, _)] ⟨rfl, rfl, rfl, rfl, rfl, rfl, rfl, trivial⟩ ?_;refine Cov.seq ?_;refine Cov.region rfl ?_;refine Cov.q .ro (.move rfl) rfl ?_;refine Cov.q .ro (.nilCheck rfl rfl) rfl ?_;refine Cov.q .ro (.fieldAddr 1 rfl fl267_1 ty41.sz rfl) rfl ?_
      refine Cov.q .ro (.load_own 0 rfl rfl ty41 rfl) rfl ?_;refine Cov.q .ro (.move rfl) rfl ?_
      obtain ⟨u190, hu190, r191⟩ := bind_some r185; clear r185
      obtain ⟨c192, p193, h194⟩ := OL.get o123 hu190
      obtain rfl := h194
      refine Cov.q .ro (.idxV 1 rfl va124 o123 rfl rfl hu190 sl41 ty3.sz rfl rfl) rfl ?_;refine Cov.q .ro (.loadV 1 0 rfl va124 o123 rfl rfl hu190 p193 rfl (.inl ⟨rfl, rfl⟩) ty3 rfl) rfl ?_;refine Cov.q .ro (.assign rfl) rfl ?_;refine Cov.region_end ?_;refine Cov.seq ?_;refine Cov.region rfl ?_;refine Cov.q .ro (.move rfl) rfl ?_;refine Cov.q .ro (.move rfl) rfl ?_;refine Cov.q .ro (.move rfl) rfl ?_
      obtain ⟨u195, hu195, r196⟩ := bind_some r191; clear r191
      refine Cov.pullS 1 rfl [_, _] rfl ?_
      refine Cov.callS (b1 := [_]) (b2 := []) (s1 := [_, _]) [_, _, _] [] .ro rfl rfl Tryz.call156 rfl rfl (ih (G := G) List.mem_cons_self s0_0 va124 o123 s0_2 va188 o187 hu195) rfl (fun v198 bo so h197 => ?_)
      obtain ⟨cs199, cs202, rfl, rfl, rfl, o200, hl201, o203, hl204⟩ := h197
      refine Cov.same (bl' := [_]) (sl' := [_, _]) rfl rfl rfl ?_
      have va207 := VA.call va124 o123 o200 hl201
      have va208 := VA.call va188 o187 o203 hl204
      refine Cov.reval 58 hl201 rfl ?_;refine Cov.recell 0 [_, .slice a0_1 u195.2.1.length k0_1, _] rfl (by rw [hl201]) [_] rfl ?_;refine Cov.reval 2 hl204 rfl ?_;refine Cov.reval 64 hl204 rfl ?_;refine Cov.region_end ?_
      refine Cov.cond rfl (fun c209 => ?_) (fun c209 => ?_)
      ·have r210 := ifT r196 c209; clear r196
       refine Cov.seq ?_;refine Cov.region rfl ?_;refine Cov.q .ro (.move rfl) rfl ?_;refine Cov.q .ro (.nilCheck rfl rfl) rfl ?_;refine Cov.q .ro (.fieldAddr 1 rfl fl267_1 ty41.sz rfl) rfl ?_;refine Cov.q .ro (.load_own 0 rfl rfl ty41 rfl) rfl ?_;refine Cov.q .ro (.move rfl) rfl ?_;refine Cov.q .ro (.move rfl) rfl ?_
       obtain ⟨u211, hu211, r212⟩ := bind_some r210; clear r210
       obtain ⟨c213, p214, h215⟩ := OL.get o200 hu211
       obtain rfl := h215
       refine Cov.q .ro (.idxV 0 rfl va207 o200 rfl rfl hu211 sl41 ty3.sz rfl rfl) rfl ?_
       obtain ⟨u216, hu216, r217⟩ := bind_some r212; clear r212
       refine Cov.storeV 0 0 (Q := (Rep.int .i64)) .ro rfl va207 rfl rfl o200 hu216 rfl (.inl ⟨rfl, rfl⟩) rfl ty3 p214 ((Rep.intI .i64 x1) :) rfl rfl (fun cs218 hlcs218 o219 va220 => ?_)
       refine Cov.reval 58 hlcs218 rfl ?_;refine Cov.reval 69 hlcs218 rfl ?_;refine Cov.recell 0 [_, .slice a0_1 u216.length k0_1, _] rfl (by rw [hlcs218]) [_] rfl ?_;refine Cov.region_end ?_;refine Cov.prune [] trivial ?_;refine Cov.seq ?_;refine Cov.region rfl ?_;refine Cov.q .ro (.assign rfl) rfl ?_;refine Cov.region_end ?_
       cases r217
       refine Cov.retS (c := ⟨156, none⟩) (.inr ⟨_, rfl⟩) [.tmp 6] [_] rfl Tryz.func156 Tryz.results156 ⟨RV.tmp rfl, trivial⟩ (fun _ h => List.mem_cons_of_mem _ h) ⟨cs218, cs202, rfl, rfl, rfl, o219, (hlcs218.trans (hl201.trans hl125)), o203, (hl204.trans (hlcs186.trans hl119))⟩
      ·have r222 := ifBF r196 c209; clear r196
       refine Cov.skip ?_;refine Cov.inBlock ?_;refine Cov.region rfl ?_;refine Cov.q .ro (.addw rfl rfl) rfl ?_;refine Cov.q .ro (.move rfl) rfl ?_;refine Cov.region_end ?_;refine Cov.prune [(2, _), (18, _), (0, _), (1, _), (16, _), (17, _)] ⟨rfl, rfl, rfl, rfl, rfl, rfl, trivial⟩ ?_;refine Cov.pullS 1 rfl [_, _] rfl ?_
       refine Cov.prune _ ?_ (Cov.same rfl rfl rfl (hb128 ((i112 + 1), xs136, u195.2.2, cs202, u195.2.1, cs199) ⟨o203, va208, (hl204.trans (hlcs186.trans hl119)), o200, va207, (hl201.trans hl125), (drop_succ g114), r222⟩ (Nat.lt_succ_self _)))
       exact ⟨rfl, (congrArg (fun z => some (Value.int .i64 z)) (idx_wrap (SlR.len s10) g114)), rfl, rfl, rfl, rfl, trivial⟩
   ·intro hb151
    refine Cov.split_b 27 rfl (fun c150 => ?_) (fun c150 => ?_)
    ·have r223 := ifT h153 c150
     refine Cov.g_off rfl rfl rfl ?_;refine Cov.g_off rfl rfl rfl ?_;refine Cov.g_off rfl rfl rfl ?_;refine Cov.g_off rfl rfl rfl ?_;refine Cov.g_off rfl rfl rfl ?_;refine Cov.g_off rfl rfl rfl ?_;refine Cov.g_off rfl rfl rfl ?_;refine Cov.q .ro (.pick_t rfl rfl) rfl ?_
     refine Cov.prune _ ?_ (Cov.same rfl rfl rfl (hb151 () trivial))
     exact ⟨sval r223, rfl, rfl, rfl, rfl, rfl, rfl, rfl, trivial⟩
    ·have r224 := ifBF h153 c150
     refine Cov.g_on rfl ?_;refine Cov.q .ro (.move rfl) rfl ?_;refine Cov.g_on rfl ?_;refine Cov.q .ro (.nilCheck rfl rfl) rfl ?_;refine Cov.g_on rfl ?_;refine Cov.q .ro (.fieldAddr 2 rfl fl267_2 ty265.sz rfl) rfl ?_;refine Cov.g_on rfl ?_;refine Cov.q .ro (.load_own 0 rfl rfl ty265 rfl) rfl ?_;refine Cov.g_on rfl ?_
     refine Cov.q .ro (.move rfl) rfl ?_;refine Cov.g_on rfl ?_
     obtain ⟨u225, hu225, r226⟩ := bind_some r224; clear r224
     obtain ⟨c227, p228, h229⟩ := SlR.get s0_2 hu225
     obtain rfl := h229
     refine Cov.q .ro (.idxR s0_2 rfl rfl hu225 sl265 ty4.sz) rfl ?_;refine Cov.g_on rfl ?_;refine Cov.q .ro (.load_rp p228 List.mem_cons_self rfl ty4 rfl) rfl ?_;refine Cov.q .ro (.pick_f rfl rfl) rfl ?_
     refine Cov.prune _ ?_ (Cov.same rfl rfl rfl (hb151 () trivial))
     exact ⟨sval r226, rfl, rfl, rfl, rfl, rfl, rfl, rfl, trivial⟩
theorem cuckoo_placing_place_c {Fs : List Hp} {G : Hp} {p0 : Nat} {a0_0 : Option Addr} {k0_0 : Nat} {x0_0 : List (List Int)} {a0_1 : Option Addr} {k0_1 : Nat} {x0_1 : List Int} {cc0_1 : List Value} {bb0_1 : Option Nat} {pre0_1 post0_1 : List Value} {a0_2 : Option Addr} {k0_2 : Nat} {x0_2 : List Bool} {x1 : Int} {a2 : Option Addr} {k2 : Nat} {x2 : List Bool} {cc2 : List Value} {bb2 : Option Nat} {pre2 post2 : List Value} {r : (Bool × (List Int) × (List Bool))} (hG : G ∈ Fs) (s0_0 : SlR (Rep.sl (Rep.int .i64)) G a0_0 k0_0 x0_0) (vva0_1 : VA a0_1 bb0_1 x0_1.length k0_1 pre0_1 cc0_1) (oo0_1 : OL (Rep.int .i64) G cc0_1 x0_1) (s0_2 : SlR Rep.bool G a0_2 k0_2 x0_2) (vva2 : VA a2 bb2 x2.length k2 pre2 cc2) (oo2 : OL Rep.bool G cc2 x2) (h : cuckoo_placing_place (x0_0, x0_1, x0_2) x1 x2 = some r) : RetS Tryz.prog 156 #[.pointer (some ⟨p0, 0, none⟩), .int .i64 x1, .slice a2 x2.length k2] Fs [(p0, .cells #[.slice a0_0 x0_0.length k0_0, .slice a0_1 x0_1.length k0_1, .slice a0_2 x0_2.length k0_2] 267 (0, 0))] [.g (viewG bb0_1 3 pre0_1 cc0_1 post0_1), .g (viewG bb2 4 pre2 cc2 post2)] (fun v bo so => ∃ lc0 : List Value, ∃ lc1 : List Value, v = .bool r.1 ∧ bo = [(p0, .cells #[.slice a0_0 x0_0.length k0_0, .slice a0_1 r.2.1.length k0_1, .slice a0_2 x0_2.length k0_2] 267 (0, 0))] ∧ so = [.g (viewG bb0_1 3 pre0_1 lc0 post0_1), .g (viewG bb2 4 pre2 lc1 post2)] ∧ OL (Rep.int .i64) G lc0 r.2.1 ∧ r.2.1.length = x0_1.length ∧ OL Rep.bool G lc1 r.2.2 ∧ r.2.2.length = x2.length) := by
 unfold cuckoo_placing_place at h
 exact cuckoo_placing_place_R_c big hG s0_0 vva0_1 oo0_1 s0_2 vva2 oo2 h
set_option maxHeartbeats 4000000 in
set_option maxRecDepth 100000 in
theorem cuckoo_placing_all_c {Fs : List Hp} {G : Hp} {p0 : Nat} {a0_0 : Option Addr} {k0_0 : Nat} {x0_0 : List (List Int)} {a0_1 : Option Addr} {k0_1 : Nat} {x0_1 : List Int} {cc0_1 : List Value} {bb0_1 : Option Nat} {pre0_1 post0_1 : List Value} {a0_2 : Option Addr} {k0_2 : Nat} {x0_2 : List Bool} {x1 : Int} {r : (Bool × (List Int))} (hG : G ∈ Fs) (s0_0 : SlR (Rep.sl (Rep.int .i64)) G a0_0 k0_0 x0_0) (vva0_1 : VA a0_1 bb0_1 x0_1.length k0_1 pre0_1 cc0_1) (oo0_1 : OL (Rep.int .i64) G cc0_1 x0_1) (s0_2 : SlR Rep.bool G a0_2 k0_2 x0_2) (h : cuckoo_placing_all (x0_0, x0_1, x0_2) x1 = some r) : RetS Tryz.prog 114 #[.pointer (some ⟨p0, 0, none⟩), .int .i64 x1] Fs [(p0, .cells #[.slice a0_0 x0_0.length k0_0, .slice a0_1 x0_1.length k0_1, .slice a0_2 x0_2.length k0_2] 267 (0, 0))] [.g (viewG bb0_1 3 pre0_1 cc0_1 post0_1)] (fun v bo so => ∃ lc0 : List Value, v = .bool r.1 ∧ bo = [(p0, .cells #[.slice a0_0 x0_0.length k0_0, .slice a0_1 r.2.length k0_1, .slice a0_2 x0_2.length k0_2] 267 (0, 0))] ∧ so = [.g (viewG bb0_1 3 pre0_1 lc0 post0_1)] ∧ OL (Rep.int .i64) G lc0 r.2 ∧ r.2.length = x0_1.length) := by
 unfold cuckoo_placing_all at h
 try dsimp only at h
 refine RetS.of (vs := [_, _]) Tryz.func114 rfl Tryz.ntmps114 [(0, _), (1, _)] ⟨rfl, rfl, trivial⟩ rfl hG fun w0 S0 hS0 B0 => ?_
 refine Cov.seq ?_;refine Cov.region rfl ?_;refine Cov.q .ro (.assign rfl) rfl ?_;refine Cov.region_end ?_;refine Cov.seq ?_;refine Cov.seq ?_;refine Cov.region rfl ?_;refine Cov.q .ro (.move rfl) rfl ?_;refine Cov.q .ro (.assign rfl) rfl ?_
 refine Cov.region_end ?_;refine Cov.block ?_
 refine Cov.loop2 (α := Nat × Int × List Int × List Value) (fun y => [(5, .int .i64 y.2.1)]) [(0, _)] (fun y => []) (fun y => [(p0, .cells #[.slice a0_0 x0_0.length k0_0, .slice a0_1 y.2.2.1.length k0_1, .slice a0_2 x0_2.length k0_2] 267 (0, 0))]) [] (fun y => [.g (viewG bb0_1 3 pre0_1 y.2.2.2 post0_1)]) [] (fun y => OL (Rep.int .i64) G y.2.2.2 y.2.2.1 ∧ VA a0_1 bb0_1 y.2.2.1.length k0_1 pre0_1 y.2.2.2 ∧ y.2.2.1.length = x0_1.length ∧ cuckoo_placing_all_L1 x0_0 x0_2 y.1 y.2.1 y.2.2.1 = some r) (fun y => y.1) (big, x1, x0_1, cc0_1) ⟨oo0_1, vva0_1, rfl, h⟩ ⟨rfl, rfl, trivial⟩ rfl rfl rfl (fun y hI hb43 => ?_)
 obtain ⟨n33, v35, v36, cs37⟩ := y
 obtain ⟨o38, va39, hl40, r42⟩ := hI
 try dsimp only at o38 va39 hl40 r42
 refine Cov.prune [(5, .int .i64 v35), (0, _)] ⟨rfl, rfl, trivial⟩ ?_;refine Cov.same (bl' := [(p0, .cells #[.slice a0_0 x0_0.length k0_0, .slice a0_1 v36.length k0_1, .slice a0_2 x0_2.length k0_2] 267 (0, 0))]) (sl' := [.g (viewG bb0_1 3 pre0_1 cs37 post0_1)]) (Fs' := G :: Fs) rfl rfl rfl ?_
 obtain ⟨m47, rfl⟩ : ∃ m, n33 = m + 1 := by cases n33 with | zero => exact absurd (show (none : Option _) = some _ from r42) (by simp) | succ m => exact ⟨m, rfl⟩
 have r46 : cuckoo_placing_all_B1 x0_0 x0_2 (cuckoo_placing_all_L1 x0_0 x0_2 m47) v35 v36 = some r := r42; clear r42; unfold cuckoo_placing_all_B1 at r46; try dsimp only at r46
 refine Cov.seq ?_;refine Cov.seq ?_;refine Cov.region rfl ?_;refine Cov.q .ro (.move rfl) rfl ?_;refine Cov.q .ro (.move rfl) rfl ?_;refine Cov.q .ro (.nilCheck rfl rfl) rfl ?_;refine Cov.q .ro (.fieldAddr 0 rfl fl267_0 ty50.sz rfl) rfl ?_;refine Cov.q .ro (.load_own 0 rfl rfl ty50 rfl) rfl ?_;refine Cov.q .ro (.len_sl rfl rfl sl50) rfl ?_
 refine Cov.q .ro (.lss rfl rfl) rfl ?_;refine Cov.region_end ?_
 refine Cov.cond_dec rfl (fun c48 => ?_) (fun c48 => ?_)
 ·have r49 := ifT r46 c48; clear r46
  refine Cov.skip ?_;refine Cov.seq ?_;refine Cov.block ?_;refine Cov.seq ?_;refine Cov.region rfl ?_;refine Cov.q .ro (.move rfl) rfl ?_;refine Cov.q .ro (.move rfl) rfl ?_;refine Cov.q .ro (.move rfl) rfl ?_;refine Cov.q .ro (.nilCheck rfl rfl) rfl ?_
  refine Cov.q .ro (.fieldAddr 1 rfl fl267_1 ty41.sz rfl) rfl ?_;refine Cov.q .ro (.load_own 0 rfl rfl ty41 rfl) rfl ?_;refine Cov.q .ro (.len_sl rfl rfl sl41) rfl ?_
  obtain ⟨u50, hu50, r51⟩ := bind_some r49; clear r49
  refine Cov.makeR (G := G) (Q := Rep.bool) .ro sl265 ty4 rfl rfl rfl ((Rep.boolI false) :) rfl rfl hu50 rfl rfl (fun b52 cs53 hb52 o54 => ?_)
  refine Cov.toV 0 rfl (fun vb56 po57 va58 vb59 => ?_)
  obtain ⟨u60, hu60, r61⟩ := bind_some r51; clear r51
  refine Cov.pullS 1 rfl [_, _] rfl ?_
  refine Cov.callS (b1 := [_]) (b2 := []) (s1 := [_, _]) [_, _, _] [] .ro rfl rfl Tryz.call156 rfl rfl (cuckoo_placing_place_c (G := G) List.mem_cons_self s0_0 va39 o38 s0_2 va58 o54 hu60) rfl (fun v63 bo so h62 => ?_)
  obtain ⟨cs64, cs67, rfl, rfl, rfl, o65, hl66, o68, hl69⟩ := h62
  refine Cov.same (bl' := [_]) (sl' := [_, _]) rfl rfl rfl ?_
  have va72 := VA.call va39 o38 o65 hl66
  refine Cov.ofV 1 rfl vb59 hl69 o68 rfl ?_;refine Cov.reval 21 hl66 rfl ?_;refine Cov.recell 0 [_, .slice a0_1 u60.2.1.length k0_1, _] rfl (by rw [hl66]) [_] rfl ?_;refine Cov.reval 23 hl69 rfl ?_;refine Cov.q .ro (.not rfl) rfl ?_;refine Cov.region_end ?_;refine Cov.prune [(5, _), (0, _), (25, _)] ⟨rfl, rfl, rfl, trivial⟩ ?_
  refine Cov.cond rfl (fun c73 => ?_) (fun c73 => ?_)
  ·have r74 := ifT r61 c73; clear r61
   refine Cov.seq ?_;refine Cov.region rfl ?_;refine Cov.q .ro (.assign rfl) rfl ?_;refine Cov.region_end ?_
   cases r74
   refine Cov.pullS 1 rfl [_, _] rfl ?_;refine Cov.drop 0 1 _ [_] rfl rfl ?_
   refine Cov.retS (c := ⟨114, none⟩) (.inr ⟨_, rfl⟩) [.tmp 4] [_] rfl Tryz.func114 Tryz.results114 ⟨RV.tmp rfl, trivial⟩ (fun _ h => List.mem_cons_of_mem _ h) ⟨cs64, rfl, rfl, rfl, o65, (hl66.trans hl40)⟩
  ·have r75 := ifBF r61 c73; clear r61
   refine Cov.skip ?_;refine Cov.inBlock ?_;refine Cov.region rfl ?_;refine Cov.q .ro (.move rfl) rfl ?_;refine Cov.q .ro (.addw rfl rfl) rfl ?_;refine Cov.q .ro (.assign rfl) rfl ?_;refine Cov.region_end ?_;refine Cov.pullS 1 rfl [_, _] rfl ?_;refine Cov.drop 0 1 _ [_] rfl rfl ?_
   refine Cov.prune _ ?_ (Cov.same rfl rfl rfl (hb43 (m47, (w64 (v35 + 1)), u60.2.1, cs64) ⟨o65, va72, (hl66.trans hl40), r75⟩ (Nat.lt_succ_self _)))
   exact ⟨rfl, rfl, trivial⟩
 ·have r76 := ifF r46 c48; clear r46
  refine Cov.exit rfl ?_;refine Cov.seq ?_;refine Cov.region rfl ?_;refine Cov.q .ro (.assign rfl) rfl ?_;refine Cov.region_end ?_
  cases r76
  refine Cov.retS (c := ⟨114, none⟩) (.inr ⟨_, rfl⟩) [.tmp 4] [_] rfl Tryz.func114 Tryz.results114 ⟨RV.tmp rfl, trivial⟩ (fun _ h => List.mem_cons_of_mem _ h) ⟨cs37, rfl, rfl, rfl, o38, hl40⟩
set_option maxHeartbeats 4000000 in
set_option maxRecDepth 100000 in
theorem cuckoo_Failures_f1_R_c (n : Nat) : ∀ {Fs : List Hp} {G : Hp} {a0 : Option Addr} {k0 : Nat} {x0 : List Int} {cc0 : List Value} {x1 : Int} {p2 : Value} {x2 : Int} {p3 : Nat} {x3 : Int} {p4 : Value} {x4_0 : Int} {a4_1 : Option Addr} {k4_1 : Nat} {x4_1 : List (Int × Int)} {p5 : Nat} {x5 : Int} {p6 : Value} {x6 : Int} {p7 : Value} {r : (Int × Int)} (hG : G ∈ Fs) (oo0 : OL (Rep.int .i64) G cc0 x0) (hp2 : Rp G p2 [.int .i64 x2]) (hp4 : Rp G p4 [.int .i64 x4_0, .slice a4_1 x4_1.length k4_1]) (s4_1 : SlR (Rep.pair (Rep.int .i64) (Rep.int .i64)) G a4_1 k4_1 x4_1) (hp6 : Rp G p6 [.int .i64 x6]) (hp7 : Rp G p7 [.func (.func 112) #[] #[p2, .pointer (some ⟨p3, 0, none⟩), p4, .pointer (some ⟨p5, 0, none⟩), p6, p7]]) (h : cuckoo_Failures_f1_R n x0 x1 x2 x3 (x4_0, x4_1) x5 x6 = some r), RetS Tryz.prog 112 #[.slice a0 x0.length k0, .int .i64 x1, p2, .pointer (some ⟨p3, 0, none⟩), p4, .pointer (some ⟨p5, 0, none⟩), p6, p7] Fs [(p3, .cells #[.int .i64 x3] 3 (0, 0)), (p5, .cells #[.int .i64 x5] 3 (0, 0))] [.s (.slice a0 x0.length k0) 3 1 x0.length cc0] (fun v bo so => v = .tuple #[] ∧ bo = [(p3, .cells #[.int .i64 r.1] 3 (0, 0)), (p5, .cells #[.int .i64 r.2] 3 (0, 0))] ∧ so = [.s (.slice a0 x0.length k0) 3 1 x0.length cc0]) := by
 induction n with
 | zero => intro Fs G a0 k0 x0 cc0 x1 p2 x2 p3 x3 p4 x4_0 a4_1 k4_1 x4_1 p5 x5 p6 x6 p7 r hG oo0 hp2 hp4 s4_1 hp6 hp7 h; exact absurd h (by unfold cuckoo_Failures_f1_R; simp)
 | succ n ih =>
  intro Fs G a0 k0 x0 cc0 x1 p2 x2 p3 x3 p4 x4_0 a4_1 k4_1 x4_1 p5 x5 p6 x6 p7 r hG oo0 hp2 hp4 s4_1 hp6 hp7 h
  unfold cuckoo_Failures_f1_R at h
  unfold cuckoo_Failures_f1_B2 at h
  try dsimp only at h
  refine RetS.of (vs := [_, _, _, _, _, _, _, _]) Tryz.func112 rfl Tryz.ntmps112 [(0, _), (1, _), (2, _), (3, _), (4, _), (5, _), (6, _), (7, _)] ⟨rfl, rfl, rfl, rfl, rfl, rfl, rfl, rfl, trivial⟩ rfl hG fun w0 S0 hS0 B0 => ?_
  refine Cov.seq ?_;refine Cov.seq ?_;refine Cov.region rfl ?_;refine Cov.q .ro (.move rfl) rfl ?_;refine Cov.q .ro (.len_sl rfl rfl sl41) rfl ?_;refine Cov.q .ro (.load_rp hp2 List.mem_cons_self rfl ty3 rfl) rfl ?_;refine Cov.q .ro (.eql rfl rfl) rfl ?_;refine Cov.region_end ?_
  refine Cov.cond_dec rfl (fun c2 => ?_) (fun c2 => ?_)
  ·have r3 := ifT h c2; clear h
   refine Cov.seq ?_;refine Cov.region rfl ?_;refine Cov.q .ro (.load_own 0 rfl rfl ty3 rfl) rfl ?_;refine Cov.q .ro (.addw rfl rfl) rfl ?_;refine Cov.store 0 [_] [_, _] .ro rfl rfl rfl ty3 rfl rfl rfl rfl ?_;refine Cov.region_end ?_;refine Cov.seq ?_;refine Cov.seq ?_;refine Cov.region rfl ?_
   refine Cov.q .ro (.load_rp hp2 List.mem_cons_self rfl ty3 rfl) rfl ?_;refine Cov.q .ro (.fieldAddr_rp hp4 rfl fl73_0 ty3.sz) rfl ?_;refine Cov.q .ro (.load_rp (hp4.add _) List.mem_cons_self rfl ty3 rfl) rfl ?_;refine Cov.q .ro (.gtr rfl rfl) rfl ?_;refine Cov.q .ro (.move rfl) rfl ?_
   obtain ⟨u46, h47, r48⟩ := bind_some r3; clear r3
   refine Cov.cutR 6 (β := Unit) (fun y => [(27, .bool u46)]) [(2, _), (3, _), (4, _), (5, _), (6, _), (7, _)] (fun y => G :: Fs) (fun y => []) [_, _] (fun y => []) [_] (fun y => True) ⟨rfl, rfl, rfl, rfl, rfl, rfl, trivial⟩ [0, 1] rfl [0] rfl ?_ ?_
   ·rintro _ _
    refine Cov.prune [(27, .bool u46), (2, _), (3, _), (4, _), (5, _), (6, _), (7, _)] ⟨rfl, rfl, rfl, rfl, rfl, rfl, rfl, trivial⟩ ?_;refine Cov.same (bl' := [_, _]) (sl' := [_]) (Fs' := G :: Fs) rfl rfl rfl ?_;refine Cov.region_end ?_
    refine Cov.cond rfl (fun c51 => ?_) (fun c51 => ?_)
    ·have r52 := ifT r48 c51; clear r48
     refine Cov.region rfl ?_;refine Cov.q .ro (.load_own 1 rfl rfl ty3 rfl) rfl ?_;refine Cov.q .ro (.addw rfl rfl) rfl ?_;refine Cov.store 1 [_] [_, _] .ro rfl rfl rfl ty3 rfl rfl rfl rfl ?_;refine Cov.region_end ?_
     cases r52
     refine Cov.retS (c := ⟨112, none⟩) (.inr ⟨_, rfl⟩) [] [] rfl Tryz.func112 Tryz.results112 trivial (fun _ h => List.mem_cons_of_mem _ h) ⟨rfl, rfl, rfl⟩
    ·have r53 := ifBF r48 c51; clear r48
     refine Cov.skip ?_
     cases r53
     refine Cov.retS (c := ⟨112, none⟩) (.inr ⟨_, rfl⟩) [] [] rfl Tryz.func112 Tryz.results112 trivial (fun _ h => List.mem_cons_of_mem _ h) ⟨rfl, rfl, rfl⟩
   ·intro hb45
    refine Cov.split 21 rfl (fun c44 => ?_) (fun c44 => ?_)
    ·have r54 := ifT h47 c44
     refine Cov.g_off rfl rfl rfl ?_;refine Cov.g_off rfl rfl rfl ?_;refine Cov.g_off rfl rfl rfl ?_;refine Cov.g_off rfl rfl rfl ?_;refine Cov.g_off rfl rfl rfl ?_;refine Cov.q .ro (.pick_t rfl rfl) rfl ?_
     refine Cov.prune _ ?_ (Cov.same rfl rfl rfl (hb45 () trivial))
     exact ⟨sval r54, rfl, rfl, rfl, rfl, rfl, rfl, trivial⟩
    ·have r55 := ifF h47 c44
     refine Cov.g_on rfl ?_;refine Cov.q .ro (.load_rp_a [_, _] hp4 List.mem_cons_self rfl ty73 rfl) rfl ?_;refine Cov.g_on rfl ?_;refine Cov.q .ro (.move rfl) rfl ?_;refine Cov.g_on rfl ?_
     refine Cov.openB (sB := [_]) (s2 := []) rfl B0 (fun G56 e57 B58 hr59 hc60 => ?_)
     have s62 := SlR.rd oo0 rfl e57 (hr59 _ (List.mem_of_getElem? (i := 0) rfl))
     obtain ⟨u63, hu63, r64⟩ := bind_some r55; clear r55
     refine Cov.callW (b1 := []) (b2 := [_, _]) (s1 := []) [_, _] [] .ro rfl rfl Tryz.call113 rfl rfl (cuckoo_start_c (G := G56) List.mem_cons_self (SlR.mono e57 s4_1) s62 hu63) rfl B58 (fun v66 bo so G67 e68 B69 h65 => ?_)
     obtain ⟨a72, k73, a80, k81, a76, k77, cs78, b71, rfl, rfl, rfl, s74, s82, o79⟩ := h65
     refine Cov.same (bl' := [_, _, _]) (sl' := [_]) rfl rfl rfl ?_;refine Cov.g_on rfl ?_
     refine Cov.toV 0 rfl (fun vb83 po84 va85 vb86 => ?_)
     obtain ⟨u87, hu87, r88⟩ := bind_some r64; clear r64
     refine Cov.callS (b1 := [_]) (b2 := [_, _]) (s1 := [_]) [_, _] [] .ro rfl rfl Tryz.call114 rfl rfl (cuckoo_placing_all_c (G := G67) List.mem_cons_self s74 va85 o79 s82 hu87) rfl (fun v90 bo so h89 => ?_)
     obtain ⟨cs91, rfl, rfl, rfl, o92, hl93⟩ := h89
     refine Cov.same (bl' := [_, _, _]) (sl' := [_]) rfl rfl rfl ?_;refine Cov.ofV 0 rfl vb86 hl93 o92 rfl ?_;refine Cov.recell 0 [_, .slice a76 u87.2.length k77, _] rfl (by rw [hl93]) [_, _, _] rfl ?_;refine Cov.g_on rfl ?_;refine Cov.q .ro (.not rfl) rfl ?_;refine Cov.q .ro (.pick_f rfl rfl) rfl ?_
     have o95 := OL.flat (G := G) (Rep.flat_int _) o92
     refine hc60 _ _ _ _ _ _ e68 ?_
     refine Cov.drop 1 0 [_, _] _ rfl rfl ?_;refine Cov.pullS 1 rfl [_, _] rfl ?_;refine Cov.drop 0 1 _ [_] rfl rfl ?_
     refine Cov.prune _ ?_ (Cov.same rfl rfl rfl (hb45 () trivial))
     exact ⟨sval r88, rfl, rfl, rfl, rfl, rfl, rfl, trivial⟩
  ·have r96 := ifF h c2; clear h
   refine Cov.skip ?_;refine Cov.seq ?_;refine Cov.region rfl ?_;refine Cov.q .ro (.move rfl) rfl ?_;refine Cov.q .ro (.assign rfl) rfl ?_;refine Cov.region_end ?_;refine Cov.block ?_;refine Cov.pull 1 rfl [_, _] rfl ?_;refine Cov.pull 1 rfl [_, _] rfl ?_
   refine Cov.loop2 (α := Nat × Hp × Int × Int × Int) (fun y => [(10, .int .i64 y.2.2.1)]) [(0, _), (2, _), (3, _), (4, _), (5, _), (6, _), (7, _)] (fun y => [y.2.1]) (fun y => [(p3, .cells #[.int .i64 y.2.2.2.1] 3 (0, 0)), (p5, .cells #[.int .i64 y.2.2.2.2] 3 (0, 0))]) [] (fun y => []) [_] (fun y => HpLe G y.2.1 ∧ Bd w0 S0 Fs y.2.1 ∧ cuckoo_Failures_f1_L1 (cuckoo_Failures_f1_R n) x2 x4_0 x4_1 x6 x0 y.1 y.2.2.1 y.2.2.2.1 y.2.2.2.2 = some r) (fun y => y.1) (big, G, x1, x3, x5) ⟨(HpLe.refl _), B0, r96⟩ ⟨rfl, rfl, rfl, rfl, rfl, rfl, rfl, rfl, trivial⟩ rfl rfl rfl (fun y hI hb135 => ?_)
   obtain ⟨n125, G127, v131, v132, v133⟩ := y
   obtain ⟨e128, B129, r134⟩ := hI
   try dsimp only at e128 B129 r134
   refine Cov.prune [(10, .int .i64 v131), (0, _), (2, _), (3, _), (4, _), (5, _), (6, _), (7, _)] ⟨rfl, rfl, rfl, rfl, rfl, rfl, rfl, rfl, trivial⟩ ?_;refine Cov.same (bl' := [(p3, .cells #[.int .i64 v132] 3 (0, 0)), (p5, .cells #[.int .i64 v133] 3 (0, 0))]) (sl' := [_]) (Fs' := G127 :: Fs) rfl rfl rfl ?_
   obtain ⟨m142, rfl⟩ : ∃ m, n125 = m + 1 := by cases n125 with | zero => exact absurd (show (none : Option _) = some _ from r134) (by simp) | succ m => exact ⟨m, rfl⟩
   have r141 : cuckoo_Failures_f1_B1 (cuckoo_Failures_f1_R n) x2 x4_0 x4_1 x6 x0 (cuckoo_Failures_f1_L1 (cuckoo_Failures_f1_R n) x2 x4_0 x4_1 x6 x0 m142) v131 v132 v133 = some r := r134; clear r134; unfold cuckoo_Failures_f1_B1 at r141; try dsimp only at r141
   refine Cov.seq ?_;refine Cov.seq ?_;refine Cov.region rfl ?_;refine Cov.q .ro (.move rfl) rfl ?_;refine Cov.q .ro (.load_rp (Rp.mono e128 hp6) List.mem_cons_self rfl ty3 rfl) rfl ?_;refine Cov.q .ro (.load_rp (Rp.mono e128 hp2) List.mem_cons_self rfl ty3 rfl) rfl ?_;refine Cov.q .ro (.move rfl) rfl ?_;refine Cov.q .ro (.len_sl rfl rfl sl41) rfl ?_;refine Cov.q .ro (.subw rfl rfl) rfl ?_
   refine Cov.q .ro (.subw rfl rfl) rfl ?_;refine Cov.q .ro (.leq rfl rfl) rfl ?_;refine Cov.region_end ?_
   refine Cov.cond_dec rfl (fun c143 => ?_) (fun c143 => ?_)
   ·have r144 := ifT r141 c143; clear r141
    refine Cov.skip ?_;refine Cov.seq ?_;refine Cov.block ?_;refine Cov.drawL (.q 0 (.q 1 (.q 2 (.q 5 (.q 6 (.e 3 1 (.e 4 1 (.e 7 2 .nil)))))))) [_, _] (by kernel_rfl) (by kernel_rfl) (pick_mem [0, 1] rfl) ?_;refine Cov.dq (.load_rp (Rp.mono e128 hp7) List.mem_cons_self rfl ty204 rfl) rfl ?_;refine Cov.dq (.move rfl) rfl ?_;refine Cov.dq (.move rfl) rfl ?_;refine Cov.dq (.move rfl) rfl ?_;refine Cov.dq (.addw rfl rfl) rfl ?_
    refine Cov.lit [_] [(0, _)] .d1 sl41 ty3 rfl rfl rfl rfl rfl rfl (fun b145 hb145 => ?_)
    have o146 : OL (Rep.int .i64) G127 [.int .i64 v131] ([v131] : List Int) := ((OL.cons rfl (Rep.intI .i64 v131) (OL.nil (Rp' := (Rep.int .i64)))) :)
    refine Cov.reval 44 (n' := ([v131] : List Int).length) rfl rfl ?_;refine Cov.clsL (HpLe.refl _) (pick_mem [0, 1] rfl) ?_
    refine Cov.freezeR 0 rfl rfl o146 [_] rfl B129 (fun G148 e149 B150 s151 => ?_)
    obtain ⟨u153, hu153, r154⟩ := bind_some r144; clear r144
    refine Cov.appA (Q := (Rep.int .i64)) .d1 sl41 ty3 rfl rfl rfl rfl rfl (OL.mono (HpLe.trans e128 e149) oo0) rfl rfl s151 rfl List.mem_cons_self hu153 rfl (fun a155 k156 cs157 o158 hw159 => ?_)
    refine Cov.clsL e149 (pick_mem [0, 1] rfl) ?_
    obtain ⟨u162, hu162, r163⟩ := bind_some r154; clear r154
    refine Cov.pull 1 rfl [_, _] rfl ?_;refine Cov.pull 1 rfl [_, _] rfl ?_
    refine Cov.callS (b1 := [_, _]) (b2 := []) (s1 := [_]) [_, _] [_, _, _, _, _, _] .d2 rfl rfl Tryz.call112 rfl rfl (ih (G := G148) List.mem_cons_self o158 (Rp.mono (HpLe.trans e128 e149) hp2) (Rp.mono (HpLe.trans e128 e149) hp4) (SlR.mono (HpLe.trans e128 e149) s4_1) (Rp.mono (HpLe.trans e128 e149) hp6) (Rp.mono (HpLe.trans e128 e149) hp7) hu162) rfl (fun v165 bo so h164 => ?_)
    obtain ⟨rfl, rfl, rfl⟩ := h164
    refine Cov.same (bl' := [_, _]) (sl' := [_, _]) rfl rfl rfl ?_;refine Cov.pullS 1 rfl [_, _] rfl ?_;refine Cov.pullS 1 rfl [_, _] rfl ?_
    refine hw159 _ _ _ _ _ ?_
    refine Cov.draw_end ?_;refine Cov.prune [(10, _), (0, _), (2, _), (3, _), (4, _), (5, _), (6, _), (7, _)] ⟨rfl, rfl, rfl, rfl, rfl, rfl, rfl, rfl, trivial⟩ ?_;refine Cov.inBlock ?_;refine Cov.region rfl ?_;refine Cov.q .ro (.move rfl) rfl ?_;refine Cov.q .ro (.addw rfl rfl) rfl ?_;refine Cov.q .ro (.assign rfl) rfl ?_;refine Cov.region_end ?_
    refine Cov.prune _ ?_ (Cov.same rfl rfl rfl (hb135 (m142, G148, (w64 (v131 + 1)), u162.1, u162.2) ⟨(HpLe.trans e128 e149), B150, r163⟩ (Nat.lt_succ_self _)))
    exact ⟨rfl, rfl, rfl, rfl, rfl, rfl, rfl, rfl, trivial⟩
   ·have r166 := ifF r141 c143; clear r141
    refine Cov.exit rfl ?_
    cases r166
    refine Cov.retS (c := ⟨112, none⟩) (.inl rfl) [] [] rfl Tryz.func112 Tryz.results112 trivial (fun _ h => List.mem_cons_of_mem _ h) ⟨rfl, rfl, rfl⟩
theorem cuckoo_Failures_f1_c {Fs : List Hp} {G : Hp} {a0 : Option Addr} {k0 : Nat} {x0 : List Int} {cc0 : List Value} {x1 : Int} {p2 : Value} {x2 : Int} {p3 : Nat} {x3 : Int} {p4 : Value} {x4_0 : Int} {a4_1 : Option Addr} {k4_1 : Nat} {x4_1 : List (Int × Int)} {p5 : Nat} {x5 : Int} {p6 : Value} {x6 : Int} {p7 : Value} {r : (Int × Int)} (hG : G ∈ Fs) (oo0 : OL (Rep.int .i64) G cc0 x0) (hp2 : Rp G p2 [.int .i64 x2]) (hp4 : Rp G p4 [.int .i64 x4_0, .slice a4_1 x4_1.length k4_1]) (s4_1 : SlR (Rep.pair (Rep.int .i64) (Rep.int .i64)) G a4_1 k4_1 x4_1) (hp6 : Rp G p6 [.int .i64 x6]) (hp7 : Rp G p7 [.func (.func 112) #[] #[p2, .pointer (some ⟨p3, 0, none⟩), p4, .pointer (some ⟨p5, 0, none⟩), p6, p7]]) (h : cuckoo_Failures_f1 x0 x1 x2 x3 (x4_0, x4_1) x5 x6 = some r) : RetS Tryz.prog 112 #[.slice a0 x0.length k0, .int .i64 x1, p2, .pointer (some ⟨p3, 0, none⟩), p4, .pointer (some ⟨p5, 0, none⟩), p6, p7] Fs [(p3, .cells #[.int .i64 x3] 3 (0, 0)), (p5, .cells #[.int .i64 x5] 3 (0, 0))] [.s (.slice a0 x0.length k0) 3 1 x0.length cc0] (fun v bo so => v = .tuple #[] ∧ bo = [(p3, .cells #[.int .i64 r.1] 3 (0, 0)), (p5, .cells #[.int .i64 r.2] 3 (0, 0))] ∧ so = [.s (.slice a0 x0.length k0) 3 1 x0.length cc0]) := by
 unfold cuckoo_Failures_f1 at h
 exact cuckoo_Failures_f1_R_c big hG oo0 hp2 hp4 s4_1 hp6 hp7 h
set_option maxHeartbeats 4000000 in
set_option maxRecDepth 100000 in
theorem cuckoo_Failures_c {Fs : List Hp} {G : Hp} {x0_0 : Int} {a0_1 : Option Addr} {k0_1 : Nat} {x0_1 : List (Int × Int)} {x1 : Int} {x2 : Int} {r : (Int × Int × Int)} (hG : G ∈ Fs) (s0_1 : SlR (Rep.pair (Rep.int .i64) (Rep.int .i64)) G a0_1 k0_1 x0_1) (h : cuckoo_Failures (x0_0, x0_1) x1 x2 = some r) : RetS Tryz.prog 58 #[.agg #[.int .i64 x0_0, .slice a0_1 x0_1.length k0_1], .int .i64 x1, .int .i64 x2] Fs [] [] (fun v bo so => v = .tuple #[.int .i64 r.1, .int .i64 r.2.1, .int .i64 r.2.2] ∧ bo = [] ∧ so = []) := by
 unfold cuckoo_Failures at h
 try dsimp only at h
 refine RetS.of (vs := [_, _, _]) Tryz.func58 rfl Tryz.ntmps58 [(0, _), (1, _), (2, _)] ⟨rfl, rfl, rfl, trivial⟩ rfl hG fun w0 S0 hS0 B0 => ?_
 refine Cov.seq ?_;refine Cov.region rfl ?_
 refine Cov.box [_, _] .ro rfl rfl rfl (fun b1 hb1 => ?_)
 refine Cov.box [_] .ro rfl rfl rfl (fun b2 hb2 => ?_)
 refine Cov.box [_] .ro rfl rfl rfl (fun b3 hb3 => ?_)
 refine Cov.q .ro (.assign rfl) rfl ?_;refine Cov.q .ro (.assign rfl) rfl ?_;refine Cov.q .ro (.assign rfl) rfl ?_;refine Cov.region_end ?_;refine Cov.seq ?_;refine Cov.seq ?_;refine Cov.region rfl ?_;refine Cov.q .ro (.load_own_a 2 [_, _] rfl rfl ty73 rfl) rfl ?_
 obtain ⟨u4, hu4, r5⟩ := bind_some h; clear h
 refine Cov.callS (b1 := []) (b2 := [_, _, _]) (s1 := []) [_] [] .ro rfl rfl Tryz.call60 rfl rfl (cuckoo_Check_c (G := G) List.mem_cons_self s0_1 hu4) rfl (fun v7 bo so h6 => ?_)
 obtain ⟨rfl, rfl, rfl⟩ := h6
 refine Cov.same (bl' := [_, _, _]) (sl' := []) rfl rfl rfl ?_;refine Cov.q .ro (.assign rfl) rfl ?_;refine Cov.region_end ?_;refine Cov.seq ?_;refine Cov.region rfl ?_;refine Cov.q .ro (.move rfl) rfl ?_;refine Cov.q .ro (.neq rfl rfl) rfl ?_;refine Cov.region_end ?_
 refine Cov.cond_dec rfl (fun c8 => ?_) (fun c8 => ?_)
 ·have r9 := ifT r5 c8; clear r5
  refine Cov.seq ?_;refine Cov.region rfl ?_;refine Cov.q .ro (.move rfl) rfl ?_;refine Cov.q .ro (.assign rfl) rfl ?_;refine Cov.q .ro (.assign rfl) rfl ?_;refine Cov.q .ro (.assign rfl) rfl ?_;refine Cov.region_end ?_
  cases r9
  refine Cov.drop 3 0 [] _ rfl rfl ?_
  refine Cov.retS (c := ⟨58, none⟩) (.inr ⟨_, rfl⟩) [.tmp 6, .tmp 7, .tmp 8] [_, _, _] rfl Tryz.func58 Tryz.results58 ⟨RV.tmp rfl, RV.tmp rfl, RV.tmp rfl, trivial⟩ (fun _ h => List.mem_cons_of_mem _ h) ⟨rfl, rfl, rfl⟩
 ·have r10 := ifF r5 c8; clear r5
  refine Cov.skip ?_;refine Cov.seq ?_;refine Cov.seq ?_;refine Cov.region rfl ?_;refine Cov.q .ro (.load_own 1 rfl rfl ty3 rfl) rfl ?_;refine Cov.q .ro (.lss rfl rfl) rfl ?_;refine Cov.q .ro (.move rfl) rfl ?_;refine Cov.cutR 3 (β := Unit) (fun y => [(23, .bool (decide ((x1 < 0) ∨ (1024 < x1))))]) [(3, _), (4, _), (5, _)] (fun y => G :: Fs) (fun y => []) [_, _, _] (fun y => []) [] (fun y => True) ⟨rfl, rfl, rfl, trivial⟩ [0, 1, 2] rfl [] rfl ?_ ?_
  ·rintro _ _
   refine Cov.prune [(23, .bool (decide ((x1 < 0) ∨ (1024 < x1)))), (3, _), (4, _), (5, _)] ⟨rfl, rfl, rfl, rfl, trivial⟩ ?_;refine Cov.same (bl' := [_, _, _]) (sl' := []) (Fs' := G :: Fs) rfl rfl rfl ?_;refine Cov.q .ro (.move rfl) rfl ?_;refine Cov.cutR 3 (β := Unit) (fun y => [(27, .bool (decide (((x1 < 0) ∨ (1024 < x1)) ∨ (x2 < 0))))]) [(3, _), (4, _), (5, _)] (fun y => G :: Fs) (fun y => []) [_, _, _] (fun y => []) [] (fun y => True) ⟨rfl, rfl, rfl, trivial⟩ [0, 1, 2] rfl [] rfl ?_ ?_
   ·rintro _ _
    refine Cov.prune [(27, .bool (decide (((x1 < 0) ∨ (1024 < x1)) ∨ (x2 < 0)))), (3, _), (4, _), (5, _)] ⟨rfl, rfl, rfl, rfl, trivial⟩ ?_;refine Cov.same (bl' := [_, _, _]) (sl' := []) (Fs' := G :: Fs) rfl rfl rfl ?_;refine Cov.q .ro (.move rfl) rfl ?_;refine Cov.cutR 4 (β := Unit) (fun y => [(32, .bool (decide ((((x1 < 0) ∨ (1024 < x1)) ∨ (x2 < 0)) ∨ (x1 < x2))))]) [(3, _), (4, _), (5, _)] (fun y => G :: Fs) (fun y => []) [_, _, _] (fun y => []) [] (fun y => True) ⟨rfl, rfl, rfl, trivial⟩ [0, 1, 2] rfl [] rfl ?_ ?_
    ·rintro _ _
     refine Cov.prune [(32, .bool (decide ((((x1 < 0) ∨ (1024 < x1)) ∨ (x2 < 0)) ∨ (x1 < x2)))), (3, _), (4, _), (5, _)] ⟨rfl, rfl, rfl, rfl, trivial⟩ ?_;refine Cov.same (bl' := [_, _, _]) (sl' := []) (Fs' := G :: Fs) rfl rfl rfl ?_;refine Cov.region_end ?_
     refine Cov.cond_dec rfl (fun c23 => ?_) (fun c23 => ?_)
     ·have r24 := ifT r10 c23; clear r10
      refine Cov.seq ?_;refine Cov.region rfl ?_;refine Cov.q .ro (.assign rfl) rfl ?_;refine Cov.q .ro (.assign rfl) rfl ?_;refine Cov.q .ro (.assign rfl) rfl ?_;refine Cov.region_end ?_
      cases r24
      refine Cov.drop 3 0 [] _ rfl rfl ?_
      refine Cov.retS (c := ⟨58, none⟩) (.inr ⟨_, rfl⟩) [.tmp 6, .tmp 7, .tmp 8] [_, _, _] rfl Tryz.func58 Tryz.results58 ⟨RV.tmp rfl, RV.tmp rfl, RV.tmp rfl, trivial⟩ (fun _ h => List.mem_cons_of_mem _ h) ⟨rfl, rfl, rfl⟩
     ·have r25 := ifF r10 c23; clear r10
      refine Cov.skip ?_;refine Cov.seq ?_;refine Cov.seq ?_;refine Cov.region rfl ?_;refine Cov.q .ro (.load_own 1 rfl rfl ty3 rfl) rfl ?_;refine Cov.q .ro (.load_own 0 rfl rfl ty3 rfl) rfl ?_
      obtain ⟨u26, hu26, r27⟩ := bind_some r25; clear r25
      refine Cov.callS (b1 := []) (b2 := [_, _, _]) (s1 := []) [_, _] [] .ro rfl rfl Tryz.call111 rfl rfl (cuckoo_sets_c (G := G) List.mem_cons_self  hu26) rfl (fun v29 bo so h28 => ?_)
      obtain ⟨rfl, rfl, rfl⟩ := h28
      refine Cov.same (bl' := [_, _, _]) (sl' := []) rfl rfl rfl ?_;refine Cov.q .ro (.gtr rfl rfl) rfl ?_;refine Cov.region_end ?_
      refine Cov.cond_dec rfl (fun c30 => ?_) (fun c30 => ?_)
      ·have r31 := ifT r27 c30; clear r27
       refine Cov.seq ?_;refine Cov.region rfl ?_;refine Cov.q .ro (.assign rfl) rfl ?_;refine Cov.q .ro (.assign rfl) rfl ?_;refine Cov.q .ro (.assign rfl) rfl ?_;refine Cov.region_end ?_
       cases r31
       refine Cov.drop 3 0 [] _ rfl rfl ?_
       refine Cov.retS (c := ⟨58, none⟩) (.inr ⟨_, rfl⟩) [.tmp 6, .tmp 7, .tmp 8] [_, _, _] rfl Tryz.func58 Tryz.results58 ⟨RV.tmp rfl, RV.tmp rfl, RV.tmp rfl, trivial⟩ (fun _ h => List.mem_cons_of_mem _ h) ⟨rfl, rfl, rfl⟩
      ·have r32 := ifF r27 c30; clear r27
       refine Cov.skip ?_;refine Cov.seq ?_;refine Cov.region rfl ?_
       refine Cov.alloc .ro ty3 rfl (fun b33 hb33 => ?_)
       refine Cov.alloc .ro ty3 rfl (fun b34 hb34 => ?_)
       refine Cov.store 1 [_] [_, _, _, _, _] .ro rfl rfl rfl ty3 rfl rfl rfl rfl ?_;refine Cov.store 0 [_] [_, _, _, _, _] .ro rfl rfl rfl ty3 rfl rfl rfl rfl ?_;refine Cov.region_end ?_;refine Cov.seq ?_;refine Cov.region rfl ?_
       refine Cov.alloc .ro ty204 rfl (fun b35 hb35 => ?_)
       refine Cov.region_end ?_;refine Cov.seq ?_;refine Cov.region rfl ?_;refine Cov.q .ro (.makeFunc (vf := []) (vc := [_, _, _, _, _, _]) rfl rfl) rfl ?_;refine Cov.store 0 [_] [_, _, _, _, _, _] .ro rfl rfl rfl ty204 rfl rfl rfl rfl ?_;refine Cov.region_end ?_;refine Cov.seq ?_;refine Cov.region rfl ?_;refine Cov.q .ro (.load_own 0 rfl rfl ty204 rfl) rfl ?_
       refine Cov.own_nil 3 1 ?_
       refine Cov.freezeBR 3 rfl [_, _, _, _, _] rfl B0 (fun G37 e38 B39 p40 => ?_)
       refine Cov.freezeBR 4 rfl [_, _, _, _] rfl B39 (fun G42 e43 B44 p45 => ?_)
       refine Cov.freezeBR 3 rfl [_, _, _] rfl B44 (fun G47 e48 B49 p50 => ?_)
       refine Cov.freezeBR 0 rfl [_, _] rfl B49 (fun G52 e53 B54 p55 => ?_)
       obtain ⟨u57, hu57, r58⟩ := bind_some r32; clear r32
       refine Cov.pull 1 rfl [_, _] rfl ?_;refine Cov.pull 1 rfl [_, _] rfl ?_
       refine Cov.callS (b1 := [_, _]) (b2 := []) (s1 := [_]) [_, _] [_, _, _, _, _, _] .ro rfl rfl Tryz.call112 rfl rfl (cuckoo_Failures_f1_c (G := G52) List.mem_cons_self (OL.mono (HpLe.trans (HpLe.trans (HpLe.trans e38 e43) e48) e53) (OL.nil (Rp' := (Rep.int .i64)))) (Rp.mono (HpLe.trans (HpLe.trans e43 e48) e53) p40) (Rp.mono (HpLe.trans e48 e53) p45) (SlR.mono (HpLe.trans (HpLe.trans (HpLe.trans e38 e43) e48) e53) s0_1) (Rp.mono e53 p50) p55 hu57) rfl (fun v60 bo so h59 => ?_)
       obtain ⟨rfl, rfl, rfl⟩ := h59
       refine Cov.same (bl' := [_, _]) (sl' := [_]) rfl rfl rfl ?_;refine Cov.region_end ?_;refine Cov.seq ?_;refine Cov.drawL (.q 0 (.q 1 (.q 2 (.q 3 (.q 4 .nil))))) [_, _] (by kernel_rfl) (by kernel_rfl) (pick_mem [0, 1] rfl) ?_;refine Cov.dq (.load_own 1 rfl rfl ty3 rfl) rfl ?_;refine Cov.dq (.load_own 0 rfl rfl ty3 rfl) rfl ?_;refine Cov.dq (.assign rfl) rfl ?_;refine Cov.dq (.assign rfl) rfl ?_;refine Cov.dq (.assign rfl) rfl ?_
       refine Cov.draw_end ?_;refine Cov.prune [(6, _), (7, _), (8, _)] ⟨rfl, rfl, rfl, trivial⟩ ?_
       cases r58
       refine Cov.drop 2 0 [] _ rfl rfl ?_;refine Cov.drop 0 1 _ [] rfl rfl ?_
       refine Cov.retS (c := ⟨58, none⟩) (.inr ⟨_, rfl⟩) [.tmp 6, .tmp 7, .tmp 8] [_, _, _] rfl Tryz.func58 Tryz.results58 ⟨RV.tmp rfl, RV.tmp rfl, RV.tmp rfl, trivial⟩ (fun _ h => List.mem_cons_of_mem _ h) ⟨rfl, rfl, rfl⟩
    ·intro hb20
     refine Cov.split 28 rfl (fun c19 => ?_) (fun c19 => ?_)
     ·refine Cov.g_off rfl rfl rfl ?_
      refine Cov.g_off rfl rfl rfl ?_;refine Cov.g_off rfl rfl rfl ?_;refine Cov.q .ro (.pick_t rfl rfl) rfl ?_
      refine Cov.prune _ ?_ (Cov.same rfl rfl rfl (hb20 () trivial))
      exact ⟨dor_t c19, rfl, rfl, rfl, trivial⟩
     ·refine Cov.g_on rfl ?_
      refine Cov.q .ro (.load_own 0 rfl rfl ty3 rfl) rfl ?_;refine Cov.g_on rfl ?_;refine Cov.q .ro (.load_own 1 rfl rfl ty3 rfl) rfl ?_;refine Cov.g_on rfl ?_;refine Cov.q .ro (.gtr rfl rfl) rfl ?_;refine Cov.q .ro (.pick_f rfl rfl) rfl ?_
      refine Cov.prune _ ?_ (Cov.same rfl rfl rfl (hb20 () trivial))
      exact ⟨dor_f c19, rfl, rfl, rfl, trivial⟩
   ·intro hb16
    refine Cov.split 24 rfl (fun c15 => ?_) (fun c15 => ?_)
    ·refine Cov.g_off rfl rfl rfl ?_
     refine Cov.g_off rfl rfl rfl ?_;refine Cov.q .ro (.pick_t rfl rfl) rfl ?_
     refine Cov.prune _ ?_ (Cov.same rfl rfl rfl (hb16 () trivial))
     exact ⟨dor_t c15, rfl, rfl, rfl, trivial⟩
    ·refine Cov.g_on rfl ?_
     refine Cov.q .ro (.load_own 0 rfl rfl ty3 rfl) rfl ?_;refine Cov.g_on rfl ?_;refine Cov.q .ro (.lss rfl rfl) rfl ?_;refine Cov.q .ro (.pick_f rfl rfl) rfl ?_
     refine Cov.prune _ ?_ (Cov.same rfl rfl rfl (hb16 () trivial))
     exact ⟨dor_f c15, rfl, rfl, rfl, trivial⟩
  ·intro hb12
   refine Cov.split 20 rfl (fun c11 => ?_) (fun c11 => ?_)
   ·refine Cov.g_off rfl rfl rfl ?_
    refine Cov.g_off rfl rfl rfl ?_;refine Cov.q .ro (.pick_t rfl rfl) rfl ?_
    refine Cov.prune _ ?_ (Cov.same rfl rfl rfl (hb12 () trivial))
    exact ⟨dor_t c11, rfl, rfl, rfl, trivial⟩
   ·refine Cov.g_on rfl ?_
    refine Cov.q .ro (.load_own 1 rfl rfl ty3 rfl) rfl ?_;refine Cov.g_on rfl ?_;refine Cov.q .ro (.gtr rfl rfl) rfl ?_;refine Cov.q .ro (.pick_f rfl rfl) rfl ?_
    refine Cov.prune _ ?_ (Cov.same rfl rfl rfl (hb12 () trivial))
    exact ⟨dor_f c11, rfl, rfl, rfl, trivial⟩
set_option maxHeartbeats 4000000 in
set_option maxRecDepth 100000 in
theorem bounds_Failure_c {Fs : List Hp} {G : Hp} {x0_0 : Int} {a0_1 : Option Addr} {k0_1 : Nat} {x0_1 : List (Int × Int)} {x1 : Int} {x2 : Int} {r : (Int × Int × Int)} (hG : G ∈ Fs) (s0_1 : SlR (Rep.pair (Rep.int .i64) (Rep.int .i64)) G a0_1 k0_1 x0_1) (h : bounds_Failure (x0_0, x0_1) x1 x2 = some r) : RetS Tryz.prog 28 #[.agg #[.int .i64 x0_0, .slice a0_1 x0_1.length k0_1], .int .i64 x1, .int .i64 x2] Fs [] [] (fun v bo so => v = .tuple #[.int .i64 r.1, .int .i64 r.2.1, .int .i64 r.2.2] ∧ bo = [] ∧ so = []) := by
 unfold bounds_Failure at h
 try dsimp only at h
 refine RetS.of (vs := [_, _, _]) Tryz.func28 rfl Tryz.ntmps28 [(0, _), (1, _), (2, _)] ⟨rfl, rfl, rfl, trivial⟩ rfl hG fun w0 S0 hS0 B0 => ?_
 refine Cov.seq ?_;refine Cov.region rfl ?_
 refine Cov.box [_, _] .ro rfl rfl rfl (fun b1 hb1 => ?_)
 refine Cov.q .ro (.assign rfl) rfl ?_;refine Cov.q .ro (.assign rfl) rfl ?_;refine Cov.q .ro (.assign rfl) rfl ?_;refine Cov.region_end ?_;refine Cov.seq ?_;refine Cov.region rfl ?_;refine Cov.q .ro (.load_own_a 0 [_, _] rfl rfl ty73 rfl) rfl ?_;refine Cov.q .ro (.move rfl) rfl ?_;refine Cov.q .ro (.move rfl) rfl ?_
 obtain ⟨u2, hu2, r3⟩ := bind_some h; clear h
 refine Cov.callS (b1 := []) (b2 := [_]) (s1 := []) [_, _, _] [] .ro rfl rfl Tryz.call58 rfl rfl (cuckoo_Failures_c (G := G) List.mem_cons_self s0_1 hu2) rfl (fun v5 bo so h4 => ?_)
 obtain ⟨rfl, rfl, rfl⟩ := h4
 refine Cov.same (bl' := [_]) (sl' := []) rfl rfl rfl ?_;refine Cov.q .ro (.extract rfl rfl) rfl ?_;refine Cov.q .ro (.extract rfl rfl) rfl ?_;refine Cov.q .ro (.extract rfl rfl) rfl ?_;refine Cov.q .ro (.assign rfl) rfl ?_;refine Cov.q .ro (.assign rfl) rfl ?_;refine Cov.q .ro (.assign rfl) rfl ?_;refine Cov.region_end ?_
 cases r3
 refine Cov.drop 1 0 [] _ rfl rfl ?_
 refine Cov.retS (c := ⟨28, none⟩) (.inr ⟨_, rfl⟩) [.tmp 6, .tmp 7, .tmp 8] [_, _, _] rfl Tryz.func28 Tryz.results28 ⟨RV.tmp rfl, RV.tmp rfl, RV.tmp rfl, trivial⟩ (fun _ h => List.mem_cons_of_mem _ h) ⟨rfl, rfl, rfl⟩
end Go.Proofs.YtnfalgmfmiolbaaGreat
end
