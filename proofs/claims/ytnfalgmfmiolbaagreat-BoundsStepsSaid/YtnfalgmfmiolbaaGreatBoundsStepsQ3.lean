/- What the proof needs, gathered by wip/gen/shake.py. -/
import Derived.Calls
import Derived.Deep.Quiet
import Derived.Below
import Derived.Laws.AppendOwn
import Derived.WalkKit
import Derived.Laws.OwnMore
import Derived.Deep.Slices
import Derived.ChangeOld
import Derived.ArgAppend
import Derived.RangeFuncIn
import Derived.RangeFuncRecord
import Derived.RangeFuncLeaves
import Derived.Laws.MakeOwn
import Derived.IntWalk
import Derived.Laws.IdiomStrings
import Derived.Laws.Cover3
import Derived.Laws.CopyOwn
import Derived.MapKept
import Derived.RangeFuncNested
import Derived.Test.YtnfalgmfmiolbaaGreatRows
import Derived.ProofKit
import Derived.OpenShut
import Derived.ShutString
import Derived.Test.YtnfalgmfmiolbaaGreatBoundsStepsQ2

section
namespace Go.Proofs.YtnfalgmfmiolbaaGreat
open Go.RowKit
set_option linter.unusedSimpArgs false
set_option linter.unusedVariables false
set_option synthInstance.maxSize 2000
set_option synthInstance.maxHeartbeats 400000
theorem ty3 : TyI Tryz.prog 3 false 1 8 [.int .i64 0] := ⟨by kernel_rfl, by kernel_rfl, by kernel_rfl, by kernel_rfl⟩
theorem ty4 : TyI Tryz.prog 4 false 1 1 [.bool false] := ⟨by kernel_rfl, by kernel_rfl, by kernel_rfl, by kernel_rfl⟩
theorem ty5 : TyI Tryz.prog 5 false 1 1 [.int .u8 0] := ⟨by kernel_rfl, by kernel_rfl, by kernel_rfl, by kernel_rfl⟩
theorem ty9 : TyI Tryz.prog 9 false 1 16 [.string ⟨#[]⟩] := ⟨by kernel_rfl, by kernel_rfl, by kernel_rfl, by kernel_rfl⟩
theorem ty22 : TyI Tryz.prog 22 false 1 24 [.slice none 0 0] := ⟨by kernel_rfl, by kernel_rfl, by kernel_rfl, by kernel_rfl⟩
theorem ty27 : TyI Tryz.prog 27 true 4 32 [.int .i64 0, .int .i64 0, .int .i64 0, .int .i64 0] := ⟨by kernel_rfl, by kernel_rfl, by kernel_rfl, by kernel_rfl⟩
theorem ty41 : TyI Tryz.prog 41 false 1 24 [.slice none 0 0] := ⟨by kernel_rfl, by kernel_rfl, by kernel_rfl, by kernel_rfl⟩
theorem ty49 : TyI Tryz.prog 49 true 1 8 [.int .i64 0] := ⟨by kernel_rfl, by kernel_rfl, by kernel_rfl, by kernel_rfl⟩
theorem ty50 : TyI Tryz.prog 50 false 1 24 [.slice none 0 0] := ⟨by kernel_rfl, by kernel_rfl, by kernel_rfl, by kernel_rfl⟩
theorem ty71 : TyI Tryz.prog 71 false 1 24 [.slice none 0 0] := ⟨by kernel_rfl, by kernel_rfl, by kernel_rfl, by kernel_rfl⟩
theorem ty73 : TyI Tryz.prog 73 true 2 32 [.int .i64 0, .slice none 0 0] := ⟨by kernel_rfl, by kernel_rfl, by kernel_rfl, by kernel_rfl⟩
theorem ty74 : TyI Tryz.prog 74 false 1 24 [.slice none 0 0] := ⟨by kernel_rfl, by kernel_rfl, by kernel_rfl, by kernel_rfl⟩
theorem ty76 : TyI Tryz.prog 76 true 2 32 [.int .i64 0, .slice none 0 0] := ⟨by kernel_rfl, by kernel_rfl, by kernel_rfl, by kernel_rfl⟩
theorem ty84 : TyI Tryz.prog 84 true 2 16 [.int .i64 0, .int .i64 0] := ⟨by kernel_rfl, by kernel_rfl, by kernel_rfl, by kernel_rfl⟩
theorem ty88 : TyI Tryz.prog 88 true 3 24 [.int .i64 0, .int .i64 0, .int .i64 0] := ⟨by kernel_rfl, by kernel_rfl, by kernel_rfl, by kernel_rfl⟩
theorem ty97 : TyI Tryz.prog 97 true 2 32 [.slice none 0 0, .int .i64 0] := ⟨by kernel_rfl, by kernel_rfl, by kernel_rfl, by kernel_rfl⟩
theorem ty123 : TyI Tryz.prog 123 true 2 16 [.int .i64 0, .int .i64 0] := ⟨by kernel_rfl, by kernel_rfl, by kernel_rfl, by kernel_rfl⟩
theorem ty204 : TyI Tryz.prog 204 false 1 8 [.nilFunc] := ⟨by kernel_rfl, by kernel_rfl, by kernel_rfl, by kernel_rfl⟩
theorem ty209 : TyI Tryz.prog 209 true 1 24 [.slice none 0 0] := ⟨by kernel_rfl, by kernel_rfl, by kernel_rfl, by kernel_rfl⟩
theorem ty259 : TyI Tryz.prog 259 true 2 16 [.int .i64 0, .int .i64 0] := ⟨by kernel_rfl, by kernel_rfl, by kernel_rfl, by kernel_rfl⟩
theorem ty263 : TyI Tryz.prog 263 true 3 24 [.int .i64 0, .int .i64 0, .int .i64 0] := ⟨by kernel_rfl, by kernel_rfl, by kernel_rfl, by kernel_rfl⟩
theorem ty265 : TyI Tryz.prog 265 false 1 24 [.slice none 0 0] := ⟨by kernel_rfl, by kernel_rfl, by kernel_rfl, by kernel_rfl⟩
theorem ty267 : TyI Tryz.prog 267 true 3 72 [.slice none 0 0, .slice none 0 0, .slice none 0 0] := ⟨by kernel_rfl, by kernel_rfl, by kernel_rfl, by kernel_rfl⟩
theorem ty291 : TyI Tryz.prog 291 true 1 8 [.int .i64 0] := ⟨by kernel_rfl, by kernel_rfl, by kernel_rfl, by kernel_rfl⟩
theorem ty292 : TyI Tryz.prog 292 true 2 16 [.int .i64 0, .int .i64 0] := ⟨by kernel_rfl, by kernel_rfl, by kernel_rfl, by kernel_rfl⟩
theorem ty293 : TyI Tryz.prog 293 true 3 24 [.int .i64 0, .int .i64 0, .int .i64 0] := ⟨by kernel_rfl, by kernel_rfl, by kernel_rfl, by kernel_rfl⟩
theorem fl27_0 : fldOf Tryz.prog 27 0 = some (0, 3) := by kernel_rfl
theorem fl27_1 : fldOf Tryz.prog 27 1 = some (1, 3) := by kernel_rfl
theorem fl27_2 : fldOf Tryz.prog 27 2 = some (2, 3) := by kernel_rfl
theorem fl27_3 : fldOf Tryz.prog 27 3 = some (3, 3) := by kernel_rfl
theorem fl49_0 : fldOf Tryz.prog 49 0 = some (0, 3) := by kernel_rfl
theorem fl73_0 : fldOf Tryz.prog 73 0 = some (0, 3) := by kernel_rfl
theorem fl73_1 : fldOf Tryz.prog 73 1 = some (1, 71) := by kernel_rfl
theorem fl76_0 : fldOf Tryz.prog 76 0 = some (0, 3) := by kernel_rfl
theorem fl76_1 : fldOf Tryz.prog 76 1 = some (1, 74) := by kernel_rfl
theorem fl88_0 : fldOf Tryz.prog 88 0 = some (0, 3) := by kernel_rfl
theorem fl88_1 : fldOf Tryz.prog 88 1 = some (1, 3) := by kernel_rfl
theorem fl88_2 : fldOf Tryz.prog 88 2 = some (2, 3) := by kernel_rfl
theorem fl97_0 : fldOf Tryz.prog 97 0 = some (0, 22) := by kernel_rfl
theorem fl97_1 : fldOf Tryz.prog 97 1 = some (1, 3) := by kernel_rfl
theorem fl123_0 : fldOf Tryz.prog 123 0 = some (0, 3) := by kernel_rfl
theorem fl123_1 : fldOf Tryz.prog 123 1 = some (1, 3) := by kernel_rfl
theorem fl209_0 : fldOf Tryz.prog 209 0 = some (0, 41) := by kernel_rfl
theorem fl259_0 : fldOf Tryz.prog 259 0 = some (0, 3) := by kernel_rfl
theorem fl259_1 : fldOf Tryz.prog 259 1 = some (1, 3) := by kernel_rfl
theorem fl263_0 : fldOf Tryz.prog 263 0 = some (0, 3) := by kernel_rfl
theorem fl263_1 : fldOf Tryz.prog 263 1 = some (1, 3) := by kernel_rfl
theorem fl263_2 : fldOf Tryz.prog 263 2 = some (2, 3) := by kernel_rfl
theorem fl267_0 : fldOf Tryz.prog 267 0 = some (0, 50) := by kernel_rfl
theorem fl267_1 : fldOf Tryz.prog 267 1 = some (1, 41) := by kernel_rfl
theorem fl267_2 : fldOf Tryz.prog 267 2 = some (2, 265) := by kernel_rfl
theorem fl291_0 : fldOf Tryz.prog 291 0 = some (0, 3) := by kernel_rfl
theorem fl293_2 : fldOf Tryz.prog 293 2 = some (2, 3) := by kernel_rfl
theorem pl27 : plOf Tryz.prog 27 = some [(0, 1), (1, 1), (2, 1), (3, 1)] := by kernel_rfl
theorem pl49 : plOf Tryz.prog 49 = some [(0, 1)] := by kernel_rfl
theorem pl73 : plOf Tryz.prog 73 = some [(0, 1), (1, 1)] := by kernel_rfl
theorem pl76 : plOf Tryz.prog 76 = some [(0, 1), (1, 1)] := by kernel_rfl
theorem pl88 : plOf Tryz.prog 88 = some [(0, 1), (1, 1), (2, 1)] := by kernel_rfl
theorem pl97 : plOf Tryz.prog 97 = some [(0, 1), (1, 1)] := by kernel_rfl
theorem pl123 : plOf Tryz.prog 123 = some [(0, 1), (1, 1)] := by kernel_rfl
theorem pl209 : plOf Tryz.prog 209 = some [(0, 1)] := by kernel_rfl
theorem pl259 : plOf Tryz.prog 259 = some [(0, 1), (1, 1)] := by kernel_rfl
theorem pl263 : plOf Tryz.prog 263 = some [(0, 1), (1, 1), (2, 1)] := by kernel_rfl
theorem pl267 : plOf Tryz.prog 267 = some [(0, 1), (1, 1), (2, 1)] := by kernel_rfl
theorem pl291 : plOf Tryz.prog 291 = some [(0, 1)] := by kernel_rfl
theorem pl292 : plOf Tryz.prog 292 = some [(0, 1), (1, 1)] := by kernel_rfl
theorem sl22 : slOf Tryz.prog 22 = some 5 := by kernel_rfl
theorem sl41 : slOf Tryz.prog 41 = some 3 := by kernel_rfl
theorem sl50 : slOf Tryz.prog 50 = some 41 := by kernel_rfl
theorem sl71 : slOf Tryz.prog 71 = some 123 := by kernel_rfl
theorem sl74 : slOf Tryz.prog 74 = some 9 := by kernel_rfl
theorem sl79 : slOf Tryz.prog 79 = some 27 := by kernel_rfl
theorem sl81 : slOf Tryz.prog 81 = some 49 := by kernel_rfl
theorem sl83 : slOf Tryz.prog 83 = some 73 := by kernel_rfl
theorem sl86 : slOf Tryz.prog 86 = some 84 := by kernel_rfl
theorem sl93 : slOf Tryz.prog 93 = some 76 := by kernel_rfl
theorem sl265 : slOf Tryz.prog 265 = some 4 := by kernel_rfl
theorem ar84 : arOf Tryz.prog 84 = some (2, 3) := by kernel_rfl
set_option maxHeartbeats 4000000 in
set_option maxRecDepth 100000 in
theorem scheme_within_c {Fs : List Hp} {G : Hp} {x0 : Int} {x1 : Int} {x2 : Int} {r : Bool} (hG : G ∈ Fs)  (h : scheme_within x0 x1 x2 = some r) : RetS Tryz.prog 172 #[.int .i64 x0, .int .i64 x1, .int .i64 x2] Fs [] [] (fun v bo so => v = .bool r ∧ bo = [] ∧ so = []) := by
 unfold scheme_within at h
 try dsimp only at h
 refine RetS.of (vs := [_, _, _]) Tryz.func172 rfl Tryz.ntmps172 [(0, _), (1, _), (2, _)] ⟨rfl, rfl, rfl, trivial⟩ rfl hG fun w0 S0 hS0 B0 => ?_
 refine Cov.seq ?_;refine Cov.region rfl ?_;refine Cov.q .ro (.assign rfl) rfl ?_;refine Cov.region_end ?_;refine Cov.seq ?_;refine Cov.region rfl ?_;refine Cov.q .ro (.move rfl) rfl ?_;refine Cov.q .ro (.move rfl) rfl ?_;refine Cov.q .ro (.geq rfl rfl) rfl ?_
 refine Cov.q .ro (.move rfl) rfl ?_;refine Cov.cutR 4 (β := Unit) (fun y => [(14, .bool (decide ((x1 ≤ x0) ∧ (x0 ≤ x2))))]) [(6, _)] (fun y => G :: Fs) (fun y => []) [] (fun y => []) [] (fun y => True) ⟨rfl, trivial⟩ [] rfl [] rfl ?_ ?_
 ·rintro _ _
  refine Cov.prune [(14, .bool (decide ((x1 ≤ x0) ∧ (x0 ≤ x2)))), (6, _)] ⟨rfl, rfl, trivial⟩ ?_;refine Cov.same (bl' := []) (sl' := []) (Fs' := G :: Fs) rfl rfl rfl ?_;refine Cov.q .ro (.assign rfl) rfl ?_;refine Cov.region_end ?_
  cases h
  refine Cov.retS (c := ⟨172, none⟩) (.inr ⟨_, rfl⟩) [.tmp 6] [_] rfl Tryz.func172 Tryz.results172 ⟨RV.tmp rfl, trivial⟩ (fun _ h => List.mem_cons_of_mem _ h) ⟨rfl, rfl, rfl⟩
 ·intro hb2
  refine Cov.split 10 rfl (fun c1 => ?_) (fun c1 => ?_)
  ·refine Cov.g_on rfl ?_
   refine Cov.q .ro (.move rfl) rfl ?_;refine Cov.g_on rfl ?_;refine Cov.q .ro (.move rfl) rfl ?_;refine Cov.g_on rfl ?_;refine Cov.q .ro (.leq rfl rfl) rfl ?_;refine Cov.q .ro (.pick_t rfl rfl) rfl ?_
   refine Cov.prune _ ?_ (Cov.same rfl rfl rfl (hb2 () trivial))
   exact ⟨dand_t c1, rfl, trivial⟩
  ·refine Cov.g_off rfl rfl rfl ?_
   refine Cov.g_off rfl rfl rfl ?_;refine Cov.g_off rfl rfl rfl ?_;refine Cov.q .ro (.pick_f rfl rfl) rfl ?_
   refine Cov.prune _ ?_ (Cov.same rfl rfl rfl (hb2 () trivial))
   exact ⟨dand_f c1, rfl, trivial⟩
set_option maxHeartbeats 4000000 in
set_option maxRecDepth 100000 in
theorem scheme_Shape_c {Fs : List Hp} {G : Hp} {x0_0 : Int} {x0_1 : Int} {x0_2 : Int} {x0_3 : Int} {r : Bool} (hG : G ∈ Fs)  (h : scheme_Shape (x0_0, x0_1, x0_2, x0_3) = some r) : RetS Tryz.prog 144 #[.agg #[.int .i64 x0_0, .int .i64 x0_1, .int .i64 x0_2, .int .i64 x0_3]] Fs [] [] (fun v bo so => v = .bool r ∧ bo = [] ∧ so = []) := by
 unfold scheme_Shape at h
 try dsimp only at h
 refine RetS.of (vs := [_]) Tryz.func144 rfl Tryz.ntmps144 [(0, _)] ⟨rfl, trivial⟩ rfl hG fun w0 S0 hS0 B0 => ?_
 refine Cov.seq ?_;refine Cov.region rfl ?_
 refine Cov.box [_, _, _, _] .ro rfl rfl rfl (fun b1 hb1 => ?_)
 refine Cov.q .ro (.assign rfl) rfl ?_;refine Cov.region_end ?_;refine Cov.seq ?_;refine Cov.seq ?_;refine Cov.region rfl ?_;refine Cov.q .ro (.fieldAddr 1 rfl fl27_1 ty3.sz rfl) rfl ?_;refine Cov.q .ro (.load_own 0 rfl rfl ty3 rfl) rfl ?_
 obtain ⟨u2, hu2, r3⟩ := bind_some h; clear h
 refine Cov.callS (b1 := []) (b2 := [_]) (s1 := []) [_, _, _] [] .ro rfl rfl Tryz.call172 rfl rfl (scheme_within_c (G := G) List.mem_cons_self  hu2) rfl (fun v5 bo so h4 => ?_)
 obtain ⟨rfl, rfl, rfl⟩ := h4
 refine Cov.same (bl' := [_]) (sl' := []) rfl rfl rfl ?_;refine Cov.q .ro (.not rfl) rfl ?_;refine Cov.region_end ?_
 refine Cov.cond rfl (fun c6 => ?_) (fun c6 => ?_)
 ·have r7 := ifT r3 c6; clear r3
  refine Cov.seq ?_;refine Cov.region rfl ?_;refine Cov.q .ro (.assign rfl) rfl ?_;refine Cov.region_end ?_
  cases r7
  refine Cov.drop 1 0 [] _ rfl rfl ?_
  refine Cov.retS (c := ⟨144, none⟩) (.inr ⟨_, rfl⟩) [.tmp 2] [_] rfl Tryz.func144 Tryz.results144 ⟨RV.tmp rfl, trivial⟩ (fun _ h => List.mem_cons_of_mem _ h) ⟨rfl, rfl, rfl⟩
 ·have r8 := ifBF r3 c6; clear r3
  refine Cov.skip ?_;refine Cov.seq ?_;refine Cov.seq ?_;refine Cov.region rfl ?_;refine Cov.q .ro (.fieldAddr 0 rfl fl27_0 ty3.sz rfl) rfl ?_;refine Cov.q .ro (.load_own 0 rfl rfl ty3 rfl) rfl ?_;refine Cov.region_end ?_;refine Cov.block ?_;refine Cov.seq ?_
  refine Cov.region rfl ?_;refine Cov.q .ro (.eql rfl rfl) rfl ?_;refine Cov.q .ro (.assign rfl) rfl ?_;refine Cov.region_end ?_
  refine Cov.cond_dec rfl (fun c9 => ?_) (fun c9 => ?_)
  ·have r10 := ifT r8 c9; clear r8
   refine Cov.seq ?_;refine Cov.region rfl ?_;refine Cov.q .ro (.fieldAddr 2 rfl fl27_2 ty3.sz rfl) rfl ?_;refine Cov.q .ro (.load_own 0 rfl rfl ty3 rfl) rfl ?_;refine Cov.q .ro (.eql rfl rfl) rfl ?_;refine Cov.q .ro (.move rfl) rfl ?_;refine Cov.cutR 4 (β := Unit) (fun y => [(18, .bool (decide ((x0_2 = 0) ∧ (x0_3 = 0))))]) [(2, _)] (fun y => G :: Fs) (fun y => []) [_] (fun y => []) [] (fun y => True) ⟨rfl, trivial⟩ [0] rfl [] rfl ?_ ?_
   ·rintro _ _
    refine Cov.prune [(18, .bool (decide ((x0_2 = 0) ∧ (x0_3 = 0)))), (2, _)] ⟨rfl, rfl, trivial⟩ ?_;refine Cov.same (bl' := [_]) (sl' := []) (Fs' := G :: Fs) rfl rfl rfl ?_;refine Cov.q .ro (.assign rfl) rfl ?_;refine Cov.region_end ?_
    cases r10
    refine Cov.drop 1 0 [] _ rfl rfl ?_
    refine Cov.retS (c := ⟨144, none⟩) (.inr ⟨_, rfl⟩) [.tmp 2] [_] rfl Tryz.func144 Tryz.results144 ⟨RV.tmp rfl, trivial⟩ (fun _ h => List.mem_cons_of_mem _ h) ⟨rfl, rfl, rfl⟩
   ·intro hb12
    refine Cov.split 14 rfl (fun c11 => ?_) (fun c11 => ?_)
    ·refine Cov.g_on rfl ?_
     refine Cov.q .ro (.fieldAddr 3 rfl fl27_3 ty3.sz rfl) rfl ?_;refine Cov.g_on rfl ?_;refine Cov.q .ro (.load_own 0 rfl rfl ty3 rfl) rfl ?_;refine Cov.g_on rfl ?_;refine Cov.q .ro (.eql rfl rfl) rfl ?_;refine Cov.q .ro (.pick_t rfl rfl) rfl ?_
     refine Cov.prune _ ?_ (Cov.same rfl rfl rfl (hb12 () trivial))
     exact ⟨dand_t c11, rfl, trivial⟩
    ·refine Cov.g_off rfl rfl rfl ?_
     refine Cov.g_off rfl rfl rfl ?_;refine Cov.g_off rfl rfl rfl ?_;refine Cov.q .ro (.pick_f rfl rfl) rfl ?_
     refine Cov.prune _ ?_ (Cov.same rfl rfl rfl (hb12 () trivial))
     exact ⟨dand_f c11, rfl, trivial⟩
  ·have r15 := ifF r8 c9; clear r8
   refine Cov.seq ?_;refine Cov.region rfl ?_;refine Cov.q .ro (.eql rfl rfl) rfl ?_;refine Cov.q .ro (.assign rfl) rfl ?_;refine Cov.region_end ?_
   refine Cov.cond_dec rfl (fun c16 => ?_) (fun c16 => ?_)
   ·have r17 := ifT r15 c16; clear r15
    refine Cov.seq ?_;refine Cov.region rfl ?_;refine Cov.q .ro (.fieldAddr 2 rfl fl27_2 ty3.sz rfl) rfl ?_;refine Cov.q .ro (.load_own 0 rfl rfl ty3 rfl) rfl ?_;refine Cov.q .ro (.fieldAddr 1 rfl fl27_1 ty3.sz rfl) rfl ?_;refine Cov.q .ro (.load_own 0 rfl rfl ty3 rfl) rfl ?_;refine Cov.q .ro (.subw rfl rfl) rfl ?_
    obtain ⟨u18, hu18, r19⟩ := bind_some r17; clear r17
    refine Cov.callS (b1 := []) (b2 := [_]) (s1 := []) [_, _, _] [] .ro rfl rfl Tryz.call172 rfl rfl (scheme_within_c (G := G) List.mem_cons_self  hu18) rfl (fun v21 bo so h20 => ?_)
    obtain ⟨rfl, rfl, rfl⟩ := h20
    refine Cov.same (bl' := [_]) (sl' := []) rfl rfl rfl ?_;refine Cov.q .ro (.move rfl) rfl ?_;refine Cov.cutR 4 (β := Unit) (fun y => [(31, .bool (decide ((u18 = true) ∧ (x0_3 = 0))))]) [(2, _)] (fun y => G :: Fs) (fun y => []) [_] (fun y => []) [] (fun y => True) ⟨rfl, trivial⟩ [0] rfl [] rfl ?_ ?_
    ·rintro _ _
     refine Cov.prune [(31, .bool (decide ((u18 = true) ∧ (x0_3 = 0)))), (2, _)] ⟨rfl, rfl, trivial⟩ ?_;refine Cov.same (bl' := [_]) (sl' := []) (Fs' := G :: Fs) rfl rfl rfl ?_;refine Cov.q .ro (.assign rfl) rfl ?_;refine Cov.region_end ?_
     cases r19
     refine Cov.drop 1 0 [] _ rfl rfl ?_
     refine Cov.retS (c := ⟨144, none⟩) (.inr ⟨_, rfl⟩) [.tmp 2] [_] rfl Tryz.func144 Tryz.results144 ⟨RV.tmp rfl, trivial⟩ (fun _ h => List.mem_cons_of_mem _ h) ⟨rfl, rfl, rfl⟩
    ·intro hb23
     refine Cov.split_b 27 rfl (fun c22 => ?_) (fun c22 => ?_)
     ·refine Cov.g_on rfl ?_
      refine Cov.q .ro (.fieldAddr 3 rfl fl27_3 ty3.sz rfl) rfl ?_;refine Cov.g_on rfl ?_;refine Cov.q .ro (.load_own 0 rfl rfl ty3 rfl) rfl ?_;refine Cov.g_on rfl ?_;refine Cov.q .ro (.eql rfl rfl) rfl ?_;refine Cov.q .ro (.pick_t rfl rfl) rfl ?_
      refine Cov.prune _ ?_ (Cov.same rfl rfl rfl (hb23 () trivial))
      exact ⟨dand_t c22, rfl, trivial⟩
     ·refine Cov.g_off rfl rfl rfl ?_
      refine Cov.g_off rfl rfl rfl ?_;refine Cov.g_off rfl rfl rfl ?_;refine Cov.q .ro (.pick_f rfl rfl) rfl ?_
      refine Cov.prune _ ?_ (Cov.same rfl rfl rfl (hb23 () trivial))
      exact ⟨dand_f (bne_of c22), rfl, trivial⟩
   ·have r26 := ifF r15 c16; clear r15
    refine Cov.seq ?_;refine Cov.region rfl ?_;refine Cov.q .ro (.eql rfl rfl) rfl ?_;refine Cov.q .ro (.assign rfl) rfl ?_;refine Cov.region_end ?_;refine Cov.prune [(1, _), (32, _)] ⟨rfl, rfl, trivial⟩ ?_
    refine Cov.cond_dec rfl (fun c27 => ?_) (fun c27 => ?_)
    ·have r28 := ifT r26 c27; clear r26
     refine Cov.seq ?_;refine Cov.region rfl ?_;refine Cov.q .ro (.fieldAddr 2 rfl fl27_2 ty3.sz rfl) rfl ?_;refine Cov.q .ro (.load_own 0 rfl rfl ty3 rfl) rfl ?_;refine Cov.q .ro (.fieldAddr 1 rfl fl27_1 ty3.sz rfl) rfl ?_;refine Cov.q .ro (.load_own 0 rfl rfl ty3 rfl) rfl ?_
     obtain ⟨u29, hu29, r30⟩ := bind_some r28; clear r28
     refine Cov.callS (b1 := []) (b2 := [_]) (s1 := []) [_, _, _] [] .ro rfl rfl Tryz.call172 rfl rfl (scheme_within_c (G := G) List.mem_cons_self  hu29) rfl (fun v32 bo so h31 => ?_)
     obtain ⟨rfl, rfl, rfl⟩ := h31
     refine Cov.same (bl' := [_]) (sl' := []) rfl rfl rfl ?_;refine Cov.q .ro (.move rfl) rfl ?_
     obtain ⟨u39, h40, r41⟩ := bind_some r30; clear r30
     refine Cov.cutR 6 (β := Unit) (fun y => [(45, .bool u39)]) [(1, _)] (fun y => G :: Fs) (fun y => []) [_] (fun y => []) [] (fun y => True) ⟨rfl, trivial⟩ [0] rfl [] rfl ?_ ?_
     ·rintro _ _
      refine Cov.prune [(45, .bool u39), (1, _)] ⟨rfl, rfl, trivial⟩ ?_;refine Cov.same (bl' := [_]) (sl' := []) (Fs' := G :: Fs) rfl rfl rfl ?_;refine Cov.q .ro (.move rfl) rfl ?_;refine Cov.cutR 11 (β := Unit) (fun y => [(57, .bool (decide ((u39 = true) ∧ ((w64 ((w64 ((w64 (2 * x0_3)) + x0_2)) - 1)) ≤ x0_1))))]) [] (fun y => G :: Fs) (fun y => []) [_] (fun y => []) [] (fun y => True) trivial [0] rfl [] rfl ?_ ?_
      ·rintro _ _
       refine Cov.prune [(57, .bool (decide ((u39 = true) ∧ ((w64 ((w64 ((w64 (2 * x0_3)) + x0_2)) - 1)) ≤ x0_1))))] ⟨rfl, trivial⟩ ?_;refine Cov.same (bl' := [_]) (sl' := []) (Fs' := G :: Fs) rfl rfl rfl ?_;refine Cov.q .ro (.assign rfl) rfl ?_;refine Cov.region_end ?_
       cases r41
       refine Cov.drop 1 0 [] _ rfl rfl ?_
       refine Cov.retS (c := ⟨144, none⟩) (.inr ⟨_, rfl⟩) [.tmp 2] [_] rfl Tryz.func144 Tryz.results144 ⟨RV.tmp rfl, trivial⟩ (fun _ h => List.mem_cons_of_mem _ h) ⟨rfl, rfl, rfl⟩
      ·intro hb45
       refine Cov.split_b 46 rfl (fun c44 => ?_) (fun c44 => ?_)
       ·refine Cov.g_on rfl ?_
        refine Cov.q .ro (.fieldAddr 3 rfl fl27_3 ty3.sz rfl) rfl ?_;refine Cov.g_on rfl ?_;refine Cov.q .ro (.load_own 0 rfl rfl ty3 rfl) rfl ?_;refine Cov.g_on rfl ?_;refine Cov.q .ro (.mulw rfl rfl) rfl ?_;refine Cov.g_on rfl ?_;refine Cov.q .ro (.fieldAddr 2 rfl fl27_2 ty3.sz rfl) rfl ?_;refine Cov.g_on rfl ?_;refine Cov.q .ro (.load_own 0 rfl rfl ty3 rfl) rfl ?_
        refine Cov.g_on rfl ?_;refine Cov.q .ro (.addw rfl rfl) rfl ?_;refine Cov.g_on rfl ?_;refine Cov.q .ro (.subw rfl rfl) rfl ?_;refine Cov.g_on rfl ?_;refine Cov.q .ro (.fieldAddr 1 rfl fl27_1 ty3.sz rfl) rfl ?_;refine Cov.g_on rfl ?_;refine Cov.q .ro (.load_own 0 rfl rfl ty3 rfl) rfl ?_;refine Cov.g_on rfl ?_
        refine Cov.q .ro (.leq rfl rfl) rfl ?_;refine Cov.q .ro (.pick_t rfl rfl) rfl ?_
        refine Cov.prune _ ?_ (Cov.same rfl rfl rfl (hb45 () trivial))
        exact ⟨dand_t c44, trivial⟩
       ·refine Cov.g_off rfl rfl rfl ?_
        refine Cov.g_off rfl rfl rfl ?_;refine Cov.g_off rfl rfl rfl ?_;refine Cov.g_off rfl rfl rfl ?_;refine Cov.g_off rfl rfl rfl ?_;refine Cov.g_off rfl rfl rfl ?_;refine Cov.g_off rfl rfl rfl ?_;refine Cov.g_off rfl rfl rfl ?_;refine Cov.g_off rfl rfl rfl ?_;refine Cov.g_off rfl rfl rfl ?_
        refine Cov.q .ro (.pick_f rfl rfl) rfl ?_
        refine Cov.prune _ ?_ (Cov.same rfl rfl rfl (hb45 () trivial))
        exact ⟨dand_f (bne_of c44), trivial⟩
     ·intro hb38
      refine Cov.split_b 39 rfl (fun c37 => ?_) (fun c37 => ?_)
      ·have r48 := ifT h40 c37
       refine Cov.g_on rfl ?_;refine Cov.q .ro (.fieldAddr 3 rfl fl27_3 ty3.sz rfl) rfl ?_;refine Cov.g_on rfl ?_;refine Cov.q .ro (.load_own 0 rfl rfl ty3 rfl) rfl ?_;refine Cov.g_on rfl ?_;refine Cov.q .ro (.fieldAddr 1 rfl fl27_1 ty3.sz rfl) rfl ?_;refine Cov.g_on rfl ?_;refine Cov.q .ro (.load_own 0 rfl rfl ty3 rfl) rfl ?_;refine Cov.g_on rfl ?_
       obtain ⟨u49, hu49, r50⟩ := bind_some r48; clear r48
       refine Cov.callS (b1 := []) (b2 := [_]) (s1 := []) [_, _, _] [] .ro rfl rfl Tryz.call172 rfl rfl (scheme_within_c (G := G) List.mem_cons_self  hu49) rfl (fun v52 bo so h51 => ?_)
       obtain ⟨rfl, rfl, rfl⟩ := h51
       refine Cov.same (bl' := [_]) (sl' := []) rfl rfl rfl ?_;refine Cov.q .ro (.pick_t rfl rfl) rfl ?_
       refine Cov.prune _ ?_ (Cov.same rfl rfl rfl (hb38 () trivial))
       exact ⟨sval r50, rfl, trivial⟩
      ·have r53 := ifBF h40 c37
       refine Cov.g_off rfl rfl rfl ?_;refine Cov.g_off rfl rfl rfl ?_;refine Cov.g_off rfl rfl rfl ?_;refine Cov.g_off rfl rfl rfl ?_;refine Cov.g_off rfl rfl rfl ?_;refine Cov.q .ro (.pick_f rfl rfl) rfl ?_
       refine Cov.prune _ ?_ (Cov.same rfl rfl rfl (hb38 () trivial))
       exact ⟨sval r53, rfl, trivial⟩
    ·have r54 := ifF r26 c27; clear r26
     refine Cov.skip ?_;refine Cov.inBlock ?_;refine Cov.seq ?_;refine Cov.region rfl ?_;refine Cov.q .ro (.assign rfl) rfl ?_;refine Cov.region_end ?_
     cases r54
     refine Cov.drop 1 0 [] _ rfl rfl ?_
     refine Cov.retS (c := ⟨144, none⟩) (.inr ⟨_, rfl⟩) [.tmp 2] [_] rfl Tryz.func144 Tryz.results144 ⟨RV.tmp rfl, trivial⟩ (fun _ h => List.mem_cons_of_mem _ h) ⟨rfl, rfl, rfl⟩
set_option maxHeartbeats 4000000 in
set_option maxRecDepth 100000 in
theorem residue_Of_c {Fs : List Hp} {G : Hp} {x0_0 : Int} {r : (Int × Bool)} (hG : G ∈ Fs)  (h : residue_Of x0_0 = some r) : RetS Tryz.prog 173 #[.agg #[.int .i64 x0_0]] Fs [] [] (fun v bo so => v = .tuple #[.int .i64 r.1, .bool r.2] ∧ bo = [] ∧ so = []) := by
 unfold residue_Of at h
 try dsimp only at h
 refine RetS.of (vs := [_]) Tryz.func173 rfl Tryz.ntmps173 [(0, _)] ⟨rfl, trivial⟩ rfl hG fun w0 S0 hS0 B0 => ?_
 refine Cov.seq ?_;refine Cov.region rfl ?_
 refine Cov.box [_] .ro rfl rfl rfl (fun b1 hb1 => ?_)
 refine Cov.q .ro (.assign rfl) rfl ?_;refine Cov.q .ro (.assign rfl) rfl ?_;refine Cov.region_end ?_;refine Cov.seq ?_;refine Cov.seq ?_;refine Cov.region rfl ?_;refine Cov.q .ro (.fieldAddr 0 rfl fl49_0 ty3.sz rfl) rfl ?_;refine Cov.q .ro (.load_own 0 rfl rfl ty3 rfl) rfl ?_;refine Cov.q .ro (.lss rfl rfl) rfl ?_
 refine Cov.q .ro (.move rfl) rfl ?_;refine Cov.cutR 4 (β := Unit) (fun y => [(12, .bool (decide ((x0_0 < 2) ∨ (65521 < x0_0))))]) [(1, _)] (fun y => G :: Fs) (fun y => []) [_] (fun y => []) [] (fun y => True) ⟨rfl, trivial⟩ [0] rfl [] rfl ?_ ?_
 ·rintro _ _
  refine Cov.prune [(12, .bool (decide ((x0_0 < 2) ∨ (65521 < x0_0)))), (1, _)] ⟨rfl, rfl, trivial⟩ ?_;refine Cov.same (bl' := [_]) (sl' := []) (Fs' := G :: Fs) rfl rfl rfl ?_;refine Cov.region_end ?_
  refine Cov.cond_dec rfl (fun c6 => ?_) (fun c6 => ?_)
  ·have r7 := ifT h c6; clear h
   refine Cov.seq ?_;refine Cov.region rfl ?_;refine Cov.q .ro (.assign rfl) rfl ?_;refine Cov.q .ro (.assign rfl) rfl ?_;refine Cov.region_end ?_
   cases r7
   refine Cov.drop 1 0 [] _ rfl rfl ?_
   refine Cov.retS (c := ⟨173, none⟩) (.inr ⟨_, rfl⟩) [.tmp 2, .tmp 3] [_, _] rfl Tryz.func173 Tryz.results173 ⟨RV.tmp rfl, RV.tmp rfl, trivial⟩ (fun _ h => List.mem_cons_of_mem _ h) ⟨rfl, rfl, rfl⟩
  ·have r8 := ifF h c6; clear h
   refine Cov.skip ?_;refine Cov.seq ?_;refine Cov.seq ?_;refine Cov.region rfl ?_;refine Cov.q .ro (.assign rfl) rfl ?_;refine Cov.region_end ?_;refine Cov.cutB (β := Int) (fun y => []) [(1, _)] (fun y => G :: Fs) (fun y => [(b1, .cells #[.int .i64 y] 49 (0, 0))]) [] (fun y => []) [] (fun y => residue_Of_J1 y = some r) ⟨rfl, trivial⟩ [] rfl [] rfl ?_ ?_
   ·intro v36 hI
    have r38 := hI; clear hI
    refine Cov.prune [(1, _)] ⟨rfl, trivial⟩ ?_;refine Cov.same (bl' := [(b1, .cells #[.int .i64 v36] 49 (0, 0))]) (sl' := []) (Fs' := G :: Fs) rfl rfl rfl ?_
    unfold residue_Of_J1 at r38
    try dsimp only at r38
    refine Cov.seq ?_;refine Cov.region rfl ?_;refine Cov.q .ro (.fieldAddr 0 rfl fl49_0 ty3.sz rfl) rfl ?_;refine Cov.q .ro (.load_own 0 rfl rfl ty3 rfl) rfl ?_;refine Cov.q .ro (.assign rfl) rfl ?_;refine Cov.q .ro (.assign rfl) rfl ?_;refine Cov.region_end ?_
    cases r38
    refine Cov.drop 1 0 [] _ rfl rfl ?_
    refine Cov.retS (c := ⟨173, none⟩) (.inr ⟨_, rfl⟩) [.tmp 2, .tmp 3] [_, _] rfl Tryz.func173 Tryz.results173 ⟨RV.tmp rfl, RV.tmp rfl, trivial⟩ (fun _ h => List.mem_cons_of_mem _ h) ⟨rfl, rfl, rfl⟩
   ·intro hb39
    refine Cov.block ?_
    refine Cov.loop2 (α := Nat × Int) (fun y => [(4, .int .i64 y.2)]) [(1, _)] (fun y => []) (fun y => []) [_] (fun y => []) [] (fun y => residue_Of_L2 residue_Of_J1 x0_0 y.1 y.2 = some r) (fun y => y.1) (big, 2) r8 ⟨rfl, rfl, trivial⟩ rfl rfl rfl (fun y hI hb55 => ?_)
    obtain ⟨n51, v53⟩ := y
    have r54 := hI; clear hI
    try dsimp only at r54
    refine Cov.prune [(4, .int .i64 v53), (1, _)] ⟨rfl, rfl, trivial⟩ ?_;refine Cov.same (bl' := [_]) (sl' := []) (Fs' := G :: Fs) rfl rfl rfl ?_
    obtain ⟨m58, rfl⟩ : ∃ m, n51 = m + 1 := by cases n51 with | zero => exact absurd (show (none : Option _) = some _ from r54) (by simp) | succ m => exact ⟨m, rfl⟩
    have r57 : residue_Of_B2 residue_Of_J1 x0_0 (residue_Of_L2 residue_Of_J1 x0_0 m58) v53 = some r := r54; clear r54; unfold residue_Of_B2 at r57; try dsimp only at r57
    refine Cov.seq ?_;refine Cov.seq ?_;refine Cov.region rfl ?_;refine Cov.q .ro (.move rfl) rfl ?_;refine Cov.q .ro (.move rfl) rfl ?_;refine Cov.q .ro (.mulw rfl rfl) rfl ?_;refine Cov.q .ro (.fieldAddr 0 rfl fl49_0 ty3.sz rfl) rfl ?_;refine Cov.q .ro (.load_own 0 rfl rfl ty3 rfl) rfl ?_;refine Cov.q .ro (.leq rfl rfl) rfl ?_
    refine Cov.region_end ?_
    refine Cov.cond_dec rfl (fun c59 => ?_) (fun c59 => ?_)
    ·have r60 := ifT r57 c59; clear r57
     refine Cov.skip ?_;refine Cov.seq ?_;refine Cov.block ?_;refine Cov.seq ?_;refine Cov.region rfl ?_;refine Cov.q .ro (.fieldAddr 0 rfl fl49_0 ty3.sz rfl) rfl ?_;refine Cov.q .ro (.load_own 0 rfl rfl ty3 rfl) rfl ?_;refine Cov.q .ro (.move rfl) rfl ?_
     obtain ⟨u61, hu61, r62⟩ := bind_some r60; clear r60
     refine Cov.q .ro (.remt rfl rfl (nz_some hu61)) rfl ?_;refine Cov.q .ro (.eql rfl rfl) rfl ?_;refine Cov.region_end ?_
     refine Cov.cond_dec rfl (fun c63 => ?_) (fun c63 => ?_)
     ·have r64 := ifT r62 c63; clear r62
      refine Cov.seq ?_;refine Cov.region rfl ?_;refine Cov.q .ro (.assign rfl) rfl ?_;refine Cov.q .ro (.assign rfl) rfl ?_;refine Cov.region_end ?_;refine Cov.prune [(2, _), (3, _)] ⟨rfl, rfl, trivial⟩ ?_
      cases r64
      refine Cov.drop 1 0 [] _ rfl rfl ?_
      refine Cov.retS (c := ⟨173, none⟩) (.inr ⟨_, rfl⟩) [.tmp 2, .tmp 3] [_, _] rfl Tryz.func173 Tryz.results173 ⟨RV.tmp rfl, RV.tmp rfl, trivial⟩ (fun _ h => List.mem_cons_of_mem _ h) ⟨rfl, rfl, rfl⟩
     ·have r65 := ifF r62 c63; clear r62
      refine Cov.skip ?_;refine Cov.inBlock ?_;refine Cov.region rfl ?_;refine Cov.q .ro (.move rfl) rfl ?_;refine Cov.q .ro (.addw rfl rfl) rfl ?_;refine Cov.q .ro (.assign rfl) rfl ?_;refine Cov.region_end ?_;refine Cov.prune [(4, _), (1, _)] ⟨rfl, rfl, trivial⟩ ?_
      refine Cov.prune _ ?_ (Cov.same rfl rfl rfl (hb55 (m58, (w64 (v53 + 1))) r65 (Nat.lt_succ_self _)))
      exact ⟨rfl, rfl, trivial⟩
    ·have r66 := ifF r57 c59; clear r57
     refine Cov.exit rfl ?_
     refine Cov.prune _ ?_ (Cov.same rfl rfl rfl (hb39 (x0_0) r66))
     exact ⟨rfl, trivial⟩
 ·intro hb3
  refine Cov.split 8 rfl (fun c2 => ?_) (fun c2 => ?_)
  ·refine Cov.g_off rfl rfl rfl ?_
   refine Cov.g_off rfl rfl rfl ?_;refine Cov.g_off rfl rfl rfl ?_;refine Cov.q .ro (.pick_t rfl rfl) rfl ?_
   refine Cov.prune _ ?_ (Cov.same rfl rfl rfl (hb3 () trivial))
   exact ⟨dor_t c2, rfl, trivial⟩
  ·refine Cov.g_on rfl ?_
   refine Cov.q .ro (.fieldAddr 0 rfl fl49_0 ty3.sz rfl) rfl ?_;refine Cov.g_on rfl ?_;refine Cov.q .ro (.load_own 0 rfl rfl ty3 rfl) rfl ?_;refine Cov.g_on rfl ?_;refine Cov.q .ro (.gtr rfl rfl) rfl ?_;refine Cov.q .ro (.pick_f rfl rfl) rfl ?_
   refine Cov.prune _ ?_ (Cov.same rfl rfl rfl (hb3 () trivial))
   exact ⟨dor_f c2, rfl, trivial⟩
set_option maxHeartbeats 4000000 in
set_option maxRecDepth 100000 in
theorem field_Check_c {Fs : List Hp} {G : Hp} {x0_0 : Int} {r : Int} (hG : G ∈ Fs)  (h : field_Check x0_0 = some r) : RetS Tryz.prog 145 #[.agg #[.int .i64 x0_0]] Fs [] [] (fun v bo so => v = .int .i64 r ∧ bo = [] ∧ so = []) := by
 unfold field_Check at h
 try dsimp only at h
 refine RetS.of (vs := [_]) Tryz.func145 rfl Tryz.ntmps145 [(0, _)] ⟨rfl, trivial⟩ rfl hG fun w0 S0 hS0 B0 => ?_
 refine Cov.seq ?_;refine Cov.region rfl ?_
 refine Cov.box [_] .ro rfl rfl rfl (fun b1 hb1 => ?_)
 refine Cov.q .ro (.assign rfl) rfl ?_;refine Cov.region_end ?_;refine Cov.seq ?_;refine Cov.seq ?_;refine Cov.region rfl ?_;refine Cov.q .ro (.load_own_a 0 [_] rfl rfl ty49 rfl) rfl ?_
 obtain ⟨u2, hu2, r3⟩ := bind_some h; clear h
 refine Cov.callS (b1 := []) (b2 := [_]) (s1 := []) [_] [] .ro rfl rfl Tryz.call173 rfl rfl (residue_Of_c (G := G) List.mem_cons_self  hu2) rfl (fun v5 bo so h4 => ?_)
 obtain ⟨rfl, rfl, rfl⟩ := h4
 refine Cov.same (bl' := [_]) (sl' := []) rfl rfl rfl ?_;refine Cov.q .ro (.move rfl) rfl ?_;refine Cov.q .ro (.extract rfl rfl) rfl ?_;refine Cov.q .ro (.extract rfl rfl) rfl ?_;refine Cov.q .ro (.assign rfl) rfl ?_;refine Cov.q .ro (.assign rfl) rfl ?_;refine Cov.region_end ?_;refine Cov.seq ?_;refine Cov.region rfl ?_
 refine Cov.q .ro (.move rfl) rfl ?_;refine Cov.q .ro (.not rfl) rfl ?_;refine Cov.region_end ?_
 refine Cov.cond rfl (fun c6 => ?_) (fun c6 => ?_)
 ·have r7 := ifT r3 c6; clear r3
  refine Cov.seq ?_;refine Cov.region rfl ?_;refine Cov.q .ro (.assign rfl) rfl ?_;refine Cov.region_end ?_
  cases r7
  refine Cov.drop 1 0 [] _ rfl rfl ?_
  refine Cov.retS (c := ⟨145, none⟩) (.inr ⟨_, rfl⟩) [.tmp 2] [_] rfl Tryz.func145 Tryz.results145 ⟨RV.tmp rfl, trivial⟩ (fun _ h => List.mem_cons_of_mem _ h) ⟨rfl, rfl, rfl⟩
 ·have r8 := ifBF r3 c6; clear r3
  refine Cov.skip ?_;refine Cov.seq ?_;refine Cov.region rfl ?_;refine Cov.q .ro (.assign rfl) rfl ?_;refine Cov.region_end ?_
  cases r8
  refine Cov.drop 1 0 [] _ rfl rfl ?_
  refine Cov.retS (c := ⟨145, none⟩) (.inr ⟨_, rfl⟩) [.tmp 2] [_] rfl Tryz.func145 Tryz.results145 ⟨RV.tmp rfl, trivial⟩ (fun _ h => List.mem_cons_of_mem _ h) ⟨rfl, rfl, rfl⟩
set_option maxHeartbeats 4000000 in
set_option maxRecDepth 100000 in
theorem scheme_Valid_c {Fs : List Hp} {G : Hp} {x0_0 : Int} {x0_1 : Int} {x0_2 : Int} {x0_3 : Int} {x1_0 : Int} {r : Bool} (hG : G ∈ Fs)  (h : scheme_Valid (x0_0, x0_1, x0_2, x0_3) x1_0 = some r) : RetS Tryz.prog 99 #[.agg #[.int .i64 x0_0, .int .i64 x0_1, .int .i64 x0_2, .int .i64 x0_3], .agg #[.int .i64 x1_0]] Fs [] [] (fun v bo so => v = .bool r ∧ bo = [] ∧ so = []) := by
 unfold scheme_Valid at h
 try dsimp only at h
 refine RetS.of (vs := [_, _]) Tryz.func99 rfl Tryz.ntmps99 [(0, _), (1, _)] ⟨rfl, rfl, trivial⟩ rfl hG fun w0 S0 hS0 B0 => ?_
 refine Cov.seq ?_;refine Cov.region rfl ?_
 refine Cov.box [_, _, _, _] .ro rfl rfl rfl (fun b1 hb1 => ?_)
 refine Cov.box [_] .ro rfl rfl rfl (fun b2 hb2 => ?_)
 refine Cov.q .ro (.assign rfl) rfl ?_;refine Cov.region_end ?_;refine Cov.seq ?_;refine Cov.region rfl ?_;refine Cov.q .ro (.load_own_a 1 [_, _, _, _] rfl rfl ty27 rfl) rfl ?_
 obtain ⟨u3, hu3, r4⟩ := bind_some h; clear h
 refine Cov.callS (b1 := []) (b2 := [_, _]) (s1 := []) [_] [] .ro rfl rfl Tryz.call144 rfl rfl (scheme_Shape_c (G := G) List.mem_cons_self  hu3) rfl (fun v6 bo so h5 => ?_)
 obtain ⟨rfl, rfl, rfl⟩ := h5
 refine Cov.same (bl' := [_, _]) (sl' := []) rfl rfl rfl ?_;refine Cov.q .ro (.move rfl) rfl ?_
 obtain ⟨u13, h14, r15⟩ := bind_some r4; clear r4
 refine Cov.cutR 4 (β := Unit) (fun y => [(11, .bool u13)]) [(2, _), (3, _), (4, _)] (fun y => G :: Fs) (fun y => []) [_, _] (fun y => []) [] (fun y => True) ⟨rfl, rfl, rfl, trivial⟩ [0, 1] rfl [] rfl ?_ ?_
 ·rintro _ _
  refine Cov.prune [(11, .bool u13), (2, _), (3, _), (4, _)] ⟨rfl, rfl, rfl, rfl, trivial⟩ ?_;refine Cov.same (bl' := [_, _]) (sl' := []) (Fs' := G :: Fs) rfl rfl rfl ?_;refine Cov.q .ro (.move rfl) rfl ?_;refine Cov.cutR 11 (β := Unit) (fun y => [(23, .bool (decide ((u13 = true) ∧ ((x0_0 = 1) ∨ (x0_1 < x1_0)))))]) [(4, _)] (fun y => G :: Fs) (fun y => []) [_, _] (fun y => []) [] (fun y => True) ⟨rfl, trivial⟩ [0, 1] rfl [] rfl ?_ ?_
  ·rintro _ _
   refine Cov.prune [(23, .bool (decide ((u13 = true) ∧ ((x0_0 = 1) ∨ (x0_1 < x1_0))))), (4, _)] ⟨rfl, rfl, trivial⟩ ?_;refine Cov.same (bl' := [_, _]) (sl' := []) (Fs' := G :: Fs) rfl rfl rfl ?_;refine Cov.q .ro (.assign rfl) rfl ?_;refine Cov.region_end ?_
   cases r15
   refine Cov.drop 2 0 [] _ rfl rfl ?_
   refine Cov.retS (c := ⟨99, none⟩) (.inr ⟨_, rfl⟩) [.tmp 4] [_] rfl Tryz.func99 Tryz.results99 ⟨RV.tmp rfl, trivial⟩ (fun _ h => List.mem_cons_of_mem _ h) ⟨rfl, rfl, rfl⟩
  ·intro hb23
   refine Cov.split_b 12 rfl (fun c22 => ?_) (fun c22 => ?_)
   ·refine Cov.g_on rfl ?_
    refine Cov.q .ro (.fieldAddr 0 rfl fl27_0 ty3.sz rfl) rfl ?_;refine Cov.g_on rfl ?_;refine Cov.q .ro (.load_own 1 rfl rfl ty3 rfl) rfl ?_;refine Cov.g_on rfl ?_;refine Cov.q .ro (.eql rfl rfl) rfl ?_;refine Cov.g_on rfl ?_;refine Cov.q .ro (.move rfl) rfl ?_;refine Cov.cutR 6 (β := Unit) (fun y => [(22, .bool (decide ((x0_0 = 1) ∨ (x0_1 < x1_0))))]) [(4, _), (12, _)] (fun y => G :: Fs) (fun y => []) [_, _] (fun y => []) [] (fun y => True) ⟨rfl, rfl, trivial⟩ [0, 1] rfl [] rfl ?_ ?_
    ·rintro _ _
     refine Cov.prune [(22, .bool (decide ((x0_0 = 1) ∨ (x0_1 < x1_0)))), (4, _), (12, _)] ⟨rfl, rfl, rfl, trivial⟩ ?_;refine Cov.same (bl' := [_, _]) (sl' := []) (Fs' := G :: Fs) rfl rfl rfl ?_;refine Cov.q .ro (.pick_t rfl rfl) rfl ?_
     refine Cov.prune _ ?_ (Cov.same rfl rfl rfl (hb23 () trivial))
     exact ⟨dand_t c22, rfl, trivial⟩
    ·intro hb27
     refine Cov.split 16 rfl (fun c26 => ?_) (fun c26 => ?_)
     ·refine Cov.g_off rfl rfl rfl ?_
      refine Cov.g_off rfl rfl rfl ?_;refine Cov.g_off rfl rfl rfl ?_;refine Cov.g_off rfl rfl rfl ?_;refine Cov.g_off rfl rfl rfl ?_;refine Cov.g_on rfl ?_;refine Cov.q .ro (.pick_t rfl rfl) rfl ?_
      refine Cov.prune _ ?_ (Cov.same rfl rfl rfl (hb27 () trivial))
      exact ⟨dor_t c26, rfl, rfl, trivial⟩
     ·refine Cov.g_on rfl ?_
      refine Cov.q .ro (.fieldAddr 1 rfl fl27_1 ty3.sz rfl) rfl ?_;refine Cov.g_on rfl ?_;refine Cov.q .ro (.load_own 1 rfl rfl ty3 rfl) rfl ?_;refine Cov.g_on rfl ?_;refine Cov.q .ro (.fieldAddr 0 rfl fl49_0 ty3.sz rfl) rfl ?_;refine Cov.g_on rfl ?_;refine Cov.q .ro (.load_own 0 rfl rfl ty3 rfl) rfl ?_;refine Cov.g_on rfl ?_;refine Cov.q .ro (.lss rfl rfl) rfl ?_
      refine Cov.g_on rfl ?_;refine Cov.q .ro (.pick_f rfl rfl) rfl ?_
      refine Cov.prune _ ?_ (Cov.same rfl rfl rfl (hb27 () trivial))
      exact ⟨dor_f c26, rfl, rfl, trivial⟩
   ·refine Cov.g_off rfl rfl rfl ?_
    refine Cov.g_off rfl rfl rfl ?_;refine Cov.g_off rfl rfl rfl ?_;refine Cov.g_off rfl rfl rfl ?_;refine Cov.gu_off rfl rfl ?_;refine Cov.gu_off rfl rfl ?_;refine Cov.gu_off rfl rfl ?_;refine Cov.gu_off rfl rfl ?_;refine Cov.gu_off rfl rfl ?_;refine Cov.g_off rfl rfl rfl ?_
    refine Cov.q .ro (.pick_f rfl rfl) rfl ?_
    refine Cov.prune _ ?_ (Cov.same rfl rfl rfl (hb23 () trivial))
    exact ⟨dand_f (bne_of c22), rfl, trivial⟩
 ·intro hb12
  refine Cov.split_b 7 rfl (fun c11 => ?_) (fun c11 => ?_)
  ·have r30 := ifT h14 c11
   refine Cov.g_on rfl ?_;refine Cov.q .ro (.load_own_a 0 [_] rfl rfl ty49 rfl) rfl ?_;refine Cov.g_on rfl ?_
   obtain ⟨u31, hu31, r32⟩ := bind_some r30; clear r30
   refine Cov.callS (b1 := []) (b2 := [_, _]) (s1 := []) [_] [] .ro rfl rfl Tryz.call145 rfl rfl (field_Check_c (G := G) List.mem_cons_self  hu31) rfl (fun v34 bo so h33 => ?_)
   obtain ⟨rfl, rfl, rfl⟩ := h33
   refine Cov.same (bl' := [_, _]) (sl' := []) rfl rfl rfl ?_;refine Cov.g_on rfl ?_;refine Cov.q .ro (.eql rfl rfl) rfl ?_;refine Cov.q .ro (.pick_t rfl rfl) rfl ?_
   refine Cov.prune _ ?_ (Cov.same rfl rfl rfl (hb12 () trivial))
   exact ⟨sval r32, rfl, rfl, rfl, trivial⟩
  ·have r35 := ifBF h14 c11
   refine Cov.g_off rfl rfl rfl ?_;refine Cov.g_off rfl rfl rfl ?_;refine Cov.g_off rfl rfl rfl ?_;refine Cov.q .ro (.pick_f rfl rfl) rfl ?_
   refine Cov.prune _ ?_ (Cov.same rfl rfl rfl (hb12 () trivial))
   exact ⟨sval r35, rfl, rfl, rfl, trivial⟩
set_option maxHeartbeats 4000000 in
set_option maxRecDepth 100000 in
theorem wish_within_c {Fs : List Hp} {G : Hp} {x0 : Int} {x1 : Int} {x2 : Int} {r : Bool} (hG : G ∈ Fs)  (h : wish_within x0 x1 x2 = some r) : RetS Tryz.prog 100 #[.int .i64 x0, .int .i64 x1, .int .i64 x2] Fs [] [] (fun v bo so => v = .bool r ∧ bo = [] ∧ so = []) := by
 unfold wish_within at h
 try dsimp only at h
 refine RetS.of (vs := [_, _, _]) Tryz.func100 rfl Tryz.ntmps100 [(0, _), (1, _), (2, _)] ⟨rfl, rfl, rfl, trivial⟩ rfl hG fun w0 S0 hS0 B0 => ?_
 refine Cov.seq ?_;refine Cov.region rfl ?_;refine Cov.q .ro (.assign rfl) rfl ?_;refine Cov.region_end ?_;refine Cov.seq ?_;refine Cov.region rfl ?_;refine Cov.q .ro (.move rfl) rfl ?_;refine Cov.q .ro (.move rfl) rfl ?_;refine Cov.q .ro (.geq rfl rfl) rfl ?_
 refine Cov.q .ro (.move rfl) rfl ?_;refine Cov.cutR 4 (β := Unit) (fun y => [(14, .bool (decide ((x1 ≤ x0) ∧ (x0 ≤ x2))))]) [(6, _)] (fun y => G :: Fs) (fun y => []) [] (fun y => []) [] (fun y => True) ⟨rfl, trivial⟩ [] rfl [] rfl ?_ ?_
 ·rintro _ _
  refine Cov.prune [(14, .bool (decide ((x1 ≤ x0) ∧ (x0 ≤ x2)))), (6, _)] ⟨rfl, rfl, trivial⟩ ?_;refine Cov.same (bl' := []) (sl' := []) (Fs' := G :: Fs) rfl rfl rfl ?_;refine Cov.q .ro (.assign rfl) rfl ?_;refine Cov.region_end ?_
  cases h
  refine Cov.retS (c := ⟨100, none⟩) (.inr ⟨_, rfl⟩) [.tmp 6] [_] rfl Tryz.func100 Tryz.results100 ⟨RV.tmp rfl, trivial⟩ (fun _ h => List.mem_cons_of_mem _ h) ⟨rfl, rfl, rfl⟩
 ·intro hb2
  refine Cov.split 10 rfl (fun c1 => ?_) (fun c1 => ?_)
  ·refine Cov.g_on rfl ?_
   refine Cov.q .ro (.move rfl) rfl ?_;refine Cov.g_on rfl ?_;refine Cov.q .ro (.move rfl) rfl ?_;refine Cov.g_on rfl ?_;refine Cov.q .ro (.leq rfl rfl) rfl ?_;refine Cov.q .ro (.pick_t rfl rfl) rfl ?_
   refine Cov.prune _ ?_ (Cov.same rfl rfl rfl (hb2 () trivial))
   exact ⟨dand_t c1, rfl, trivial⟩
  ·refine Cov.g_off rfl rfl rfl ?_
   refine Cov.g_off rfl rfl rfl ?_;refine Cov.g_off rfl rfl rfl ?_;refine Cov.q .ro (.pick_f rfl rfl) rfl ?_
   refine Cov.prune _ ?_ (Cov.same rfl rfl rfl (hb2 () trivial))
   exact ⟨dand_f c1, rfl, trivial⟩
set_option maxHeartbeats 4000000 in
set_option maxRecDepth 100000 in
theorem scheme_look_c {Fs : List Hp} {G : Hp} {x0_0 : Int} {x0_1 : Int} {x0_2 : Int} {x0_3 : Int} {x1_0 : Int} {x2 : Int} {r : Int} (hG : G ∈ Fs)  (h : scheme_look (x0_0, x0_1, x0_2, x0_3) x1_0 x2 = some r) : RetS Tryz.prog 146 #[.agg #[.int .i64 x0_0, .int .i64 x0_1, .int .i64 x0_2, .int .i64 x0_3], .agg #[.int .i64 x1_0], .int .i64 x2] Fs [] [] (fun v bo so => v = .int .i64 r ∧ bo = [] ∧ so = []) := by
 unfold scheme_look at h
 try dsimp only at h
 refine RetS.of (vs := [_, _, _]) Tryz.func146 rfl Tryz.ntmps146 [(0, _), (1, _), (2, _)] ⟨rfl, rfl, rfl, trivial⟩ rfl hG fun w0 S0 hS0 B0 => ?_
 refine Cov.seq ?_;refine Cov.region rfl ?_
 refine Cov.box [_, _, _, _] .ro rfl rfl rfl (fun b1 hb1 => ?_)
 refine Cov.box [_] .ro rfl rfl rfl (fun b2 hb2 => ?_)
 refine Cov.q .ro (.assign rfl) rfl ?_;refine Cov.region_end ?_;refine Cov.seq ?_;refine Cov.block ?_;refine Cov.seq ?_;refine Cov.region rfl ?_;refine Cov.q .ro (.load_own_a 1 [_, _, _, _] rfl rfl ty27 rfl) rfl ?_;refine Cov.q .ro (.load_own_a 0 [_] rfl rfl ty49 rfl) rfl ?_
 obtain ⟨u3, hu3, r4⟩ := bind_some h; clear h
 refine Cov.callS (b1 := []) (b2 := [_, _]) (s1 := []) [_, _] [] .ro rfl rfl Tryz.call99 rfl rfl (scheme_Valid_c (G := G) List.mem_cons_self  hu3) rfl (fun v6 bo so h5 => ?_)
 obtain ⟨rfl, rfl, rfl⟩ := h5
 refine Cov.same (bl' := [_, _]) (sl' := []) rfl rfl rfl ?_;refine Cov.q .ro (.not rfl) rfl ?_;refine Cov.q .ro (.assign rfl) rfl ?_;refine Cov.region_end ?_
 refine Cov.cond rfl (fun c7 => ?_) (fun c7 => ?_)
 ·have r8 := ifT r4 c7; clear r4
  refine Cov.seq ?_;refine Cov.region rfl ?_;refine Cov.q .ro (.assign rfl) rfl ?_;refine Cov.region_end ?_
  cases r8
  refine Cov.drop 2 0 [] _ rfl rfl ?_
  refine Cov.retS (c := ⟨146, none⟩) (.inr ⟨_, rfl⟩) [.tmp 6] [_] rfl Tryz.func146 Tryz.results146 ⟨RV.tmp rfl, trivial⟩ (fun _ h => List.mem_cons_of_mem _ h) ⟨rfl, rfl, rfl⟩
 ·have r9 := ifBF r4 c7; clear r4
  refine Cov.seq ?_;refine Cov.region rfl ?_;refine Cov.q .ro (.move rfl) rfl ?_
  obtain ⟨u10, hu10, r11⟩ := bind_some r9; clear r9
  refine Cov.callS (b1 := []) (b2 := [_, _]) (s1 := []) [_, _, _] [] .ro rfl rfl Tryz.call172 rfl rfl (scheme_within_c (G := G) List.mem_cons_self  hu10) rfl (fun v13 bo so h12 => ?_)
  obtain ⟨rfl, rfl, rfl⟩ := h12
  refine Cov.same (bl' := [_, _]) (sl' := []) rfl rfl rfl ?_;refine Cov.q .ro (.not rfl) rfl ?_;refine Cov.q .ro (.assign rfl) rfl ?_;refine Cov.region_end ?_;refine Cov.prune [(12, _)] ⟨rfl, trivial⟩ ?_
  refine Cov.cond rfl (fun c14 => ?_) (fun c14 => ?_)
  ·have r15 := ifT r11 c14; clear r11
   refine Cov.seq ?_;refine Cov.region rfl ?_;refine Cov.q .ro (.assign rfl) rfl ?_;refine Cov.region_end ?_
   cases r15
   refine Cov.drop 2 0 [] _ rfl rfl ?_
   refine Cov.retS (c := ⟨146, none⟩) (.inr ⟨_, rfl⟩) [.tmp 6] [_] rfl Tryz.func146 Tryz.results146 ⟨RV.tmp rfl, trivial⟩ (fun _ h => List.mem_cons_of_mem _ h) ⟨rfl, rfl, rfl⟩
  ·have r16 := ifBF r11 c14; clear r11
   refine Cov.skip ?_;refine Cov.inBlock ?_;refine Cov.seq ?_;refine Cov.region rfl ?_;refine Cov.q .ro (.assign rfl) rfl ?_;refine Cov.region_end ?_
   cases r16
   refine Cov.drop 2 0 [] _ rfl rfl ?_
   refine Cov.retS (c := ⟨146, none⟩) (.inr ⟨_, rfl⟩) [.tmp 6] [_] rfl Tryz.func146 Tryz.results146 ⟨RV.tmp rfl, trivial⟩ (fun _ h => List.mem_cons_of_mem _ h) ⟨rfl, rfl, rfl⟩
set_option maxHeartbeats 4000000 in
set_option maxRecDepth 100000 in
theorem scheme_storage_c {Fs : List Hp} {G : Hp} {x0_0 : Int} {x0_1 : Int} {x0_2 : Int} {x0_3 : Int} {r : (Int × Int × Int)} (hG : G ∈ Fs)  (h : scheme_storage (x0_0, x0_1, x0_2, x0_3) = some r) : RetS Tryz.prog 174 #[.agg #[.int .i64 x0_0, .int .i64 x0_1, .int .i64 x0_2, .int .i64 x0_3]] Fs [] [] (fun v bo so => v = .agg #[.int .i64 r.1, .int .i64 r.2.1, .int .i64 r.2.2] ∧ bo = [] ∧ so = []) := by
 unfold scheme_storage at h
 try dsimp only at h
 refine RetS.of (vs := [_]) Tryz.func174 rfl Tryz.ntmps174 [(0, _)] ⟨rfl, trivial⟩ rfl hG fun w0 S0 hS0 B0 => ?_
 refine Cov.seq ?_;refine Cov.region rfl ?_
 refine Cov.box [_, _, _, _] .ro rfl rfl rfl (fun b1 hb1 => ?_)
 refine Cov.alloc .ro ty263 rfl (fun b2 hb2 => ?_)
 refine Cov.region_end ?_;refine Cov.seq ?_;refine Cov.region rfl ?_;refine Cov.q .ro (.fieldAddr 1 rfl fl27_1 ty3.sz rfl) rfl ?_;refine Cov.q .ro (.load_own 1 rfl rfl ty3 rfl) rfl ?_;refine Cov.q .ro (.fieldAddr 2 rfl fl27_2 ty3.sz rfl) rfl ?_;refine Cov.q .ro (.load_own 1 rfl rfl ty3 rfl) rfl ?_;refine Cov.q .ro (.fieldAddr 3 rfl fl27_3 ty3.sz rfl) rfl ?_;refine Cov.q .ro (.load_own 1 rfl rfl ty3 rfl) rfl ?_
 refine Cov.q .ro (.build [_, _, _] [(0, _), (1, _), (2, _)] ty263 pl263 rfl rfl) rfl ?_;refine Cov.store 0 [_, _, _] [_, _] .ro rfl rfl rfl ty263 rfl rfl rfl rfl ?_;refine Cov.region_end ?_
 cases h
 refine Cov.retSD 2 (c := ⟨174, none⟩) (.inr ⟨_, rfl⟩) [.cell 2 263] [_] rfl Tryz.func174 Tryz.results174 ⟨RV.cell_a 0 [_, _, _] rfl rfl ty263 rfl, trivial⟩ (fun _ h => List.mem_cons_of_mem _ h) ⟨rfl, rfl, rfl⟩
set_option maxHeartbeats 4000000 in
set_option maxRecDepth 100000 in
theorem scheme_kindOf_c {Fs : List Hp} {G : Hp} {x0_0 : Int} {x0_1 : Int} {x0_2 : Int} {x0_3 : Int} {r : (Sum Int (Sum (Int × Int) (Int × Int × Int)))} (hG : G ∈ Fs)  (h : scheme_kindOf (x0_0, x0_1, x0_2, x0_3) = some r) : RetS Tryz.prog 147 #[.agg #[.int .i64 x0_0, .int .i64 x0_1, .int .i64 x0_2, .int .i64 x0_3]] Fs [] [] (fun v bo so => v = (ifc250 r) ∧ bo = [] ∧ so = []) := by
 unfold scheme_kindOf at h
 try dsimp only at h
 refine RetS.of (vs := [_]) Tryz.func147 rfl Tryz.ntmps147 [(0, _)] ⟨rfl, trivial⟩ rfl hG fun w0 S0 hS0 B0 => ?_
 refine Cov.seq ?_;refine Cov.region rfl ?_
 refine Cov.box [_, _, _, _] .ro rfl rfl rfl (fun b1 hb1 => ?_)
 refine Cov.q .ro (.assign rfl) rfl ?_;refine Cov.region_end ?_;refine Cov.seq ?_;refine Cov.seq ?_;refine Cov.region rfl ?_;refine Cov.q .ro (.fieldAddr 0 rfl fl27_0 ty3.sz rfl) rfl ?_;refine Cov.q .ro (.load_own 0 rfl rfl ty3 rfl) rfl ?_;refine Cov.region_end ?_;refine Cov.block ?_
 refine Cov.seq ?_;refine Cov.region rfl ?_;refine Cov.q .ro (.eql rfl rfl) rfl ?_;refine Cov.q .ro (.assign rfl) rfl ?_;refine Cov.region_end ?_
 refine Cov.cond_dec rfl (fun c2 => ?_) (fun c2 => ?_)
 ·have r3 := ifT h c2; clear h
  refine Cov.seq ?_;refine Cov.region rfl ?_;refine Cov.q .ro (.fieldAddr 1 rfl fl27_1 ty3.sz rfl) rfl ?_;refine Cov.q .ro (.load_own 0 rfl rfl ty3 rfl) rfl ?_;refine Cov.q .ro (.build [_] [(0, _)] ty291 pl291 rfl rfl) rfl ?_;refine Cov.q .ro (.cast (show _ = ifc250 (Sum.inl x0_1) from rfl) (.mkIface rfl (by kernel_rfl))) rfl ?_;refine Cov.q .ro (.assign rfl) rfl ?_;refine Cov.region_end ?_
  cases r3
  refine Cov.drop 1 0 [] _ rfl rfl ?_
  refine Cov.retS (c := ⟨147, none⟩) (.inr ⟨_, rfl⟩) [.tmp 2] [_] rfl Tryz.func147 Tryz.results147 ⟨RV.tmp rfl, trivial⟩ (fun _ h => List.mem_cons_of_mem _ h) ⟨rfl, rfl, rfl⟩
 ·have r4 := ifF h c2; clear h
  refine Cov.seq ?_;refine Cov.region rfl ?_;refine Cov.q .ro (.eql rfl rfl) rfl ?_;refine Cov.q .ro (.assign rfl) rfl ?_;refine Cov.region_end ?_
  refine Cov.cond_dec rfl (fun c5 => ?_) (fun c5 => ?_)
  ·have r6 := ifT r4 c5; clear r4
   refine Cov.seq ?_;refine Cov.region rfl ?_;refine Cov.q .ro (.fieldAddr 1 rfl fl27_1 ty3.sz rfl) rfl ?_;refine Cov.q .ro (.load_own 0 rfl rfl ty3 rfl) rfl ?_;refine Cov.q .ro (.fieldAddr 2 rfl fl27_2 ty3.sz rfl) rfl ?_;refine Cov.q .ro (.load_own 0 rfl rfl ty3 rfl) rfl ?_;refine Cov.q .ro (.build [_, _] [(0, _), (1, _)] ty292 pl292 rfl rfl) rfl ?_;refine Cov.q .ro (.cast (show _ = ifc250 (Sum.inr (Sum.inl (x0_1, x0_2))) from rfl) (.mkIface rfl (by kernel_rfl))) rfl ?_;refine Cov.q .ro (.assign rfl) rfl ?_
   refine Cov.region_end ?_;refine Cov.prune [(2, _)] ⟨rfl, trivial⟩ ?_
   cases r6
   refine Cov.drop 1 0 [] _ rfl rfl ?_
   refine Cov.retS (c := ⟨147, none⟩) (.inr ⟨_, rfl⟩) [.tmp 2] [_] rfl Tryz.func147 Tryz.results147 ⟨RV.tmp rfl, trivial⟩ (fun _ h => List.mem_cons_of_mem _ h) ⟨rfl, rfl, rfl⟩
  ·have r7 := ifF r4 c5; clear r4
   refine Cov.skip ?_;refine Cov.inBlock ?_;refine Cov.seq ?_;refine Cov.region rfl ?_;refine Cov.q .ro (.load_own_a 0 [_, _, _, _] rfl rfl ty27 rfl) rfl ?_
   obtain ⟨u8, hu8, r9⟩ := bind_some r7; clear r7
   refine Cov.callS (b1 := []) (b2 := [_]) (s1 := []) [_] [] .ro rfl rfl Tryz.call174 rfl rfl (scheme_storage_c (G := G) List.mem_cons_self  hu8) rfl (fun v11 bo so h10 => ?_)
   obtain ⟨rfl, rfl, rfl⟩ := h10
   refine Cov.same (bl' := [_]) (sl' := []) rfl rfl rfl ?_;refine Cov.q .ro (.cast (show _ = ifc250 (Sum.inr (Sum.inr u8)) from rfl) (.mkIface rfl (by kernel_rfl))) rfl ?_;refine Cov.q .ro (.assign rfl) rfl ?_;refine Cov.region_end ?_
   cases r9
   refine Cov.drop 1 0 [] _ rfl rfl ?_
   refine Cov.retS (c := ⟨147, none⟩) (.inr ⟨_, rfl⟩) [.tmp 2] [_] rfl Tryz.func147 Tryz.results147 ⟨RV.tmp rfl, trivial⟩ (fun _ h => List.mem_cons_of_mem _ h) ⟨rfl, rfl, rfl⟩
set_option maxHeartbeats 4000000 in
set_option maxRecDepth 100000 in
theorem parity_check_c {Fs : List Hp} {G : Hp} {x0_0 : Int} {x1 : Int} {x2 : Int} {r : Int} (hG : G ∈ Fs)  (h : parity_check x0_0 x1 x2 = some r) : RetS Tryz.prog 238 #[.agg #[.int .i64 x0_0], .int .i64 x1, .int .i64 x2] Fs [] [] (fun v bo so => v = .int .i64 r ∧ bo = [] ∧ so = []) := by
 unfold parity_check at h
 try dsimp only at h
 refine RetS.of (vs := [_, _, _]) Tryz.func238 rfl Tryz.ntmps238 [(0, _), (1, _), (2, _)] ⟨rfl, rfl, rfl, trivial⟩ rfl hG fun w0 S0 hS0 B0 => ?_
 refine Cov.seq ?_;refine Cov.region rfl ?_
 refine Cov.box [_] .ro rfl rfl rfl (fun b1 hb1 => ?_)
 refine Cov.q .ro (.assign rfl) rfl ?_;refine Cov.region_end ?_;refine Cov.seq ?_;refine Cov.seq ?_;refine Cov.region rfl ?_;refine Cov.q .ro (.load_own_a 0 [_] rfl rfl ty49 rfl) rfl ?_
 obtain ⟨u2, hu2, r3⟩ := bind_some h; clear h
 refine Cov.callS (b1 := []) (b2 := [_]) (s1 := []) [_] [] .ro rfl rfl Tryz.call173 rfl rfl (residue_Of_c (G := G) List.mem_cons_self  hu2) rfl (fun v5 bo so h4 => ?_)
 obtain ⟨rfl, rfl, rfl⟩ := h4
 refine Cov.same (bl' := [_]) (sl' := []) rfl rfl rfl ?_;refine Cov.q .ro (.move rfl) rfl ?_;refine Cov.q .ro (.extract rfl rfl) rfl ?_;refine Cov.q .ro (.extract rfl rfl) rfl ?_;refine Cov.q .ro (.assign rfl) rfl ?_;refine Cov.q .ro (.assign rfl) rfl ?_;refine Cov.region_end ?_;refine Cov.seq ?_;refine Cov.region rfl ?_
 refine Cov.q .ro (.move rfl) rfl ?_;refine Cov.q .ro (.not rfl) rfl ?_;refine Cov.region_end ?_
 refine Cov.cond rfl (fun c6 => ?_) (fun c6 => ?_)
 ·have r7 := ifT r3 c6; clear r3
  refine Cov.seq ?_;refine Cov.region rfl ?_;refine Cov.q .ro (.assign rfl) rfl ?_;refine Cov.region_end ?_;refine Cov.prune [(6, _)] ⟨rfl, trivial⟩ ?_
  cases r7
  refine Cov.drop 1 0 [] _ rfl rfl ?_
  refine Cov.retS (c := ⟨238, none⟩) (.inr ⟨_, rfl⟩) [.tmp 6] [_] rfl Tryz.func238 Tryz.results238 ⟨RV.tmp rfl, trivial⟩ (fun _ h => List.mem_cons_of_mem _ h) ⟨rfl, rfl, rfl⟩
 ·have r8 := ifBF r3 c6; clear r3
  refine Cov.skip ?_;refine Cov.seq ?_;refine Cov.seq ?_;refine Cov.region rfl ?_;refine Cov.q .ro (.move rfl) rfl ?_;refine Cov.q .ro (.lss rfl rfl) rfl ?_;refine Cov.q .ro (.move rfl) rfl ?_;refine Cov.cutR 3 (β := Unit) (fun y => [(21, .bool (decide ((x2 < 2) ∨ (10 < x2))))]) [(1, _)] (fun y => G :: Fs) (fun y => []) [_] (fun y => []) [] (fun y => True) ⟨rfl, trivial⟩ [0] rfl [] rfl ?_ ?_
  ·rintro _ _
   refine Cov.prune [(21, .bool (decide ((x2 < 2) ∨ (10 < x2)))), (1, _)] ⟨rfl, rfl, trivial⟩ ?_;refine Cov.same (bl' := [_]) (sl' := []) (Fs' := G :: Fs) rfl rfl rfl ?_;refine Cov.q .ro (.move rfl) rfl ?_;refine Cov.cutR 3 (β := Unit) (fun y => [(25, .bool (decide (((x2 < 2) ∨ (10 < x2)) ∨ (x1 < 1))))]) [(1, _)] (fun y => G :: Fs) (fun y => []) [_] (fun y => []) [] (fun y => True) ⟨rfl, trivial⟩ [0] rfl [] rfl ?_ ?_
   ·rintro _ _
    refine Cov.prune [(25, .bool (decide (((x2 < 2) ∨ (10 < x2)) ∨ (x1 < 1)))), (1, _)] ⟨rfl, rfl, trivial⟩ ?_;refine Cov.same (bl' := [_]) (sl' := []) (Fs' := G :: Fs) rfl rfl rfl ?_;refine Cov.q .ro (.move rfl) rfl ?_;refine Cov.cutR 3 (β := Unit) (fun y => [(29, .bool (decide ((((x2 < 2) ∨ (10 < x2)) ∨ (x1 < 1)) ∨ (1024 < x1))))]) [] (fun y => G :: Fs) (fun y => []) [_] (fun y => []) [] (fun y => True) trivial [0] rfl [] rfl ?_ ?_
    ·rintro _ _
     refine Cov.prune [(29, .bool (decide ((((x2 < 2) ∨ (10 < x2)) ∨ (x1 < 1)) ∨ (1024 < x1))))] ⟨rfl, trivial⟩ ?_;refine Cov.same (bl' := [_]) (sl' := []) (Fs' := G :: Fs) rfl rfl rfl ?_;refine Cov.region_end ?_
     refine Cov.cond_dec rfl (fun c21 => ?_) (fun c21 => ?_)
     ·have r22 := ifT r8 c21; clear r8
      refine Cov.seq ?_;refine Cov.region rfl ?_;refine Cov.q .ro (.assign rfl) rfl ?_;refine Cov.region_end ?_
      cases r22
      refine Cov.drop 1 0 [] _ rfl rfl ?_
      refine Cov.retS (c := ⟨238, none⟩) (.inr ⟨_, rfl⟩) [.tmp 6] [_] rfl Tryz.func238 Tryz.results238 ⟨RV.tmp rfl, trivial⟩ (fun _ h => List.mem_cons_of_mem _ h) ⟨rfl, rfl, rfl⟩
     ·have r23 := ifF r8 c21; clear r8
      refine Cov.skip ?_;refine Cov.seq ?_;refine Cov.region rfl ?_;refine Cov.q .ro (.assign rfl) rfl ?_;refine Cov.region_end ?_
      cases r23
      refine Cov.drop 1 0 [] _ rfl rfl ?_
      refine Cov.retS (c := ⟨238, none⟩) (.inr ⟨_, rfl⟩) [.tmp 6] [_] rfl Tryz.func238 Tryz.results238 ⟨RV.tmp rfl, trivial⟩ (fun _ h => List.mem_cons_of_mem _ h) ⟨rfl, rfl, rfl⟩
    ·intro hb18
     refine Cov.split 26 rfl (fun c17 => ?_) (fun c17 => ?_)
     ·refine Cov.g_off rfl rfl rfl ?_
      refine Cov.g_off rfl rfl rfl ?_;refine Cov.q .ro (.pick_t rfl rfl) rfl ?_
      refine Cov.prune _ ?_ (Cov.same rfl rfl rfl (hb18 () trivial))
      exact ⟨dor_t c17, trivial⟩
     ·refine Cov.g_on rfl ?_
      refine Cov.q .ro (.move rfl) rfl ?_;refine Cov.g_on rfl ?_;refine Cov.q .ro (.gtr rfl rfl) rfl ?_;refine Cov.q .ro (.pick_f rfl rfl) rfl ?_
      refine Cov.prune _ ?_ (Cov.same rfl rfl rfl (hb18 () trivial))
      exact ⟨dor_f c17, trivial⟩
   ·intro hb14
    refine Cov.split 22 rfl (fun c13 => ?_) (fun c13 => ?_)
    ·refine Cov.g_off rfl rfl rfl ?_
     refine Cov.g_off rfl rfl rfl ?_;refine Cov.q .ro (.pick_t rfl rfl) rfl ?_
     refine Cov.prune _ ?_ (Cov.same rfl rfl rfl (hb14 () trivial))
     exact ⟨dor_t c13, rfl, trivial⟩
    ·refine Cov.g_on rfl ?_
     refine Cov.q .ro (.move rfl) rfl ?_;refine Cov.g_on rfl ?_;refine Cov.q .ro (.lss rfl rfl) rfl ?_;refine Cov.q .ro (.pick_f rfl rfl) rfl ?_
     refine Cov.prune _ ?_ (Cov.same rfl rfl rfl (hb14 () trivial))
     exact ⟨dor_f c13, rfl, trivial⟩
  ·intro hb10
   refine Cov.split 18 rfl (fun c9 => ?_) (fun c9 => ?_)
   ·refine Cov.g_off rfl rfl rfl ?_
    refine Cov.g_off rfl rfl rfl ?_;refine Cov.q .ro (.pick_t rfl rfl) rfl ?_
    refine Cov.prune _ ?_ (Cov.same rfl rfl rfl (hb10 () trivial))
    exact ⟨dor_t c9, rfl, trivial⟩
   ·refine Cov.g_on rfl ?_
    refine Cov.q .ro (.move rfl) rfl ?_;refine Cov.g_on rfl ?_;refine Cov.q .ro (.gtr rfl rfl) rfl ?_;refine Cov.q .ro (.pick_f rfl rfl) rfl ?_
    refine Cov.prune _ ?_ (Cov.same rfl rfl rfl (hb10 () trivial))
    exact ⟨dor_f c9, rfl, trivial⟩
set_option maxHeartbeats 4000000 in
set_option maxRecDepth 100000 in
theorem parity_Limits_c {Fs : List Hp} {G : Hp} {x0_0 : Int} {x1 : Int} {x2 : Int} {r : ((List Int) × Int)} (hG : G ∈ Fs)  (h : parity_Limits x0_0 x1 x2 = some r) : RetS Tryz.prog 237 #[.agg #[.int .i64 x0_0], .int .i64 x1, .int .i64 x2] Fs [] [] (fun v bo so => ∃ (oa0 : Option Addr) (ok0 : Nat) (oc0 : List Value), v = .tuple #[.slice oa0 r.1.length ok0, .int .i64 r.2] ∧ bo = [] ∧ so = [.s (.slice oa0 r.1.length ok0) 3 1 r.1.length oc0] ∧ OL (Rep.int .i64) G oc0 r.1) := by
 unfold parity_Limits at h
 try dsimp only at h
 refine RetS.of (vs := [_, _, _]) Tryz.func237 rfl Tryz.ntmps237 [(0, _), (1, _), (2, _)] ⟨rfl, rfl, rfl, trivial⟩ rfl hG fun w0 S0 hS0 B0 => ?_
 refine Cov.seq ?_;refine Cov.region rfl ?_
 refine Cov.box [_] .ro rfl rfl rfl (fun b1 hb1 => ?_)
 refine Cov.q .ro (.assign rfl) rfl ?_;refine Cov.q .ro (.assign rfl) rfl ?_;refine Cov.region_end ?_;refine Cov.seq ?_;refine Cov.seq ?_;refine Cov.region rfl ?_;refine Cov.q .ro (.load_own_a 0 [_] rfl rfl ty49 rfl) rfl ?_;refine Cov.q .ro (.move rfl) rfl ?_;refine Cov.q .ro (.move rfl) rfl ?_
 obtain ⟨u2, hu2, r3⟩ := bind_some h; clear h
 refine Cov.callS (b1 := []) (b2 := [_]) (s1 := []) [_, _, _] [] .ro rfl rfl Tryz.call238 rfl rfl (parity_check_c (G := G) List.mem_cons_self  hu2) rfl (fun v5 bo so h4 => ?_)
 obtain ⟨rfl, rfl, rfl⟩ := h4
 refine Cov.same (bl' := [_]) (sl' := []) rfl rfl rfl ?_;refine Cov.q .ro (.assign rfl) rfl ?_;refine Cov.region_end ?_;refine Cov.seq ?_;refine Cov.region rfl ?_;refine Cov.q .ro (.move rfl) rfl ?_;refine Cov.q .ro (.neq rfl rfl) rfl ?_;refine Cov.region_end ?_
 refine Cov.cond_dec rfl (fun c6 => ?_) (fun c6 => ?_)
 ·have r7 := ifT r3 c6; clear r3
  refine Cov.seq ?_;refine Cov.region rfl ?_;refine Cov.q .ro (.move rfl) rfl ?_;refine Cov.q .ro (.assign rfl) rfl ?_;refine Cov.q .ro (.assign rfl) rfl ?_;refine Cov.region_end ?_;refine Cov.own_nil 3 1 ?_
  cases r7
  refine Cov.drop 1 0 [] _ rfl rfl ?_
  refine Cov.retS (c := ⟨237, none⟩) (.inr ⟨_, rfl⟩) [.tmp 6, .tmp 7] [_, _] rfl Tryz.func237 Tryz.results237 ⟨RV.tmp rfl, RV.tmp rfl, trivial⟩ (fun _ h => List.mem_cons_of_mem _ h) ⟨none, 0, [], rfl, rfl, rfl, (OL.nil (Rp' := (Rep.int .i64)))⟩
 ·have r9 := ifF r3 c6; clear r3
  refine Cov.skip ?_;refine Cov.seq ?_;refine Cov.region rfl ?_;refine Cov.q .ro (.assign rfl) rfl ?_;refine Cov.region_end ?_;refine Cov.seq ?_;refine Cov.seq ?_;refine Cov.region rfl ?_;refine Cov.q .ro (.move rfl) rfl ?_
  refine Cov.q .ro (.move rfl) rfl ?_;refine Cov.q .ro (.subw rfl rfl) rfl ?_;refine Cov.q .ro (.mulw rfl rfl) rfl ?_;refine Cov.q .ro (.move rfl) rfl ?_;refine Cov.region_end ?_;refine Cov.prune [(3, _), (9, _), (20, _), (21, _)] ⟨rfl, rfl, rfl, rfl, trivial⟩ ?_;refine Cov.block ?_;refine Cov.own_nil 3 1 ?_
  refine Cov.loop2 (α := Nat × List Int × Option Addr × Nat × List Value × Int) (fun y => [(9, .slice y.2.2.1 y.2.1.length y.2.2.2.1), (21, .int .i64 y.2.2.2.2.2)]) [(3, _), (20, _)] (fun y => []) (fun y => []) [_] (fun y => [.s (.slice y.2.2.1 y.2.1.length y.2.2.2.1) 3 1 y.2.1.length y.2.2.2.2.1]) [] (fun y => OL (Rep.int .i64) G y.2.2.2.2.1 y.2.1 ∧ parity_Limits_L1 (w64 (x1 * (w64 (x2 - 1)))) x0_0 y.1 y.2.1 y.2.2.2.2.2 = some r) (fun y => y.1) (big, ([] : List Int), none, 0, [], 0) ⟨(OL.nil (Rp' := (Rep.int .i64))), r9⟩ ⟨rfl, rfl, rfl, rfl, trivial⟩ rfl rfl rfl (fun y hI hb58 => ?_)
  obtain ⟨n48, v50, a51, k52, cs53, v56⟩ := y
  obtain ⟨o54, r57⟩ := hI
  try dsimp only at o54 r57
  refine Cov.prune [(9, .slice a51 v50.length k52), (21, .int .i64 v56), (3, _), (20, _)] ⟨rfl, rfl, rfl, rfl, trivial⟩ ?_;refine Cov.same (bl' := [_]) (sl' := [.s (.slice a51 v50.length k52) 3 1 v50.length cs53]) (Fs' := G :: Fs) rfl rfl rfl ?_
  obtain ⟨m62, rfl⟩ : ∃ m, n48 = m + 1 := by cases n48 with | zero => exact absurd (show (none : Option _) = some _ from r57) (by simp) | succ m => exact ⟨m, rfl⟩
  have r61 : parity_Limits_B1 (w64 (x1 * (w64 (x2 - 1)))) x0_0 (parity_Limits_L1 (w64 (x1 * (w64 (x2 - 1)))) x0_0 m62) v50 v56 = some r := r57; clear r57; unfold parity_Limits_B1 at r61; try dsimp only at r61
  refine Cov.seq ?_;refine Cov.region rfl ?_;refine Cov.q .ro (.lss rfl rfl) rfl ?_;refine Cov.region_end ?_;refine Cov.seq ?_
  refine Cov.cond_dec rfl (fun c63 => ?_) (fun c63 => ?_)
  ·have r64 := ifT r61 c63; clear r61
   refine Cov.skip ?_;refine Cov.seq ?_;refine Cov.block ?_;refine Cov.region rfl ?_;refine Cov.q .ro (.move rfl) rfl ?_;refine Cov.q .ro (.fieldAddr 0 rfl fl49_0 ty3.sz rfl) rfl ?_;refine Cov.q .ro (.load_own 0 rfl rfl ty3 rfl) rfl ?_
   refine Cov.lit [_] [(0, _)] .ro sl41 ty3 rfl rfl rfl rfl rfl rfl (fun b65 hb65 => ?_)
   have o66 : OL (Rep.int .i64) G [.int .i64 x0_0] ([x0_0] : List Int) := ((OL.cons rfl (Rep.intI .i64 x0_0) (OL.nil (Rp' := (Rep.int .i64)))) :)
   refine Cov.reval 26 (n' := ([x0_0] : List Int).length) rfl rfl ?_
   obtain ⟨u72, hu72, r73⟩ := bind_some r64; clear r64
   refine Cov.appO (Q := (Rep.int .i64)) 0 .ro sl41 ty3 rfl rfl rfl rfl rfl rfl o54 o66 rfl rfl rfl B0 hu72 rfl (fun a68 k69 cs70 o71 => ?_)
   refine Cov.q .ro (.assign rfl) rfl ?_;refine Cov.region_end ?_;refine Cov.inBlock ?_;refine Cov.region rfl ?_;refine Cov.q .ro (.addw rfl rfl) rfl ?_;refine Cov.q .ro (.move rfl) rfl ?_;refine Cov.region_end ?_
   refine Cov.prune _ ?_ (Cov.same rfl rfl rfl (hb58 (m62, u72, a68, k69, cs70, (w64 (v56 + 1))) ⟨o71, r73⟩ (Nat.lt_succ_self _)))
   exact ⟨rfl, rfl, rfl, rfl, trivial⟩
  ·have r75 := ifF r61 c63; clear r61
   refine Cov.exit rfl ?_;refine Cov.seq ?_;refine Cov.region rfl ?_;refine Cov.q .ro (.move rfl) rfl ?_;refine Cov.q .ro (.assign rfl) rfl ?_;refine Cov.q .ro (.assign rfl) rfl ?_;refine Cov.region_end ?_
   cases r75
   refine Cov.drop 1 0 [] _ rfl rfl ?_
   refine Cov.retS (c := ⟨237, none⟩) (.inr ⟨_, rfl⟩) [.tmp 6, .tmp 7] [_, _] rfl Tryz.func237 Tryz.results237 ⟨RV.tmp rfl, RV.tmp rfl, trivial⟩ (fun _ h => List.mem_cons_of_mem _ h) ⟨a51, k52, cs53, rfl, rfl, rfl, o54⟩
set_option maxHeartbeats 4000000 in
set_option maxRecDepth 100000 in
theorem scheme_sums_limits_c {Fs : List Hp} {G : Hp} {x0_0 : Int} {x1_0 : Int} {x2 : Int} {r : ((List Int) × Int)} (hG : G ∈ Fs)  (h : scheme_sums_limits x0_0 x1_0 x2 = some r) : RetS Tryz.prog 235 #[.agg #[.int .i64 x0_0], .agg #[.int .i64 x1_0], .int .i64 x2] Fs [] [] (fun v bo so => ∃ (oa0 : Option Addr) (ok0 : Nat) (oc0 : List Value), v = .tuple #[.slice oa0 r.1.length ok0, .int .i64 r.2] ∧ bo = [] ∧ so = [.s (.slice oa0 r.1.length ok0) 3 1 r.1.length oc0] ∧ OL (Rep.int .i64) G oc0 r.1) := by
 unfold scheme_sums_limits at h
 try dsimp only at h
 refine RetS.of (vs := [_, _, _]) Tryz.func235 rfl Tryz.ntmps235 [(0, _), (1, _), (2, _)] ⟨rfl, rfl, rfl, trivial⟩ rfl hG fun w0 S0 hS0 B0 => ?_
 refine Cov.seq ?_;refine Cov.region rfl ?_
 refine Cov.box [_] .ro rfl rfl rfl (fun b1 hb1 => ?_)
 refine Cov.box [_] .ro rfl rfl rfl (fun b2 hb2 => ?_)
 refine Cov.q .ro (.assign rfl) rfl ?_;refine Cov.q .ro (.assign rfl) rfl ?_;refine Cov.region_end ?_;refine Cov.seq ?_;refine Cov.region rfl ?_;refine Cov.q .ro (.load_own_a 0 [_] rfl rfl ty49 rfl) rfl ?_;refine Cov.q .ro (.move rfl) rfl ?_;refine Cov.q .ro (.fieldAddr 0 rfl fl291_0 ty3.sz rfl) rfl ?_;refine Cov.q .ro (.load_own 1 rfl rfl ty3 rfl) rfl ?_
 obtain ⟨u3, hu3, r4⟩ := bind_some h; clear h
 refine Cov.callS (b1 := []) (b2 := [_, _]) (s1 := []) [_, _, _] [] .ro rfl rfl Tryz.call237 rfl rfl (parity_Limits_c (G := G) List.mem_cons_self  hu3) rfl (fun v6 bo so h5 => ?_)
 obtain ⟨a8, k9, cs10, rfl, rfl, rfl, o11⟩ := h5
 refine Cov.same (bl' := [_, _]) (sl' := [_]) rfl rfl rfl ?_;refine Cov.q .ro (.extract rfl rfl) rfl ?_;refine Cov.q .ro (.extract rfl rfl) rfl ?_;refine Cov.q .ro (.assign rfl) rfl ?_;refine Cov.q .ro (.assign rfl) rfl ?_;refine Cov.region_end ?_
 cases r4
 refine Cov.drop 2 0 [] _ rfl rfl ?_
 refine Cov.retS (c := ⟨235, none⟩) (.inr ⟨_, rfl⟩) [.tmp 6, .tmp 7] [_, _] rfl Tryz.func235 Tryz.results235 ⟨RV.tmp rfl, RV.tmp rfl, trivial⟩ (fun _ h => List.mem_cons_of_mem _ h) ⟨a8, k9, cs10, rfl, rfl, rfl, o11⟩
set_option maxHeartbeats 4000000 in
set_option maxRecDepth 100000 in
theorem curve_valid_c {Fs : List Hp} {G : Hp} {x0_0 : Int} {x0_1 : Int} {r : Bool} (hG : G ∈ Fs)  (h : curve_valid (x0_0, x0_1) = some r) : RetS Tryz.prog 245 #[.agg #[.int .i64 x0_0, .int .i64 x0_1]] Fs [] [] (fun v bo so => v = .bool r ∧ bo = [] ∧ so = []) := by
 unfold curve_valid at h
 try dsimp only at h
 refine RetS.of (vs := [_]) Tryz.func245 rfl Tryz.ntmps245 [(0, _)] ⟨rfl, trivial⟩ rfl hG fun w0 S0 hS0 B0 => ?_
 refine Cov.seq ?_;refine Cov.region rfl ?_
 refine Cov.box [_, _] .ro rfl rfl rfl (fun b1 hb1 => ?_)
 refine Cov.q .ro (.assign rfl) rfl ?_;refine Cov.region_end ?_;refine Cov.seq ?_;refine Cov.region rfl ?_;refine Cov.q .ro (.fieldAddr 0 rfl fl259_0 ty3.sz rfl) rfl ?_;refine Cov.q .ro (.load_own 0 rfl rfl ty3 rfl) rfl ?_;refine Cov.q .ro (.geq rfl rfl) rfl ?_;refine Cov.q .ro (.move rfl) rfl ?_;refine Cov.cutR 4 (β := Unit) (fun y => [(10, .bool (decide ((2 ≤ x0_0) ∧ (x0_0 ≤ 10))))]) [(1, _), (2, _)] (fun y => G :: Fs) (fun y => []) [_] (fun y => []) [] (fun y => True) ⟨rfl, rfl, trivial⟩ [0] rfl [] rfl ?_ ?_
 ·rintro _ _
  refine Cov.prune [(10, .bool (decide ((2 ≤ x0_0) ∧ (x0_0 ≤ 10)))), (1, _), (2, _)] ⟨rfl, rfl, rfl, trivial⟩ ?_;refine Cov.same (bl' := [_]) (sl' := []) (Fs' := G :: Fs) rfl rfl rfl ?_;refine Cov.q .ro (.move rfl) rfl ?_;refine Cov.cutR 4 (β := Unit) (fun y => [(15, .bool (decide (((2 ≤ x0_0) ∧ (x0_0 ≤ 10)) ∧ (1 ≤ x0_1))))]) [(1, _), (2, _)] (fun y => G :: Fs) (fun y => []) [_] (fun y => []) [] (fun y => True) ⟨rfl, rfl, trivial⟩ [0] rfl [] rfl ?_ ?_
  ·rintro _ _
   refine Cov.prune [(15, .bool (decide (((2 ≤ x0_0) ∧ (x0_0 ≤ 10)) ∧ (1 ≤ x0_1)))), (1, _), (2, _)] ⟨rfl, rfl, rfl, trivial⟩ ?_;refine Cov.same (bl' := [_]) (sl' := []) (Fs' := G :: Fs) rfl rfl rfl ?_;refine Cov.q .ro (.move rfl) rfl ?_;refine Cov.cutR 6 (β := Unit) (fun y => [(22, .bool (decide ((((2 ≤ x0_0) ∧ (x0_0 ≤ 10)) ∧ (1 ≤ x0_1)) ∧ (x0_1 < x0_0))))]) [(2, _)] (fun y => G :: Fs) (fun y => []) [_] (fun y => []) [] (fun y => True) ⟨rfl, trivial⟩ [0] rfl [] rfl ?_ ?_
   ·rintro _ _
    refine Cov.prune [(22, .bool (decide ((((2 ≤ x0_0) ∧ (x0_0 ≤ 10)) ∧ (1 ≤ x0_1)) ∧ (x0_1 < x0_0)))), (2, _)] ⟨rfl, rfl, trivial⟩ ?_;refine Cov.same (bl' := [_]) (sl' := []) (Fs' := G :: Fs) rfl rfl rfl ?_;refine Cov.q .ro (.assign rfl) rfl ?_;refine Cov.region_end ?_
    cases h
    refine Cov.drop 1 0 [] _ rfl rfl ?_
    refine Cov.retS (c := ⟨245, none⟩) (.inr ⟨_, rfl⟩) [.tmp 2] [_] rfl Tryz.func245 Tryz.results245 ⟨RV.tmp rfl, trivial⟩ (fun _ h => List.mem_cons_of_mem _ h) ⟨rfl, rfl, rfl⟩
   ·intro hb11
    refine Cov.split 16 rfl (fun c10 => ?_) (fun c10 => ?_)
    ·refine Cov.g_on rfl ?_
     refine Cov.q .ro (.fieldAddr 1 rfl fl259_1 ty3.sz rfl) rfl ?_;refine Cov.g_on rfl ?_;refine Cov.q .ro (.load_own 0 rfl rfl ty3 rfl) rfl ?_;refine Cov.g_on rfl ?_;refine Cov.q .ro (.fieldAddr 0 rfl fl259_0 ty3.sz rfl) rfl ?_;refine Cov.g_on rfl ?_;refine Cov.q .ro (.load_own 0 rfl rfl ty3 rfl) rfl ?_;refine Cov.g_on rfl ?_;refine Cov.q .ro (.lss rfl rfl) rfl ?_
     refine Cov.q .ro (.pick_t rfl rfl) rfl ?_
     refine Cov.prune _ ?_ (Cov.same rfl rfl rfl (hb11 () trivial))
     exact ⟨dand_t c10, rfl, trivial⟩
    ·refine Cov.g_off rfl rfl rfl ?_
     refine Cov.g_off rfl rfl rfl ?_;refine Cov.g_off rfl rfl rfl ?_;refine Cov.g_off rfl rfl rfl ?_;refine Cov.g_off rfl rfl rfl ?_;refine Cov.q .ro (.pick_f rfl rfl) rfl ?_
     refine Cov.prune _ ?_ (Cov.same rfl rfl rfl (hb11 () trivial))
     exact ⟨dand_f c10, rfl, trivial⟩
  ·intro hb7
   refine Cov.split 11 rfl (fun c6 => ?_) (fun c6 => ?_)
   ·refine Cov.g_on rfl ?_
    refine Cov.q .ro (.fieldAddr 1 rfl fl259_1 ty3.sz rfl) rfl ?_;refine Cov.g_on rfl ?_;refine Cov.q .ro (.load_own 0 rfl rfl ty3 rfl) rfl ?_;refine Cov.g_on rfl ?_;refine Cov.q .ro (.geq rfl rfl) rfl ?_;refine Cov.q .ro (.pick_t rfl rfl) rfl ?_
    refine Cov.prune _ ?_ (Cov.same rfl rfl rfl (hb7 () trivial))
    exact ⟨dand_t c6, rfl, rfl, trivial⟩
   ·refine Cov.g_off rfl rfl rfl ?_
    refine Cov.g_off rfl rfl rfl ?_;refine Cov.g_off rfl rfl rfl ?_;refine Cov.q .ro (.pick_f rfl rfl) rfl ?_
    refine Cov.prune _ ?_ (Cov.same rfl rfl rfl (hb7 () trivial))
    exact ⟨dand_f c6, rfl, rfl, trivial⟩
 ·intro hb3
  refine Cov.split 6 rfl (fun c2 => ?_) (fun c2 => ?_)
  ·refine Cov.g_on rfl ?_
   refine Cov.q .ro (.fieldAddr 0 rfl fl259_0 ty3.sz rfl) rfl ?_;refine Cov.g_on rfl ?_;refine Cov.q .ro (.load_own 0 rfl rfl ty3 rfl) rfl ?_;refine Cov.g_on rfl ?_;refine Cov.q .ro (.leq rfl rfl) rfl ?_;refine Cov.q .ro (.pick_t rfl rfl) rfl ?_
   refine Cov.prune _ ?_ (Cov.same rfl rfl rfl (hb3 () trivial))
   exact ⟨dand_t c2, rfl, rfl, trivial⟩
  ·refine Cov.g_off rfl rfl rfl ?_
   refine Cov.g_off rfl rfl rfl ?_;refine Cov.g_off rfl rfl rfl ?_;refine Cov.q .ro (.pick_f rfl rfl) rfl ?_
   refine Cov.prune _ ?_ (Cov.same rfl rfl rfl (hb3 () trivial))
   exact ⟨dand_f c2, rfl, rfl, trivial⟩
set_option maxHeartbeats 4000000 in
set_option maxRecDepth 100000 in
theorem curve_Check_c {Fs : List Hp} {G : Hp} {x0_0 : Int} {x1_0 : Int} {x1_1 : Int} {r : Int} (hG : G ∈ Fs)  (h : curve_Check x0_0 (x1_0, x1_1) = some r) : RetS Tryz.prog 244 #[.agg #[.int .i64 x0_0], .agg #[.int .i64 x1_0, .int .i64 x1_1]] Fs [] [] (fun v bo so => v = .int .i64 r ∧ bo = [] ∧ so = []) := by
 unfold curve_Check at h
 try dsimp only at h
 refine RetS.of (vs := [_, _]) Tryz.func244 rfl Tryz.ntmps244 [(0, _), (1, _)] ⟨rfl, rfl, trivial⟩ rfl hG fun w0 S0 hS0 B0 => ?_
 refine Cov.seq ?_;refine Cov.region rfl ?_
 refine Cov.box [_] .ro rfl rfl rfl (fun b1 hb1 => ?_)
 refine Cov.box [_, _] .ro rfl rfl rfl (fun b2 hb2 => ?_)
 refine Cov.q .ro (.assign rfl) rfl ?_;refine Cov.region_end ?_;refine Cov.seq ?_;refine Cov.seq ?_;refine Cov.region rfl ?_;refine Cov.q .ro (.load_own_a 1 [_] rfl rfl ty49 rfl) rfl ?_
 obtain ⟨u3, hu3, r4⟩ := bind_some h; clear h
 refine Cov.callS (b1 := []) (b2 := [_, _]) (s1 := []) [_] [] .ro rfl rfl Tryz.call173 rfl rfl (residue_Of_c (G := G) List.mem_cons_self  hu3) rfl (fun v6 bo so h5 => ?_)
 obtain ⟨rfl, rfl, rfl⟩ := h5
 refine Cov.same (bl' := [_, _]) (sl' := []) rfl rfl rfl ?_;refine Cov.q .ro (.move rfl) rfl ?_;refine Cov.q .ro (.extract rfl rfl) rfl ?_;refine Cov.q .ro (.extract rfl rfl) rfl ?_;refine Cov.q .ro (.assign rfl) rfl ?_;refine Cov.q .ro (.assign rfl) rfl ?_;refine Cov.region_end ?_;refine Cov.seq ?_;refine Cov.region rfl ?_
 refine Cov.q .ro (.move rfl) rfl ?_;refine Cov.q .ro (.not rfl) rfl ?_;refine Cov.region_end ?_
 refine Cov.cond rfl (fun c7 => ?_) (fun c7 => ?_)
 ·have r8 := ifT r4 c7; clear r4
  refine Cov.seq ?_;refine Cov.region rfl ?_;refine Cov.q .ro (.assign rfl) rfl ?_;refine Cov.region_end ?_;refine Cov.prune [(4, _)] ⟨rfl, trivial⟩ ?_
  cases r8
  refine Cov.drop 2 0 [] _ rfl rfl ?_
  refine Cov.retS (c := ⟨244, none⟩) (.inr ⟨_, rfl⟩) [.tmp 4] [_] rfl Tryz.func244 Tryz.results244 ⟨RV.tmp rfl, trivial⟩ (fun _ h => List.mem_cons_of_mem _ h) ⟨rfl, rfl, rfl⟩
 ·have r9 := ifBF r4 c7; clear r4
  refine Cov.skip ?_;refine Cov.seq ?_;refine Cov.seq ?_;refine Cov.region rfl ?_;refine Cov.q .ro (.load_own_a 0 [_, _] rfl rfl ty259 rfl) rfl ?_
  obtain ⟨u10, hu10, r11⟩ := bind_some r9; clear r9
  refine Cov.callS (b1 := []) (b2 := [_, _]) (s1 := []) [_] [] .ro rfl rfl Tryz.call245 rfl rfl (curve_valid_c (G := G) List.mem_cons_self  hu10) rfl (fun v13 bo so h12 => ?_)
  obtain ⟨rfl, rfl, rfl⟩ := h12
  refine Cov.same (bl' := [_, _]) (sl' := []) rfl rfl rfl ?_;refine Cov.q .ro (.not rfl) rfl ?_;refine Cov.q .ro (.move rfl) rfl ?_;refine Cov.cutR 6 (β := Unit) (fun y => [(23, .bool (decide (((!u10) = true) ∨ (x0_0 ≤ x1_0))))]) [] (fun y => G :: Fs) (fun y => []) [_, _] (fun y => []) [] (fun y => True) trivial [0, 1] rfl [] rfl ?_ ?_
  ·rintro _ _
   refine Cov.prune [(23, .bool (decide (((!u10) = true) ∨ (x0_0 ≤ x1_0))))] ⟨rfl, trivial⟩ ?_;refine Cov.same (bl' := [_, _]) (sl' := []) (Fs' := G :: Fs) rfl rfl rfl ?_;refine Cov.region_end ?_
   refine Cov.cond_dec rfl (fun c18 => ?_) (fun c18 => ?_)
   ·have r19 := ifT r11 c18; clear r11
    refine Cov.seq ?_;refine Cov.region rfl ?_;refine Cov.q .ro (.assign rfl) rfl ?_;refine Cov.region_end ?_
    cases r19
    refine Cov.drop 2 0 [] _ rfl rfl ?_
    refine Cov.retS (c := ⟨244, none⟩) (.inr ⟨_, rfl⟩) [.tmp 4] [_] rfl Tryz.func244 Tryz.results244 ⟨RV.tmp rfl, trivial⟩ (fun _ h => List.mem_cons_of_mem _ h) ⟨rfl, rfl, rfl⟩
   ·have r20 := ifF r11 c18; clear r11
    refine Cov.skip ?_;refine Cov.seq ?_;refine Cov.region rfl ?_;refine Cov.q .ro (.assign rfl) rfl ?_;refine Cov.region_end ?_
    cases r20
    refine Cov.drop 2 0 [] _ rfl rfl ?_
    refine Cov.retS (c := ⟨244, none⟩) (.inr ⟨_, rfl⟩) [.tmp 4] [_] rfl Tryz.func244 Tryz.results244 ⟨RV.tmp rfl, trivial⟩ (fun _ h => List.mem_cons_of_mem _ h) ⟨rfl, rfl, rfl⟩
  ·intro hb15
   refine Cov.split_b 17 rfl (fun c14 => ?_) (fun c14 => ?_)
   ·refine Cov.g_off rfl rfl rfl ?_
    refine Cov.g_off rfl rfl rfl ?_;refine Cov.g_off rfl rfl rfl ?_;refine Cov.g_off rfl rfl rfl ?_;refine Cov.g_off rfl rfl rfl ?_;refine Cov.q .ro (.pick_t rfl rfl) rfl ?_
    refine Cov.prune _ ?_ (Cov.same rfl rfl rfl (hb15 () trivial))
    exact ⟨dor_t c14, trivial⟩
   ·refine Cov.g_on rfl ?_
    refine Cov.q .ro (.fieldAddr 0 rfl fl259_0 ty3.sz rfl) rfl ?_;refine Cov.g_on rfl ?_;refine Cov.q .ro (.load_own 0 rfl rfl ty3 rfl) rfl ?_;refine Cov.g_on rfl ?_;refine Cov.q .ro (.fieldAddr 0 rfl fl49_0 ty3.sz rfl) rfl ?_;refine Cov.g_on rfl ?_;refine Cov.q .ro (.load_own 1 rfl rfl ty3 rfl) rfl ?_;refine Cov.g_on rfl ?_;refine Cov.q .ro (.geq rfl rfl) rfl ?_
    refine Cov.q .ro (.pick_f rfl rfl) rfl ?_
    refine Cov.prune _ ?_ (Cov.same rfl rfl rfl (hb15 () trivial))
    exact ⟨dor_f (bne_of c14), trivial⟩
set_option maxHeartbeats 4000000 in
set_option maxRecDepth 100000 in
theorem curve_check_c {Fs : List Hp} {G : Hp} {x0_0 : Int} {x1_0 : Int} {x1_1 : Int} {x2 : Int} {r : Int} (hG : G ∈ Fs)  (h : curve_check x0_0 (x1_0, x1_1) x2 = some r) : RetS Tryz.prog 243 #[.agg #[.int .i64 x0_0], .agg #[.int .i64 x1_0, .int .i64 x1_1], .int .i64 x2] Fs [] [] (fun v bo so => v = .int .i64 r ∧ bo = [] ∧ so = []) := by
 unfold curve_check at h
 try dsimp only at h
 refine RetS.of (vs := [_, _, _]) Tryz.func243 rfl Tryz.ntmps243 [(0, _), (1, _), (2, _)] ⟨rfl, rfl, rfl, trivial⟩ rfl hG fun w0 S0 hS0 B0 => ?_
 refine Cov.seq ?_;refine Cov.region rfl ?_
 refine Cov.box [_] .ro rfl rfl rfl (fun b1 hb1 => ?_)
 refine Cov.box [_, _] .ro rfl rfl rfl (fun b2 hb2 => ?_)
 refine Cov.q .ro (.assign rfl) rfl ?_;refine Cov.region_end ?_;refine Cov.seq ?_;refine Cov.region rfl ?_;refine Cov.q .ro (.load_own_a 1 [_] rfl rfl ty49 rfl) rfl ?_;refine Cov.q .ro (.load_own_a 0 [_, _] rfl rfl ty259 rfl) rfl ?_
 obtain ⟨u3, hu3, r4⟩ := bind_some h; clear h
 refine Cov.callS (b1 := []) (b2 := [_, _]) (s1 := []) [_, _] [] .ro rfl rfl Tryz.call244 rfl rfl (curve_Check_c (G := G) List.mem_cons_self  hu3) rfl (fun v6 bo so h5 => ?_)
 obtain ⟨rfl, rfl, rfl⟩ := h5
 refine Cov.same (bl' := [_, _]) (sl' := []) rfl rfl rfl ?_;refine Cov.q .ro (.assign rfl) rfl ?_;refine Cov.region_end ?_;refine Cov.seq ?_;refine Cov.seq ?_;refine Cov.region rfl ?_;refine Cov.q .ro (.move rfl) rfl ?_;refine Cov.q .ro (.eql rfl rfl) rfl ?_;refine Cov.q .ro (.move rfl) rfl ?_
 refine Cov.cutR 7 (β := Unit) (fun y => [(20, .bool (decide ((u3 = 0) ∧ ((x2 < 1) ∨ (1024 < x2)))))]) [(7, _)] (fun y => G :: Fs) (fun y => []) [_, _] (fun y => []) [] (fun y => True) ⟨rfl, trivial⟩ [0, 1] rfl [] rfl ?_ ?_
 ·rintro _ _
  refine Cov.prune [(20, .bool (decide ((u3 = 0) ∧ ((x2 < 1) ∨ (1024 < x2))))), (7, _)] ⟨rfl, rfl, trivial⟩ ?_;refine Cov.same (bl' := [_, _]) (sl' := []) (Fs' := G :: Fs) rfl rfl rfl ?_;refine Cov.region_end ?_
  refine Cov.cond_dec rfl (fun c15 => ?_) (fun c15 => ?_)
  ·have r16 := ifT r4 c15; clear r4
   refine Cov.seq ?_;refine Cov.region rfl ?_;refine Cov.q .ro (.assign rfl) rfl ?_;refine Cov.region_end ?_
   cases r16
   refine Cov.drop 2 0 [] _ rfl rfl ?_
   refine Cov.retS (c := ⟨243, none⟩) (.inr ⟨_, rfl⟩) [.tmp 6] [_] rfl Tryz.func243 Tryz.results243 ⟨RV.tmp rfl, trivial⟩ (fun _ h => List.mem_cons_of_mem _ h) ⟨rfl, rfl, rfl⟩
  ·have r17 := ifF r4 c15; clear r4
   refine Cov.skip ?_;refine Cov.seq ?_;refine Cov.region rfl ?_;refine Cov.q .ro (.move rfl) rfl ?_;refine Cov.q .ro (.assign rfl) rfl ?_;refine Cov.region_end ?_
   cases r17
   refine Cov.drop 2 0 [] _ rfl rfl ?_
   refine Cov.retS (c := ⟨243, none⟩) (.inr ⟨_, rfl⟩) [.tmp 6] [_] rfl Tryz.func243 Tryz.results243 ⟨RV.tmp rfl, trivial⟩ (fun _ h => List.mem_cons_of_mem _ h) ⟨rfl, rfl, rfl⟩
 ·intro hb12
  refine Cov.split 13 rfl (fun c11 => ?_) (fun c11 => ?_)
  ·refine Cov.g_on rfl ?_
   refine Cov.q .ro (.move rfl) rfl ?_;refine Cov.g_on rfl ?_;refine Cov.q .ro (.lss rfl rfl) rfl ?_;refine Cov.g_on rfl ?_;refine Cov.q .ro (.move rfl) rfl ?_;refine Cov.cutR 3 (β := Unit) (fun y => [(19, .bool (decide ((x2 < 1) ∨ (1024 < x2))))]) [(7, _), (13, _)] (fun y => G :: Fs) (fun y => []) [_, _] (fun y => []) [] (fun y => True) ⟨rfl, rfl, trivial⟩ [0, 1] rfl [] rfl ?_ ?_
   ·rintro _ _
    refine Cov.prune [(19, .bool (decide ((x2 < 1) ∨ (1024 < x2)))), (7, _), (13, _)] ⟨rfl, rfl, rfl, trivial⟩ ?_;refine Cov.same (bl' := [_, _]) (sl' := []) (Fs' := G :: Fs) rfl rfl rfl ?_;refine Cov.q .ro (.pick_t rfl rfl) rfl ?_
    refine Cov.prune _ ?_ (Cov.same rfl rfl rfl (hb12 () trivial))
    exact ⟨dand_t c11, rfl, trivial⟩
   ·intro hb19
    refine Cov.split 16 rfl (fun c18 => ?_) (fun c18 => ?_)
    ·refine Cov.g_off rfl rfl rfl ?_
     refine Cov.g_off rfl rfl rfl ?_;refine Cov.g_on rfl ?_;refine Cov.q .ro (.pick_t rfl rfl) rfl ?_
     refine Cov.prune _ ?_ (Cov.same rfl rfl rfl (hb19 () trivial))
     exact ⟨dor_t c18, rfl, rfl, trivial⟩
    ·refine Cov.g_on rfl ?_
     refine Cov.q .ro (.move rfl) rfl ?_;refine Cov.g_on rfl ?_;refine Cov.q .ro (.gtr rfl rfl) rfl ?_;refine Cov.g_on rfl ?_;refine Cov.q .ro (.pick_f rfl rfl) rfl ?_
     refine Cov.prune _ ?_ (Cov.same rfl rfl rfl (hb19 () trivial))
     exact ⟨dor_f c18, rfl, rfl, trivial⟩
  ·refine Cov.g_off rfl rfl rfl ?_
   refine Cov.g_off rfl rfl rfl ?_;refine Cov.g_off rfl rfl rfl ?_;refine Cov.gu_off rfl rfl ?_;refine Cov.gu_off rfl rfl ?_;refine Cov.g_off rfl rfl rfl ?_;refine Cov.q .ro (.pick_f rfl rfl) rfl ?_
   refine Cov.prune _ ?_ (Cov.same rfl rfl rfl (hb12 () trivial))
   exact ⟨dand_f c11, rfl, trivial⟩
set_option maxHeartbeats 4000000 in
set_option maxRecDepth 100000 in
theorem curve_Limits_c {Fs : List Hp} {G : Hp} {x0_0 : Int} {x1_0 : Int} {x1_1 : Int} {x2 : Int} {r : ((List Int) × Int)} (hG : G ∈ Fs)  (h : curve_Limits x0_0 (x1_0, x1_1) x2 = some r) : RetS Tryz.prog 242 #[.agg #[.int .i64 x0_0], .agg #[.int .i64 x1_0, .int .i64 x1_1], .int .i64 x2] Fs [] [] (fun v bo so => ∃ (oa0 : Option Addr) (ok0 : Nat) (oc0 : List Value), v = .tuple #[.slice oa0 r.1.length ok0, .int .i64 r.2] ∧ bo = [] ∧ so = [.s (.slice oa0 r.1.length ok0) 3 1 r.1.length oc0] ∧ OL (Rep.int .i64) G oc0 r.1) := by
 unfold curve_Limits at h
 try dsimp only at h
 refine RetS.of (vs := [_, _, _]) Tryz.func242 rfl Tryz.ntmps242 [(0, _), (1, _), (2, _)] ⟨rfl, rfl, rfl, trivial⟩ rfl hG fun w0 S0 hS0 B0 => ?_
 refine Cov.seq ?_;refine Cov.region rfl ?_
 refine Cov.box [_] .ro rfl rfl rfl (fun b1 hb1 => ?_)
 refine Cov.box [_, _] .ro rfl rfl rfl (fun b2 hb2 => ?_)
 refine Cov.q .ro (.assign rfl) rfl ?_;refine Cov.q .ro (.assign rfl) rfl ?_;refine Cov.region_end ?_;refine Cov.seq ?_;refine Cov.seq ?_;refine Cov.region rfl ?_;refine Cov.q .ro (.load_own_a 1 [_] rfl rfl ty49 rfl) rfl ?_;refine Cov.q .ro (.load_own_a 0 [_, _] rfl rfl ty259 rfl) rfl ?_;refine Cov.q .ro (.move rfl) rfl ?_
 obtain ⟨u3, hu3, r4⟩ := bind_some h; clear h
 refine Cov.callS (b1 := []) (b2 := [_, _]) (s1 := []) [_, _, _] [] .ro rfl rfl Tryz.call243 rfl rfl (curve_check_c (G := G) List.mem_cons_self  hu3) rfl (fun v6 bo so h5 => ?_)
 obtain ⟨rfl, rfl, rfl⟩ := h5
 refine Cov.same (bl' := [_, _]) (sl' := []) rfl rfl rfl ?_;refine Cov.q .ro (.assign rfl) rfl ?_;refine Cov.region_end ?_;refine Cov.seq ?_;refine Cov.region rfl ?_;refine Cov.q .ro (.move rfl) rfl ?_;refine Cov.q .ro (.neq rfl rfl) rfl ?_;refine Cov.region_end ?_
 refine Cov.cond_dec rfl (fun c7 => ?_) (fun c7 => ?_)
 ·have r8 := ifT r4 c7; clear r4
  refine Cov.seq ?_;refine Cov.region rfl ?_;refine Cov.q .ro (.move rfl) rfl ?_;refine Cov.q .ro (.assign rfl) rfl ?_;refine Cov.q .ro (.assign rfl) rfl ?_;refine Cov.region_end ?_;refine Cov.prune [(6, _), (7, _)] ⟨rfl, rfl, trivial⟩ ?_;refine Cov.own_nil 3 1 ?_
  cases r8
  refine Cov.drop 2 0 [] _ rfl rfl ?_
  refine Cov.retS (c := ⟨242, none⟩) (.inr ⟨_, rfl⟩) [.tmp 6, .tmp 7] [_, _] rfl Tryz.func242 Tryz.results242 ⟨RV.tmp rfl, RV.tmp rfl, trivial⟩ (fun _ h => List.mem_cons_of_mem _ h) ⟨none, 0, [], rfl, rfl, rfl, (OL.nil (Rp' := (Rep.int .i64)))⟩
 ·have r10 := ifF r4 c7; clear r4
  refine Cov.skip ?_;refine Cov.seq ?_;refine Cov.region rfl ?_;refine Cov.q .ro (.assign rfl) rfl ?_;refine Cov.region_end ?_;refine Cov.seq ?_;refine Cov.seq ?_;refine Cov.region rfl ?_;refine Cov.q .ro (.move rfl) rfl ?_
  refine Cov.q .ro (.fieldAddr 1 rfl fl259_1 ty3.sz rfl) rfl ?_;refine Cov.q .ro (.load_own 0 rfl rfl ty3 rfl) rfl ?_;refine Cov.q .ro (.mulw rfl rfl) rfl ?_;refine Cov.q .ro (.move rfl) rfl ?_;refine Cov.region_end ?_;refine Cov.prune [(3, _), (9, _), (20, _), (21, _)] ⟨rfl, rfl, rfl, rfl, trivial⟩ ?_;refine Cov.block ?_;refine Cov.own_nil 3 1 ?_
  refine Cov.loop2 (α := Nat × List Int × Option Addr × Nat × List Value × Int) (fun y => [(9, .slice y.2.2.1 y.2.1.length y.2.2.2.1), (21, .int .i64 y.2.2.2.2.2)]) [(3, _), (20, _)] (fun y => []) (fun y => []) [_, _] (fun y => [.s (.slice y.2.2.1 y.2.1.length y.2.2.2.1) 3 1 y.2.1.length y.2.2.2.2.1]) [] (fun y => OL (Rep.int .i64) G y.2.2.2.2.1 y.2.1 ∧ curve_Limits_L1 (w64 (x2 * x1_1)) x0_0 y.1 y.2.1 y.2.2.2.2.2 = some r) (fun y => y.1) (big, ([] : List Int), none, 0, [], 0) ⟨(OL.nil (Rp' := (Rep.int .i64))), r10⟩ ⟨rfl, rfl, rfl, rfl, trivial⟩ rfl rfl rfl (fun y hI hb63 => ?_)
  obtain ⟨n53, v55, a56, k57, cs58, v61⟩ := y
  obtain ⟨o59, r62⟩ := hI
  try dsimp only at o59 r62
  refine Cov.prune [(9, .slice a56 v55.length k57), (21, .int .i64 v61), (3, _), (20, _)] ⟨rfl, rfl, rfl, rfl, trivial⟩ ?_;refine Cov.same (bl' := [_, _]) (sl' := [.s (.slice a56 v55.length k57) 3 1 v55.length cs58]) (Fs' := G :: Fs) rfl rfl rfl ?_
  obtain ⟨m69, rfl⟩ : ∃ m, n53 = m + 1 := by cases n53 with | zero => exact absurd (show (none : Option _) = some _ from r62) (by simp) | succ m => exact ⟨m, rfl⟩
  have r68 : curve_Limits_B1 (w64 (x2 * x1_1)) x0_0 (curve_Limits_L1 (w64 (x2 * x1_1)) x0_0 m69) v55 v61 = some r := r62; clear r62; unfold curve_Limits_B1 at r68; try dsimp only at r68
  refine Cov.seq ?_;refine Cov.region rfl ?_;refine Cov.q .ro (.lss rfl rfl) rfl ?_;refine Cov.region_end ?_;refine Cov.seq ?_
  refine Cov.cond_dec rfl (fun c70 => ?_) (fun c70 => ?_)
  ·have r71 := ifT r68 c70; clear r68
   refine Cov.skip ?_;refine Cov.seq ?_;refine Cov.block ?_;refine Cov.region rfl ?_;refine Cov.q .ro (.move rfl) rfl ?_;refine Cov.q .ro (.fieldAddr 0 rfl fl49_0 ty3.sz rfl) rfl ?_;refine Cov.q .ro (.load_own 1 rfl rfl ty3 rfl) rfl ?_
   refine Cov.lit [_] [(0, _)] .ro sl41 ty3 rfl rfl rfl rfl rfl rfl (fun b72 hb72 => ?_)
   have o73 : OL (Rep.int .i64) G [.int .i64 x0_0] ([x0_0] : List Int) := ((OL.cons rfl (Rep.intI .i64 x0_0) (OL.nil (Rp' := (Rep.int .i64)))) :)
   refine Cov.reval 26 (n' := ([x0_0] : List Int).length) rfl rfl ?_
   obtain ⟨u79, hu79, r80⟩ := bind_some r71; clear r71
   refine Cov.appO (Q := (Rep.int .i64)) 0 .ro sl41 ty3 rfl rfl rfl rfl rfl rfl o59 o73 rfl rfl rfl B0 hu79 rfl (fun a75 k76 cs77 o78 => ?_)
   refine Cov.q .ro (.assign rfl) rfl ?_;refine Cov.region_end ?_;refine Cov.inBlock ?_;refine Cov.region rfl ?_;refine Cov.q .ro (.addw rfl rfl) rfl ?_;refine Cov.q .ro (.move rfl) rfl ?_;refine Cov.region_end ?_
   refine Cov.prune _ ?_ (Cov.same rfl rfl rfl (hb63 (m69, u79, a75, k76, cs77, (w64 (v61 + 1))) ⟨o78, r80⟩ (Nat.lt_succ_self _)))
   exact ⟨rfl, rfl, rfl, rfl, trivial⟩
  ·have r82 := ifF r68 c70; clear r68
   refine Cov.exit rfl ?_;refine Cov.seq ?_;refine Cov.region rfl ?_;refine Cov.q .ro (.move rfl) rfl ?_;refine Cov.q .ro (.assign rfl) rfl ?_;refine Cov.q .ro (.assign rfl) rfl ?_;refine Cov.region_end ?_
   cases r82
   refine Cov.drop 2 0 [] _ rfl rfl ?_
   refine Cov.retS (c := ⟨242, none⟩) (.inr ⟨_, rfl⟩) [.tmp 6, .tmp 7] [_, _] rfl Tryz.func242 Tryz.results242 ⟨RV.tmp rfl, RV.tmp rfl, trivial⟩ (fun _ h => List.mem_cons_of_mem _ h) ⟨a56, k57, cs58, rfl, rfl, rfl, o59⟩
set_option maxHeartbeats 4000000 in
set_option maxRecDepth 100000 in
theorem scheme_curves_limits_c {Fs : List Hp} {G : Hp} {x0_0 : Int} {x0_1 : Int} {x1_0 : Int} {x2 : Int} {r : ((List Int) × Int)} (hG : G ∈ Fs)  (h : scheme_curves_limits (x0_0, x0_1) x1_0 x2 = some r) : RetS Tryz.prog 240 #[.agg #[.int .i64 x0_0, .int .i64 x0_1], .agg #[.int .i64 x1_0], .int .i64 x2] Fs [] [] (fun v bo so => ∃ (oa0 : Option Addr) (ok0 : Nat) (oc0 : List Value), v = .tuple #[.slice oa0 r.1.length ok0, .int .i64 r.2] ∧ bo = [] ∧ so = [.s (.slice oa0 r.1.length ok0) 3 1 r.1.length oc0] ∧ OL (Rep.int .i64) G oc0 r.1) := by
 unfold scheme_curves_limits at h
 try dsimp only at h
 refine RetS.of (vs := [_, _, _]) Tryz.func240 rfl Tryz.ntmps240 [(0, _), (1, _), (2, _)] ⟨rfl, rfl, rfl, trivial⟩ rfl hG fun w0 S0 hS0 B0 => ?_
 refine Cov.seq ?_;refine Cov.region rfl ?_
 refine Cov.box [_, _] .ro rfl rfl rfl (fun b1 hb1 => ?_)
 refine Cov.box [_] .ro rfl rfl rfl (fun b2 hb2 => ?_)
 refine Cov.q .ro (.assign rfl) rfl ?_;refine Cov.q .ro (.assign rfl) rfl ?_;refine Cov.region_end ?_;refine Cov.seq ?_;refine Cov.region rfl ?_;refine Cov.q .ro (.load_own_a 0 [_] rfl rfl ty49 rfl) rfl ?_;refine Cov.q .ro (.load_own_a 1 [_, _] rfl rfl ty292 rfl) rfl ?_;refine Cov.q .ro (.move rfl) rfl ?_
 obtain ⟨u3, hu3, r4⟩ := bind_some h; clear h
 refine Cov.callS (b1 := []) (b2 := [_, _]) (s1 := []) [_, _, _] [] .ro rfl rfl Tryz.call242 rfl rfl (curve_Limits_c (G := G) List.mem_cons_self  hu3) rfl (fun v6 bo so h5 => ?_)
 obtain ⟨a8, k9, cs10, rfl, rfl, rfl, o11⟩ := h5
 refine Cov.same (bl' := [_, _]) (sl' := [_]) rfl rfl rfl ?_;refine Cov.q .ro (.extract rfl rfl) rfl ?_;refine Cov.q .ro (.extract rfl rfl) rfl ?_;refine Cov.q .ro (.assign rfl) rfl ?_;refine Cov.q .ro (.assign rfl) rfl ?_;refine Cov.region_end ?_
 cases r4
 refine Cov.drop 2 0 [] _ rfl rfl ?_
 refine Cov.retS (c := ⟨240, none⟩) (.inr ⟨_, rfl⟩) [.tmp 6, .tmp 7] [_, _] rfl Tryz.func240 Tryz.results240 ⟨RV.tmp rfl, RV.tmp rfl, trivial⟩ (fun _ h => List.mem_cons_of_mem _ h) ⟨a8, k9, cs10, rfl, rfl, rfl, o11⟩
set_option maxHeartbeats 4000000 in
set_option maxRecDepth 100000 in
theorem scheme_groups_units_c {Fs : List Hp} {G : Hp} {x0_0 : Int} {x0_1 : Int} {x0_2 : Int} {x1 : Int} {r : Int} (hG : G ∈ Fs)  (h : scheme_groups_units (x0_0, x0_1, x0_2) x1 = some r) : RetS Tryz.prog 179 #[.agg #[.int .i64 x0_0, .int .i64 x0_1, .int .i64 x0_2], .int .i64 x1] Fs [] [] (fun v bo so => v = .int .i64 r ∧ bo = [] ∧ so = []) := by
 unfold scheme_groups_units at h
 try dsimp only at h
 refine RetS.of (vs := [_, _]) Tryz.func179 rfl Tryz.ntmps179 [(0, _), (1, _)] ⟨rfl, rfl, trivial⟩ rfl hG fun w0 S0 hS0 B0 => ?_
 refine Cov.seq ?_;refine Cov.region rfl ?_
 refine Cov.box [_, _, _] .ro rfl rfl rfl (fun b1 hb1 => ?_)
 refine Cov.q .ro (.assign rfl) rfl ?_;refine Cov.region_end ?_;refine Cov.seq ?_;refine Cov.region rfl ?_;refine Cov.q .ro (.move rfl) rfl ?_;refine Cov.q .ro (.fieldAddr 2 rfl fl293_2 ty3.sz rfl) rfl ?_;refine Cov.q .ro (.load_own 0 rfl rfl ty3 rfl) rfl ?_;refine Cov.q .ro (.addw rfl rfl) rfl ?_;refine Cov.q .ro (.subw rfl rfl) rfl ?_
 refine Cov.q .ro (.fieldAddr 2 rfl fl293_2 ty3.sz rfl) rfl ?_;refine Cov.q .ro (.load_own 0 rfl rfl ty3 rfl) rfl ?_
 obtain ⟨u2, hu2, r3⟩ := bind_some h; clear h
 refine Cov.q .ro (.quow rfl rfl (nz_some hu2)) rfl ?_;refine Cov.q .ro (.assign rfl) rfl ?_;refine Cov.region_end ?_
 cases r3
 refine Cov.drop 1 0 [] _ rfl rfl ?_
 refine Cov.retS (c := ⟨179, none⟩) (.inr ⟨_, rfl⟩) [.tmp 4] [_] rfl Tryz.func179 Tryz.results179 ⟨RV.tmp rfl, trivial⟩ (fun _ h => List.mem_cons_of_mem _ h) ⟨rfl, rfl, rfl⟩
set_option maxHeartbeats 4000000 in
set_option maxRecDepth 100000 in
theorem coded_Check_c {Fs : List Hp} {G : Hp} {x0_0 : Int} {x1_0 : Int} {x1_1 : Int} {x1_2 : Int} {r : Int} (hG : G ∈ Fs)  (h : coded_Check x0_0 (x1_0, x1_1, x1_2) = some r) : RetS Tryz.prog 251 #[.agg #[.int .i64 x0_0], .agg #[.int .i64 x1_0, .int .i64 x1_1, .int .i64 x1_2]] Fs [] [] (fun v bo so => v = .int .i64 r ∧ bo = [] ∧ so = []) := by
 unfold coded_Check at h
 try dsimp only at h
 refine RetS.of (vs := [_, _]) Tryz.func251 rfl Tryz.ntmps251 [(0, _), (1, _)] ⟨rfl, rfl, trivial⟩ rfl hG fun w0 S0 hS0 B0 => ?_
 refine Cov.seq ?_;refine Cov.region rfl ?_
 refine Cov.box [_] .ro rfl rfl rfl (fun b1 hb1 => ?_)
 refine Cov.box [_, _, _] .ro rfl rfl rfl (fun b2 hb2 => ?_)
 refine Cov.q .ro (.assign rfl) rfl ?_;refine Cov.region_end ?_;refine Cov.seq ?_;refine Cov.seq ?_;refine Cov.region rfl ?_;refine Cov.q .ro (.load_own_a 1 [_] rfl rfl ty49 rfl) rfl ?_
 obtain ⟨u3, hu3, r4⟩ := bind_some h; clear h
 refine Cov.callS (b1 := []) (b2 := [_, _]) (s1 := []) [_] [] .ro rfl rfl Tryz.call173 rfl rfl (residue_Of_c (G := G) List.mem_cons_self  hu3) rfl (fun v6 bo so h5 => ?_)
 obtain ⟨rfl, rfl, rfl⟩ := h5
 refine Cov.same (bl' := [_, _]) (sl' := []) rfl rfl rfl ?_;refine Cov.q .ro (.move rfl) rfl ?_;refine Cov.q .ro (.extract rfl rfl) rfl ?_;refine Cov.q .ro (.extract rfl rfl) rfl ?_;refine Cov.q .ro (.assign rfl) rfl ?_;refine Cov.q .ro (.assign rfl) rfl ?_;refine Cov.region_end ?_;refine Cov.seq ?_;refine Cov.region rfl ?_
 refine Cov.q .ro (.move rfl) rfl ?_;refine Cov.q .ro (.not rfl) rfl ?_;refine Cov.region_end ?_
 refine Cov.cond rfl (fun c7 => ?_) (fun c7 => ?_)
 ·have r8 := ifT r4 c7; clear r4
  refine Cov.seq ?_;refine Cov.region rfl ?_;refine Cov.q .ro (.assign rfl) rfl ?_;refine Cov.region_end ?_;refine Cov.prune [(4, _)] ⟨rfl, trivial⟩ ?_
  cases r8
  refine Cov.drop 2 0 [] _ rfl rfl ?_
  refine Cov.retS (c := ⟨251, none⟩) (.inr ⟨_, rfl⟩) [.tmp 4] [_] rfl Tryz.func251 Tryz.results251 ⟨RV.tmp rfl, trivial⟩ (fun _ h => List.mem_cons_of_mem _ h) ⟨rfl, rfl, rfl⟩
 ·have r9 := ifBF r4 c7; clear r4
  refine Cov.skip ?_;refine Cov.seq ?_;refine Cov.seq ?_;refine Cov.region rfl ?_;refine Cov.q .ro (.fieldAddr 0 rfl fl263_0 ty3.sz rfl) rfl ?_;refine Cov.q .ro (.load_own 0 rfl rfl ty3 rfl) rfl ?_;refine Cov.q .ro (.lss rfl rfl) rfl ?_;refine Cov.q .ro (.move rfl) rfl ?_;refine Cov.cutR 4 (β := Unit) (fun y => [(21, .bool (decide ((x1_0 < 2) ∨ (10 < x1_0))))]) [(2, _), (3, _)] (fun y => G :: Fs) (fun y => []) [_, _] (fun y => []) [] (fun y => True) ⟨rfl, rfl, trivial⟩ [0, 1] rfl [] rfl ?_ ?_
  ·rintro _ _
   refine Cov.prune [(21, .bool (decide ((x1_0 < 2) ∨ (10 < x1_0)))), (2, _), (3, _)] ⟨rfl, rfl, rfl, trivial⟩ ?_;refine Cov.same (bl' := [_, _]) (sl' := []) (Fs' := G :: Fs) rfl rfl rfl ?_;refine Cov.q .ro (.move rfl) rfl ?_;refine Cov.cutR 6 (β := Unit) (fun y => [(28, .bool (decide (((x1_0 < 2) ∨ (10 < x1_0)) ∨ (x0_0 ≤ x1_0))))]) [(3, _)] (fun y => G :: Fs) (fun y => []) [_, _] (fun y => []) [] (fun y => True) ⟨rfl, trivial⟩ [0, 1] rfl [] rfl ?_ ?_
   ·rintro _ _
    refine Cov.prune [(28, .bool (decide (((x1_0 < 2) ∨ (10 < x1_0)) ∨ (x0_0 ≤ x1_0)))), (3, _)] ⟨rfl, rfl, trivial⟩ ?_;refine Cov.same (bl' := [_, _]) (sl' := []) (Fs' := G :: Fs) rfl rfl rfl ?_;refine Cov.q .ro (.move rfl) rfl ?_;refine Cov.cutR 4 (β := Unit) (fun y => [(33, .bool (decide ((((x1_0 < 2) ∨ (10 < x1_0)) ∨ (x0_0 ≤ x1_0)) ∨ (x1_1 < 1))))]) [(3, _)] (fun y => G :: Fs) (fun y => []) [_, _] (fun y => []) [] (fun y => True) ⟨rfl, trivial⟩ [0, 1] rfl [] rfl ?_ ?_
    ·rintro _ _
     refine Cov.prune [(33, .bool (decide ((((x1_0 < 2) ∨ (10 < x1_0)) ∨ (x0_0 ≤ x1_0)) ∨ (x1_1 < 1)))), (3, _)] ⟨rfl, rfl, trivial⟩ ?_;refine Cov.same (bl' := [_, _]) (sl' := []) (Fs' := G :: Fs) rfl rfl rfl ?_;refine Cov.q .ro (.move rfl) rfl ?_;refine Cov.cutR 4 (β := Unit) (fun y => [(38, .bool (decide (((((x1_0 < 2) ∨ (10 < x1_0)) ∨ (x0_0 ≤ x1_0)) ∨ (x1_1 < 1)) ∨ (x1_2 < 1))))]) [(3, _)] (fun y => G :: Fs) (fun y => []) [_, _] (fun y => []) [] (fun y => True) ⟨rfl, trivial⟩ [0, 1] rfl [] rfl ?_ ?_
     ·rintro _ _
      refine Cov.prune [(38, .bool (decide (((((x1_0 < 2) ∨ (10 < x1_0)) ∨ (x0_0 ≤ x1_0)) ∨ (x1_1 < 1)) ∨ (x1_2 < 1)))), (3, _)] ⟨rfl, rfl, trivial⟩ ?_;refine Cov.same (bl' := [_, _]) (sl' := []) (Fs' := G :: Fs) rfl rfl rfl ?_;refine Cov.q .ro (.move rfl) rfl ?_;refine Cov.cutR 6 (β := Unit) (fun y => [(45, .bool (decide ((((((x1_0 < 2) ∨ (10 < x1_0)) ∨ (x0_0 ≤ x1_0)) ∨ (x1_1 < 1)) ∨ (x1_2 < 1)) ∨ (x1_0 < x1_1))))]) [(3, _)] (fun y => G :: Fs) (fun y => []) [_, _] (fun y => []) [] (fun y => True) ⟨rfl, trivial⟩ [0, 1] rfl [] rfl ?_ ?_
      ·rintro _ _
       refine Cov.prune [(45, .bool (decide ((((((x1_0 < 2) ∨ (10 < x1_0)) ∨ (x0_0 ≤ x1_0)) ∨ (x1_1 < 1)) ∨ (x1_2 < 1)) ∨ (x1_0 < x1_1)))), (3, _)] ⟨rfl, rfl, trivial⟩ ?_;refine Cov.same (bl' := [_, _]) (sl' := []) (Fs' := G :: Fs) rfl rfl rfl ?_;refine Cov.q .ro (.move rfl) rfl ?_;refine Cov.cutR 6 (β := Unit) (fun y => [(52, .bool (decide (((((((x1_0 < 2) ∨ (10 < x1_0)) ∨ (x0_0 ≤ x1_0)) ∨ (x1_1 < 1)) ∨ (x1_2 < 1)) ∨ (x1_0 < x1_1)) ∨ (x1_0 < x1_2))))]) [(3, _)] (fun y => G :: Fs) (fun y => []) [_, _] (fun y => []) [] (fun y => True) ⟨rfl, trivial⟩ [0, 1] rfl [] rfl ?_ ?_
       ·rintro _ _
        refine Cov.prune [(52, .bool (decide (((((((x1_0 < 2) ∨ (10 < x1_0)) ∨ (x0_0 ≤ x1_0)) ∨ (x1_1 < 1)) ∨ (x1_2 < 1)) ∨ (x1_0 < x1_1)) ∨ (x1_0 < x1_2)))), (3, _)] ⟨rfl, rfl, trivial⟩ ?_;refine Cov.same (bl' := [_, _]) (sl' := []) (Fs' := G :: Fs) rfl rfl rfl ?_;refine Cov.q .ro (.move rfl) rfl ?_;refine Cov.cutR 11 (β := Unit) (fun y => [(64, .bool (decide ((((((((x1_0 < 2) ∨ (10 < x1_0)) ∨ (x0_0 ≤ x1_0)) ∨ (x1_1 < 1)) ∨ (x1_2 < 1)) ∨ (x1_0 < x1_1)) ∨ (x1_0 < x1_2)) ∨ (x1_0 < (w64 ((w64 ((w64 (2 * x1_2)) + x1_1)) - 1))))))]) [] (fun y => G :: Fs) (fun y => []) [_, _] (fun y => []) [] (fun y => True) trivial [0, 1] rfl [] rfl ?_ ?_
        ·rintro _ _
         refine Cov.prune [(64, .bool (decide ((((((((x1_0 < 2) ∨ (10 < x1_0)) ∨ (x0_0 ≤ x1_0)) ∨ (x1_1 < 1)) ∨ (x1_2 < 1)) ∨ (x1_0 < x1_1)) ∨ (x1_0 < x1_2)) ∨ (x1_0 < (w64 ((w64 ((w64 (2 * x1_2)) + x1_1)) - 1))))))] ⟨rfl, trivial⟩ ?_;refine Cov.same (bl' := [_, _]) (sl' := []) (Fs' := G :: Fs) rfl rfl rfl ?_;refine Cov.region_end ?_
         refine Cov.cond_dec rfl (fun c38 => ?_) (fun c38 => ?_)
         ·have r39 := ifT r9 c38; clear r9
          refine Cov.seq ?_;refine Cov.region rfl ?_;refine Cov.q .ro (.assign rfl) rfl ?_;refine Cov.region_end ?_
          cases r39
          refine Cov.drop 2 0 [] _ rfl rfl ?_
          refine Cov.retS (c := ⟨251, none⟩) (.inr ⟨_, rfl⟩) [.tmp 4] [_] rfl Tryz.func251 Tryz.results251 ⟨RV.tmp rfl, trivial⟩ (fun _ h => List.mem_cons_of_mem _ h) ⟨rfl, rfl, rfl⟩
         ·have r40 := ifF r9 c38; clear r9
          refine Cov.skip ?_;refine Cov.seq ?_;refine Cov.region rfl ?_;refine Cov.q .ro (.assign rfl) rfl ?_;refine Cov.region_end ?_
          cases r40
          refine Cov.drop 2 0 [] _ rfl rfl ?_
          refine Cov.retS (c := ⟨251, none⟩) (.inr ⟨_, rfl⟩) [.tmp 4] [_] rfl Tryz.func251 Tryz.results251 ⟨RV.tmp rfl, trivial⟩ (fun _ h => List.mem_cons_of_mem _ h) ⟨rfl, rfl, rfl⟩
        ·intro hb35
         refine Cov.split 53 rfl (fun c34 => ?_) (fun c34 => ?_)
         ·refine Cov.g_off rfl rfl rfl ?_
          refine Cov.g_off rfl rfl rfl ?_;refine Cov.g_off rfl rfl rfl ?_;refine Cov.g_off rfl rfl rfl ?_;refine Cov.g_off rfl rfl rfl ?_;refine Cov.g_off rfl rfl rfl ?_;refine Cov.g_off rfl rfl rfl ?_;refine Cov.g_off rfl rfl rfl ?_;refine Cov.g_off rfl rfl rfl ?_;refine Cov.g_off rfl rfl rfl ?_
          refine Cov.q .ro (.pick_t rfl rfl) rfl ?_
          refine Cov.prune _ ?_ (Cov.same rfl rfl rfl (hb35 () trivial))
          exact ⟨dor_t c34, trivial⟩
         ·refine Cov.g_on rfl ?_
          refine Cov.q .ro (.fieldAddr 2 rfl fl263_2 ty3.sz rfl) rfl ?_;refine Cov.g_on rfl ?_;refine Cov.q .ro (.load_own 0 rfl rfl ty3 rfl) rfl ?_;refine Cov.g_on rfl ?_;refine Cov.q .ro (.mulw rfl rfl) rfl ?_;refine Cov.g_on rfl ?_;refine Cov.q .ro (.fieldAddr 1 rfl fl263_1 ty3.sz rfl) rfl ?_;refine Cov.g_on rfl ?_;refine Cov.q .ro (.load_own 0 rfl rfl ty3 rfl) rfl ?_
          refine Cov.g_on rfl ?_;refine Cov.q .ro (.addw rfl rfl) rfl ?_;refine Cov.g_on rfl ?_;refine Cov.q .ro (.subw rfl rfl) rfl ?_;refine Cov.g_on rfl ?_;refine Cov.q .ro (.fieldAddr 0 rfl fl263_0 ty3.sz rfl) rfl ?_;refine Cov.g_on rfl ?_;refine Cov.q .ro (.load_own 0 rfl rfl ty3 rfl) rfl ?_;refine Cov.g_on rfl ?_
          refine Cov.q .ro (.gtr rfl rfl) rfl ?_;refine Cov.q .ro (.pick_f rfl rfl) rfl ?_
          refine Cov.prune _ ?_ (Cov.same rfl rfl rfl (hb35 () trivial))
          exact ⟨dor_f c34, trivial⟩
       ·intro hb31
        refine Cov.split 46 rfl (fun c30 => ?_) (fun c30 => ?_)
        ·refine Cov.g_off rfl rfl rfl ?_
         refine Cov.g_off rfl rfl rfl ?_;refine Cov.g_off rfl rfl rfl ?_;refine Cov.g_off rfl rfl rfl ?_;refine Cov.g_off rfl rfl rfl ?_;refine Cov.q .ro (.pick_t rfl rfl) rfl ?_
         refine Cov.prune _ ?_ (Cov.same rfl rfl rfl (hb31 () trivial))
         exact ⟨dor_t c30, rfl, trivial⟩
        ·refine Cov.g_on rfl ?_
         refine Cov.q .ro (.fieldAddr 2 rfl fl263_2 ty3.sz rfl) rfl ?_;refine Cov.g_on rfl ?_;refine Cov.q .ro (.load_own 0 rfl rfl ty3 rfl) rfl ?_;refine Cov.g_on rfl ?_;refine Cov.q .ro (.fieldAddr 0 rfl fl263_0 ty3.sz rfl) rfl ?_;refine Cov.g_on rfl ?_;refine Cov.q .ro (.load_own 0 rfl rfl ty3 rfl) rfl ?_;refine Cov.g_on rfl ?_;refine Cov.q .ro (.gtr rfl rfl) rfl ?_
         refine Cov.q .ro (.pick_f rfl rfl) rfl ?_
         refine Cov.prune _ ?_ (Cov.same rfl rfl rfl (hb31 () trivial))
         exact ⟨dor_f c30, rfl, trivial⟩
      ·intro hb27
       refine Cov.split 39 rfl (fun c26 => ?_) (fun c26 => ?_)
       ·refine Cov.g_off rfl rfl rfl ?_
        refine Cov.g_off rfl rfl rfl ?_;refine Cov.g_off rfl rfl rfl ?_;refine Cov.g_off rfl rfl rfl ?_;refine Cov.g_off rfl rfl rfl ?_;refine Cov.q .ro (.pick_t rfl rfl) rfl ?_
        refine Cov.prune _ ?_ (Cov.same rfl rfl rfl (hb27 () trivial))
        exact ⟨dor_t c26, rfl, trivial⟩
       ·refine Cov.g_on rfl ?_
        refine Cov.q .ro (.fieldAddr 1 rfl fl263_1 ty3.sz rfl) rfl ?_;refine Cov.g_on rfl ?_;refine Cov.q .ro (.load_own 0 rfl rfl ty3 rfl) rfl ?_;refine Cov.g_on rfl ?_;refine Cov.q .ro (.fieldAddr 0 rfl fl263_0 ty3.sz rfl) rfl ?_;refine Cov.g_on rfl ?_;refine Cov.q .ro (.load_own 0 rfl rfl ty3 rfl) rfl ?_;refine Cov.g_on rfl ?_;refine Cov.q .ro (.gtr rfl rfl) rfl ?_
        refine Cov.q .ro (.pick_f rfl rfl) rfl ?_
        refine Cov.prune _ ?_ (Cov.same rfl rfl rfl (hb27 () trivial))
        exact ⟨dor_f c26, rfl, trivial⟩
     ·intro hb23
      refine Cov.split 34 rfl (fun c22 => ?_) (fun c22 => ?_)
      ·refine Cov.g_off rfl rfl rfl ?_
       refine Cov.g_off rfl rfl rfl ?_;refine Cov.g_off rfl rfl rfl ?_;refine Cov.q .ro (.pick_t rfl rfl) rfl ?_
       refine Cov.prune _ ?_ (Cov.same rfl rfl rfl (hb23 () trivial))
       exact ⟨dor_t c22, rfl, trivial⟩
      ·refine Cov.g_on rfl ?_
       refine Cov.q .ro (.fieldAddr 2 rfl fl263_2 ty3.sz rfl) rfl ?_;refine Cov.g_on rfl ?_;refine Cov.q .ro (.load_own 0 rfl rfl ty3 rfl) rfl ?_;refine Cov.g_on rfl ?_;refine Cov.q .ro (.lss rfl rfl) rfl ?_;refine Cov.q .ro (.pick_f rfl rfl) rfl ?_
       refine Cov.prune _ ?_ (Cov.same rfl rfl rfl (hb23 () trivial))
       exact ⟨dor_f c22, rfl, trivial⟩
    ·intro hb19
     refine Cov.split 29 rfl (fun c18 => ?_) (fun c18 => ?_)
     ·refine Cov.g_off rfl rfl rfl ?_
      refine Cov.g_off rfl rfl rfl ?_;refine Cov.g_off rfl rfl rfl ?_;refine Cov.q .ro (.pick_t rfl rfl) rfl ?_
      refine Cov.prune _ ?_ (Cov.same rfl rfl rfl (hb19 () trivial))
      exact ⟨dor_t c18, rfl, trivial⟩
     ·refine Cov.g_on rfl ?_
      refine Cov.q .ro (.fieldAddr 1 rfl fl263_1 ty3.sz rfl) rfl ?_;refine Cov.g_on rfl ?_;refine Cov.q .ro (.load_own 0 rfl rfl ty3 rfl) rfl ?_;refine Cov.g_on rfl ?_;refine Cov.q .ro (.lss rfl rfl) rfl ?_;refine Cov.q .ro (.pick_f rfl rfl) rfl ?_
      refine Cov.prune _ ?_ (Cov.same rfl rfl rfl (hb19 () trivial))
      exact ⟨dor_f c18, rfl, trivial⟩
   ·intro hb15
    refine Cov.split 22 rfl (fun c14 => ?_) (fun c14 => ?_)
    ·refine Cov.g_off rfl rfl rfl ?_
     refine Cov.g_off rfl rfl rfl ?_;refine Cov.g_off rfl rfl rfl ?_;refine Cov.g_off rfl rfl rfl ?_;refine Cov.g_off rfl rfl rfl ?_;refine Cov.q .ro (.pick_t rfl rfl) rfl ?_
     refine Cov.prune _ ?_ (Cov.same rfl rfl rfl (hb15 () trivial))
     exact ⟨dor_t c14, rfl, trivial⟩
    ·refine Cov.g_on rfl ?_
     refine Cov.q .ro (.fieldAddr 0 rfl fl263_0 ty3.sz rfl) rfl ?_;refine Cov.g_on rfl ?_;refine Cov.q .ro (.load_own 0 rfl rfl ty3 rfl) rfl ?_;refine Cov.g_on rfl ?_;refine Cov.q .ro (.fieldAddr 0 rfl fl49_0 ty3.sz rfl) rfl ?_;refine Cov.g_on rfl ?_;refine Cov.q .ro (.load_own 1 rfl rfl ty3 rfl) rfl ?_;refine Cov.g_on rfl ?_;refine Cov.q .ro (.geq rfl rfl) rfl ?_
     refine Cov.q .ro (.pick_f rfl rfl) rfl ?_
     refine Cov.prune _ ?_ (Cov.same rfl rfl rfl (hb15 () trivial))
     exact ⟨dor_f c14, rfl, trivial⟩
  ·intro hb11
   refine Cov.split 17 rfl (fun c10 => ?_) (fun c10 => ?_)
   ·refine Cov.g_off rfl rfl rfl ?_
    refine Cov.g_off rfl rfl rfl ?_;refine Cov.g_off rfl rfl rfl ?_;refine Cov.q .ro (.pick_t rfl rfl) rfl ?_
    refine Cov.prune _ ?_ (Cov.same rfl rfl rfl (hb11 () trivial))
    exact ⟨dor_t c10, rfl, rfl, trivial⟩
   ·refine Cov.g_on rfl ?_
    refine Cov.q .ro (.fieldAddr 0 rfl fl263_0 ty3.sz rfl) rfl ?_;refine Cov.g_on rfl ?_;refine Cov.q .ro (.load_own 0 rfl rfl ty3 rfl) rfl ?_;refine Cov.g_on rfl ?_;refine Cov.q .ro (.gtr rfl rfl) rfl ?_;refine Cov.q .ro (.pick_f rfl rfl) rfl ?_
    refine Cov.prune _ ?_ (Cov.same rfl rfl rfl (hb11 () trivial))
    exact ⟨dor_f c10, rfl, rfl, trivial⟩
set_option maxHeartbeats 4000000 in
set_option maxRecDepth 100000 in
theorem coded_check_c {Fs : List Hp} {G : Hp} {x0_0 : Int} {x1_0 : Int} {x1_1 : Int} {x1_2 : Int} {x2 : Int} {r : Int} (hG : G ∈ Fs)  (h : coded_check x0_0 (x1_0, x1_1, x1_2) x2 = some r) : RetS Tryz.prog 250 #[.agg #[.int .i64 x0_0], .agg #[.int .i64 x1_0, .int .i64 x1_1, .int .i64 x1_2], .int .i64 x2] Fs [] [] (fun v bo so => v = .int .i64 r ∧ bo = [] ∧ so = []) := by
 unfold coded_check at h
 try dsimp only at h
 refine RetS.of (vs := [_, _, _]) Tryz.func250 rfl Tryz.ntmps250 [(0, _), (1, _), (2, _)] ⟨rfl, rfl, rfl, trivial⟩ rfl hG fun w0 S0 hS0 B0 => ?_
 refine Cov.seq ?_;refine Cov.region rfl ?_
 refine Cov.box [_] .ro rfl rfl rfl (fun b1 hb1 => ?_)
 refine Cov.box [_, _, _] .ro rfl rfl rfl (fun b2 hb2 => ?_)
 refine Cov.q .ro (.assign rfl) rfl ?_;refine Cov.region_end ?_;refine Cov.seq ?_;refine Cov.region rfl ?_;refine Cov.q .ro (.load_own_a 1 [_] rfl rfl ty49 rfl) rfl ?_;refine Cov.q .ro (.load_own_a 0 [_, _, _] rfl rfl ty263 rfl) rfl ?_
 obtain ⟨u3, hu3, r4⟩ := bind_some h; clear h
 refine Cov.callS (b1 := []) (b2 := [_, _]) (s1 := []) [_, _] [] .ro rfl rfl Tryz.call251 rfl rfl (coded_Check_c (G := G) List.mem_cons_self  hu3) rfl (fun v6 bo so h5 => ?_)
 obtain ⟨rfl, rfl, rfl⟩ := h5
 refine Cov.same (bl' := [_, _]) (sl' := []) rfl rfl rfl ?_;refine Cov.q .ro (.assign rfl) rfl ?_;refine Cov.region_end ?_;refine Cov.seq ?_;refine Cov.seq ?_;refine Cov.region rfl ?_;refine Cov.q .ro (.move rfl) rfl ?_;refine Cov.q .ro (.eql rfl rfl) rfl ?_;refine Cov.q .ro (.move rfl) rfl ?_
 refine Cov.cutR 7 (β := Unit) (fun y => [(20, .bool (decide ((u3 = 0) ∧ ((x2 < 1) ∨ (1024 < x2)))))]) [(7, _)] (fun y => G :: Fs) (fun y => []) [_, _] (fun y => []) [] (fun y => True) ⟨rfl, trivial⟩ [0, 1] rfl [] rfl ?_ ?_
 ·rintro _ _
  refine Cov.prune [(20, .bool (decide ((u3 = 0) ∧ ((x2 < 1) ∨ (1024 < x2))))), (7, _)] ⟨rfl, rfl, trivial⟩ ?_;refine Cov.same (bl' := [_, _]) (sl' := []) (Fs' := G :: Fs) rfl rfl rfl ?_;refine Cov.region_end ?_
  refine Cov.cond_dec rfl (fun c15 => ?_) (fun c15 => ?_)
  ·have r16 := ifT r4 c15; clear r4
   refine Cov.seq ?_;refine Cov.region rfl ?_;refine Cov.q .ro (.assign rfl) rfl ?_;refine Cov.region_end ?_
   cases r16
   refine Cov.drop 2 0 [] _ rfl rfl ?_
   refine Cov.retS (c := ⟨250, none⟩) (.inr ⟨_, rfl⟩) [.tmp 6] [_] rfl Tryz.func250 Tryz.results250 ⟨RV.tmp rfl, trivial⟩ (fun _ h => List.mem_cons_of_mem _ h) ⟨rfl, rfl, rfl⟩
  ·have r17 := ifF r4 c15; clear r4
   refine Cov.skip ?_;refine Cov.seq ?_;refine Cov.region rfl ?_;refine Cov.q .ro (.move rfl) rfl ?_;refine Cov.q .ro (.assign rfl) rfl ?_;refine Cov.region_end ?_
   cases r17
   refine Cov.drop 2 0 [] _ rfl rfl ?_
   refine Cov.retS (c := ⟨250, none⟩) (.inr ⟨_, rfl⟩) [.tmp 6] [_] rfl Tryz.func250 Tryz.results250 ⟨RV.tmp rfl, trivial⟩ (fun _ h => List.mem_cons_of_mem _ h) ⟨rfl, rfl, rfl⟩
 ·intro hb12
  refine Cov.split 13 rfl (fun c11 => ?_) (fun c11 => ?_)
  ·refine Cov.g_on rfl ?_
   refine Cov.q .ro (.move rfl) rfl ?_;refine Cov.g_on rfl ?_;refine Cov.q .ro (.lss rfl rfl) rfl ?_;refine Cov.g_on rfl ?_;refine Cov.q .ro (.move rfl) rfl ?_;refine Cov.cutR 3 (β := Unit) (fun y => [(19, .bool (decide ((x2 < 1) ∨ (1024 < x2))))]) [(7, _), (13, _)] (fun y => G :: Fs) (fun y => []) [_, _] (fun y => []) [] (fun y => True) ⟨rfl, rfl, trivial⟩ [0, 1] rfl [] rfl ?_ ?_
   ·rintro _ _
    refine Cov.prune [(19, .bool (decide ((x2 < 1) ∨ (1024 < x2)))), (7, _), (13, _)] ⟨rfl, rfl, rfl, trivial⟩ ?_;refine Cov.same (bl' := [_, _]) (sl' := []) (Fs' := G :: Fs) rfl rfl rfl ?_;refine Cov.q .ro (.pick_t rfl rfl) rfl ?_
    refine Cov.prune _ ?_ (Cov.same rfl rfl rfl (hb12 () trivial))
    exact ⟨dand_t c11, rfl, trivial⟩
   ·intro hb19
    refine Cov.split 16 rfl (fun c18 => ?_) (fun c18 => ?_)
    ·refine Cov.g_off rfl rfl rfl ?_
     refine Cov.g_off rfl rfl rfl ?_;refine Cov.g_on rfl ?_;refine Cov.q .ro (.pick_t rfl rfl) rfl ?_
     refine Cov.prune _ ?_ (Cov.same rfl rfl rfl (hb19 () trivial))
     exact ⟨dor_t c18, rfl, rfl, trivial⟩
    ·refine Cov.g_on rfl ?_
     refine Cov.q .ro (.move rfl) rfl ?_;refine Cov.g_on rfl ?_;refine Cov.q .ro (.gtr rfl rfl) rfl ?_;refine Cov.g_on rfl ?_;refine Cov.q .ro (.pick_f rfl rfl) rfl ?_
     refine Cov.prune _ ?_ (Cov.same rfl rfl rfl (hb19 () trivial))
     exact ⟨dor_f c18, rfl, rfl, trivial⟩
  ·refine Cov.g_off rfl rfl rfl ?_
   refine Cov.g_off rfl rfl rfl ?_;refine Cov.g_off rfl rfl rfl ?_;refine Cov.gu_off rfl rfl ?_;refine Cov.gu_off rfl rfl ?_;refine Cov.g_off rfl rfl rfl ?_;refine Cov.q .ro (.pick_f rfl rfl) rfl ?_
   refine Cov.prune _ ?_ (Cov.same rfl rfl rfl (hb12 () trivial))
   exact ⟨dand_f c11, rfl, trivial⟩
set_option maxHeartbeats 4000000 in
set_option maxRecDepth 100000 in
theorem coded_Limits_c {Fs : List Hp} {G : Hp} {x0_0 : Int} {x1_0 : Int} {x1_1 : Int} {x1_2 : Int} {x2 : Int} {r : ((List Int) × Int)} (hG : G ∈ Fs)  (h : coded_Limits x0_0 (x1_0, x1_1, x1_2) x2 = some r) : RetS Tryz.prog 249 #[.agg #[.int .i64 x0_0], .agg #[.int .i64 x1_0, .int .i64 x1_1, .int .i64 x1_2], .int .i64 x2] Fs [] [] (fun v bo so => ∃ (oa0 : Option Addr) (ok0 : Nat) (oc0 : List Value), v = .tuple #[.slice oa0 r.1.length ok0, .int .i64 r.2] ∧ bo = [] ∧ so = [.s (.slice oa0 r.1.length ok0) 3 1 r.1.length oc0] ∧ OL (Rep.int .i64) G oc0 r.1) := by
 unfold coded_Limits at h
 try dsimp only at h
 refine RetS.of (vs := [_, _, _]) Tryz.func249 rfl Tryz.ntmps249 [(0, _), (1, _), (2, _)] ⟨rfl, rfl, rfl, trivial⟩ rfl hG fun w0 S0 hS0 B0 => ?_
 refine Cov.seq ?_;refine Cov.region rfl ?_
 refine Cov.box [_] .ro rfl rfl rfl (fun b1 hb1 => ?_)
 refine Cov.box [_, _, _] .ro rfl rfl rfl (fun b2 hb2 => ?_)
 refine Cov.q .ro (.assign rfl) rfl ?_;refine Cov.q .ro (.assign rfl) rfl ?_;refine Cov.region_end ?_;refine Cov.seq ?_;refine Cov.seq ?_;refine Cov.region rfl ?_;refine Cov.q .ro (.load_own_a 1 [_] rfl rfl ty49 rfl) rfl ?_;refine Cov.q .ro (.load_own_a 0 [_, _, _] rfl rfl ty263 rfl) rfl ?_;refine Cov.q .ro (.move rfl) rfl ?_
 obtain ⟨u3, hu3, r4⟩ := bind_some h; clear h
 refine Cov.callS (b1 := []) (b2 := [_, _]) (s1 := []) [_, _, _] [] .ro rfl rfl Tryz.call250 rfl rfl (coded_check_c (G := G) List.mem_cons_self  hu3) rfl (fun v6 bo so h5 => ?_)
 obtain ⟨rfl, rfl, rfl⟩ := h5
 refine Cov.same (bl' := [_, _]) (sl' := []) rfl rfl rfl ?_;refine Cov.q .ro (.assign rfl) rfl ?_;refine Cov.region_end ?_;refine Cov.seq ?_;refine Cov.region rfl ?_;refine Cov.q .ro (.move rfl) rfl ?_;refine Cov.q .ro (.neq rfl rfl) rfl ?_;refine Cov.region_end ?_
 refine Cov.cond_dec rfl (fun c7 => ?_) (fun c7 => ?_)
 ·have r8 := ifT r4 c7; clear r4
  refine Cov.seq ?_;refine Cov.region rfl ?_;refine Cov.q .ro (.move rfl) rfl ?_;refine Cov.q .ro (.assign rfl) rfl ?_;refine Cov.q .ro (.assign rfl) rfl ?_;refine Cov.region_end ?_;refine Cov.prune [(6, _), (7, _)] ⟨rfl, rfl, trivial⟩ ?_;refine Cov.own_nil 3 1 ?_
  cases r8
  refine Cov.drop 2 0 [] _ rfl rfl ?_
  refine Cov.retS (c := ⟨249, none⟩) (.inr ⟨_, rfl⟩) [.tmp 6, .tmp 7] [_, _] rfl Tryz.func249 Tryz.results249 ⟨RV.tmp rfl, RV.tmp rfl, trivial⟩ (fun _ h => List.mem_cons_of_mem _ h) ⟨none, 0, [], rfl, rfl, rfl, (OL.nil (Rp' := (Rep.int .i64)))⟩
 ·have r10 := ifF r4 c7; clear r4
  refine Cov.skip ?_;refine Cov.seq ?_;refine Cov.region rfl ?_;refine Cov.q .ro (.assign rfl) rfl ?_;refine Cov.region_end ?_;refine Cov.seq ?_;refine Cov.seq ?_;refine Cov.region rfl ?_;refine Cov.q .ro (.move rfl) rfl ?_
  refine Cov.q .ro (.fieldAddr 1 rfl fl263_1 ty3.sz rfl) rfl ?_;refine Cov.q .ro (.load_own 0 rfl rfl ty3 rfl) rfl ?_;refine Cov.q .ro (.mulw rfl rfl) rfl ?_;refine Cov.q .ro (.move rfl) rfl ?_;refine Cov.region_end ?_;refine Cov.prune [(3, _), (9, _), (20, _), (21, _)] ⟨rfl, rfl, rfl, rfl, trivial⟩ ?_;refine Cov.block ?_;refine Cov.own_nil 3 1 ?_
  refine Cov.loop2 (α := Nat × List Int × Option Addr × Nat × List Value × Int) (fun y => [(9, .slice y.2.2.1 y.2.1.length y.2.2.2.1), (21, .int .i64 y.2.2.2.2.2)]) [(3, _), (20, _)] (fun y => []) (fun y => []) [_, _] (fun y => [.s (.slice y.2.2.1 y.2.1.length y.2.2.2.1) 3 1 y.2.1.length y.2.2.2.2.1]) [] (fun y => OL (Rep.int .i64) G y.2.2.2.2.1 y.2.1 ∧ coded_Limits_L1 (w64 (x2 * x1_1)) x0_0 y.1 y.2.1 y.2.2.2.2.2 = some r) (fun y => y.1) (big, ([] : List Int), none, 0, [], 0) ⟨(OL.nil (Rp' := (Rep.int .i64))), r10⟩ ⟨rfl, rfl, rfl, rfl, trivial⟩ rfl rfl rfl (fun y hI hb65 => ?_)
  obtain ⟨n55, v57, a58, k59, cs60, v63⟩ := y
  obtain ⟨o61, r64⟩ := hI
  try dsimp only at o61 r64
  refine Cov.prune [(9, .slice a58 v57.length k59), (21, .int .i64 v63), (3, _), (20, _)] ⟨rfl, rfl, rfl, rfl, trivial⟩ ?_;refine Cov.same (bl' := [_, _]) (sl' := [.s (.slice a58 v57.length k59) 3 1 v57.length cs60]) (Fs' := G :: Fs) rfl rfl rfl ?_
  obtain ⟨m72, rfl⟩ : ∃ m, n55 = m + 1 := by cases n55 with | zero => exact absurd (show (none : Option _) = some _ from r64) (by simp) | succ m => exact ⟨m, rfl⟩
  have r71 : coded_Limits_B1 (w64 (x2 * x1_1)) x0_0 (coded_Limits_L1 (w64 (x2 * x1_1)) x0_0 m72) v57 v63 = some r := r64; clear r64; unfold coded_Limits_B1 at r71; try dsimp only at r71
  refine Cov.seq ?_;refine Cov.region rfl ?_;refine Cov.q .ro (.lss rfl rfl) rfl ?_;refine Cov.region_end ?_;refine Cov.seq ?_
  refine Cov.cond_dec rfl (fun c73 => ?_) (fun c73 => ?_)
  ·have r74 := ifT r71 c73; clear r71
   refine Cov.skip ?_;refine Cov.seq ?_;refine Cov.block ?_;refine Cov.region rfl ?_;refine Cov.q .ro (.move rfl) rfl ?_;refine Cov.q .ro (.fieldAddr 0 rfl fl49_0 ty3.sz rfl) rfl ?_;refine Cov.q .ro (.load_own 1 rfl rfl ty3 rfl) rfl ?_
   refine Cov.lit [_] [(0, _)] .ro sl41 ty3 rfl rfl rfl rfl rfl rfl (fun b75 hb75 => ?_)
   have o76 : OL (Rep.int .i64) G [.int .i64 x0_0] ([x0_0] : List Int) := ((OL.cons rfl (Rep.intI .i64 x0_0) (OL.nil (Rp' := (Rep.int .i64)))) :)
   refine Cov.reval 26 (n' := ([x0_0] : List Int).length) rfl rfl ?_
   obtain ⟨u82, hu82, r83⟩ := bind_some r74; clear r74
   refine Cov.appO (Q := (Rep.int .i64)) 0 .ro sl41 ty3 rfl rfl rfl rfl rfl rfl o61 o76 rfl rfl rfl B0 hu82 rfl (fun a78 k79 cs80 o81 => ?_)
   refine Cov.q .ro (.assign rfl) rfl ?_;refine Cov.region_end ?_;refine Cov.inBlock ?_;refine Cov.region rfl ?_;refine Cov.q .ro (.addw rfl rfl) rfl ?_;refine Cov.q .ro (.move rfl) rfl ?_;refine Cov.region_end ?_
   refine Cov.prune _ ?_ (Cov.same rfl rfl rfl (hb65 (m72, u82, a78, k79, cs80, (w64 (v63 + 1))) ⟨o81, r83⟩ (Nat.lt_succ_self _)))
   exact ⟨rfl, rfl, rfl, rfl, trivial⟩
  ·have r85 := ifF r71 c73; clear r71
   refine Cov.exit rfl ?_;refine Cov.seq ?_;refine Cov.region rfl ?_;refine Cov.q .ro (.move rfl) rfl ?_;refine Cov.q .ro (.assign rfl) rfl ?_;refine Cov.q .ro (.assign rfl) rfl ?_;refine Cov.region_end ?_
   cases r85
   refine Cov.drop 2 0 [] _ rfl rfl ?_
   refine Cov.retS (c := ⟨249, none⟩) (.inr ⟨_, rfl⟩) [.tmp 6, .tmp 7] [_, _] rfl Tryz.func249 Tryz.results249 ⟨RV.tmp rfl, RV.tmp rfl, trivial⟩ (fun _ h => List.mem_cons_of_mem _ h) ⟨a58, k59, cs60, rfl, rfl, rfl, o61⟩
set_option maxHeartbeats 4000000 in
set_option maxRecDepth 100000 in
theorem scheme_groups_limits_c {Fs : List Hp} {G : Hp} {x0_0 : Int} {x0_1 : Int} {x0_2 : Int} {x1_0 : Int} {x2 : Int} {r : ((List Int) × Int)} (hG : G ∈ Fs)  (h : scheme_groups_limits (x0_0, x0_1, x0_2) x1_0 x2 = some r) : RetS Tryz.prog 247 #[.agg #[.int .i64 x0_0, .int .i64 x0_1, .int .i64 x0_2], .agg #[.int .i64 x1_0], .int .i64 x2] Fs [] [] (fun v bo so => ∃ (oa0 : Option Addr) (ok0 : Nat) (oc0 : List Value), v = .tuple #[.slice oa0 r.1.length ok0, .int .i64 r.2] ∧ bo = [] ∧ so = [.s (.slice oa0 r.1.length ok0) 3 1 r.1.length oc0] ∧ OL (Rep.int .i64) G oc0 r.1) := by
 unfold scheme_groups_limits at h
 try dsimp only at h
 refine RetS.of (vs := [_, _, _]) Tryz.func247 rfl Tryz.ntmps247 [(0, _), (1, _), (2, _)] ⟨rfl, rfl, rfl, trivial⟩ rfl hG fun w0 S0 hS0 B0 => ?_
 refine Cov.seq ?_;refine Cov.region rfl ?_
 refine Cov.box [_, _, _] .ro rfl rfl rfl (fun b1 hb1 => ?_)
 refine Cov.box [_] .ro rfl rfl rfl (fun b2 hb2 => ?_)
 refine Cov.q .ro (.assign rfl) rfl ?_;refine Cov.q .ro (.assign rfl) rfl ?_;refine Cov.region_end ?_;refine Cov.seq ?_;refine Cov.drawL (.q 0 (.q 1 (.q 2 (.q 3 (.e 4 1 (.e 5 1 (.q 6 (.q 7 (.q 8 (.q 9 .nil)))))))))) [_, _] (by kernel_rfl) (by kernel_rfl) (pick_mem [0, 1] rfl) ?_;refine Cov.dq (.load_own_a 0 [_] rfl rfl ty49 rfl) rfl ?_;refine Cov.dq (.load_own_a 1 [_, _, _] rfl rfl ty293 rfl) rfl ?_;refine Cov.dq (.load_own_a 1 [_, _, _] rfl rfl ty293 rfl) rfl ?_;refine Cov.dq (.move rfl) rfl ?_
 obtain ⟨u3, hu3, r4⟩ := bind_some h; clear h
 refine Cov.callS (b1 := []) (b2 := [_, _]) (s1 := []) [_, _] [] .d1 rfl rfl Tryz.call179 rfl rfl (scheme_groups_units_c (G := G) List.mem_cons_self  hu3) rfl (fun v6 bo so h5 => ?_)
 obtain ⟨rfl, rfl, rfl⟩ := h5
 refine Cov.same (bl' := [_, _]) (sl' := []) rfl rfl rfl ?_;refine Cov.clsL (HpLe.refl _) (pick_mem [0, 1] rfl) ?_
 obtain ⟨u7, hu7, r8⟩ := bind_some r4; clear r4
 refine Cov.callS (b1 := []) (b2 := [_, _]) (s1 := []) [_, _, _] [] .d1 rfl rfl Tryz.call249 rfl rfl (coded_Limits_c (G := G) List.mem_cons_self  hu7) rfl (fun v10 bo so h9 => ?_)
 obtain ⟨a12, k13, cs14, rfl, rfl, rfl, o15⟩ := h9
 refine Cov.same (bl' := [_, _]) (sl' := [_]) rfl rfl rfl ?_;refine Cov.clsL (HpLe.refl _) (pick_mem [0, 1] rfl) ?_;refine Cov.dq (.extract rfl rfl) rfl ?_;refine Cov.dq (.extract rfl rfl) rfl ?_;refine Cov.dq (.assign rfl) rfl ?_;refine Cov.dq (.assign rfl) rfl ?_;refine Cov.draw_end ?_;refine Cov.prune [(6, _), (7, _)] ⟨rfl, rfl, trivial⟩ ?_
 cases r8
 refine Cov.drop 2 0 [] _ rfl rfl ?_
 refine Cov.retS (c := ⟨247, none⟩) (.inr ⟨_, rfl⟩) [.tmp 6, .tmp 7] [_, _] rfl Tryz.func247 Tryz.results247 ⟨RV.tmp rfl, RV.tmp rfl, trivial⟩ (fun _ h => List.mem_cons_of_mem _ h) ⟨a12, k13, cs14, rfl, rfl, rfl, o15⟩
set_option maxHeartbeats 4000000 in
set_option maxRecDepth 100000 in
theorem scheme_Limits_c {Fs : List Hp} {G : Hp} {x0_0 : Int} {x0_1 : Int} {x0_2 : Int} {x0_3 : Int} {x1_0 : Int} {x2 : Int} {r : ((List Int) × Int)} (hG : G ∈ Fs)  (h : scheme_Limits (x0_0, x0_1, x0_2, x0_3) x1_0 x2 = some r) : RetS Tryz.prog 101 #[.agg #[.int .i64 x0_0, .int .i64 x0_1, .int .i64 x0_2, .int .i64 x0_3], .agg #[.int .i64 x1_0], .int .i64 x2] Fs [] [] (fun v bo so => ∃ (oa0 : Option Addr) (ok0 : Nat) (oc0 : List Value), v = .tuple #[.slice oa0 r.1.length ok0, .int .i64 r.2] ∧ bo = [] ∧ so = [.s (.slice oa0 r.1.length ok0) 3 1 r.1.length oc0] ∧ OL (Rep.int .i64) G oc0 r.1) := by
 unfold scheme_Limits at h
 try dsimp only at h
 refine RetS.of (vs := [_, _, _]) Tryz.func101 rfl Tryz.ntmps101 [(0, _), (1, _), (2, _)] ⟨rfl, rfl, rfl, trivial⟩ rfl hG fun w0 S0 hS0 B0 => ?_
 refine Cov.seq ?_;refine Cov.region rfl ?_
 refine Cov.box [_, _, _, _] .ro rfl rfl rfl (fun b1 hb1 => ?_)
 refine Cov.box [_] .ro rfl rfl rfl (fun b2 hb2 => ?_)
 refine Cov.q .ro (.assign rfl) rfl ?_;refine Cov.q .ro (.assign rfl) rfl ?_;refine Cov.region_end ?_;refine Cov.seq ?_;refine Cov.seq ?_;refine Cov.region rfl ?_;refine Cov.q .ro (.load_own_a 1 [_, _, _, _] rfl rfl ty27 rfl) rfl ?_;refine Cov.q .ro (.load_own_a 0 [_] rfl rfl ty49 rfl) rfl ?_;refine Cov.q .ro (.move rfl) rfl ?_
 obtain ⟨u3, hu3, r4⟩ := bind_some h; clear h
 refine Cov.callS (b1 := []) (b2 := [_, _]) (s1 := []) [_, _, _] [] .ro rfl rfl Tryz.call146 rfl rfl (scheme_look_c (G := G) List.mem_cons_self  hu3) rfl (fun v6 bo so h5 => ?_)
 obtain ⟨rfl, rfl, rfl⟩ := h5
 refine Cov.same (bl' := [_, _]) (sl' := []) rfl rfl rfl ?_;refine Cov.q .ro (.assign rfl) rfl ?_;refine Cov.region_end ?_;refine Cov.seq ?_;refine Cov.region rfl ?_;refine Cov.q .ro (.move rfl) rfl ?_;refine Cov.q .ro (.neq rfl rfl) rfl ?_;refine Cov.region_end ?_
 refine Cov.cond_dec rfl (fun c7 => ?_) (fun c7 => ?_)
 ·have r8 := ifT r4 c7; clear r4
  refine Cov.seq ?_;refine Cov.region rfl ?_;refine Cov.q .ro (.move rfl) rfl ?_;refine Cov.q .ro (.assign rfl) rfl ?_;refine Cov.q .ro (.assign rfl) rfl ?_;refine Cov.region_end ?_;refine Cov.prune [(6, _), (7, _)] ⟨rfl, rfl, trivial⟩ ?_;refine Cov.own_nil 3 1 ?_
  cases r8
  refine Cov.drop 2 0 [] _ rfl rfl ?_
  refine Cov.retS (c := ⟨101, none⟩) (.inr ⟨_, rfl⟩) [.tmp 6, .tmp 7] [_, _] rfl Tryz.func101 Tryz.results101 ⟨RV.tmp rfl, RV.tmp rfl, trivial⟩ (fun _ h => List.mem_cons_of_mem _ h) ⟨none, 0, [], rfl, rfl, rfl, (OL.nil (Rp' := (Rep.int .i64)))⟩
 ·have r10 := ifF r4 c7; clear r4
  refine Cov.skip ?_;refine Cov.seq ?_;refine Cov.drawL (.q 0 (.q 2 (.q 3 (.e 1 1 (.e 4 1 (.q 5 (.q 6 (.q 7 (.q 8 .nil))))))))) [_, _] (by kernel_rfl) (by kernel_rfl) (pick_mem [0, 1] rfl) ?_;refine Cov.dq (.load_own_a 1 [_, _, _, _] rfl rfl ty27 rfl) rfl ?_;refine Cov.dq (.load_own_a 0 [_] rfl rfl ty49 rfl) rfl ?_;refine Cov.dq (.move rfl) rfl ?_
  obtain ⟨u11, hu11, r12⟩ := bind_some r10; clear r10
  refine Cov.callS (b1 := []) (b2 := [_, _]) (s1 := []) [_] [] .d1 rfl rfl Tryz.call147 rfl rfl (scheme_kindOf_c (G := G) List.mem_cons_self  hu11) rfl (fun v14 bo so h13 => ?_)
  obtain ⟨rfl, rfl, rfl⟩ := h13
  refine Cov.same (bl' := [_, _]) (sl' := []) rfl rfl rfl ?_;refine Cov.clsL (HpLe.refl _) (pick_mem [0, 1] rfl) ?_
  cases u11 with
  | inl w15 =>
   try dsimp only at r12
   refine Cov.viaI (F := 235) (t := 291) (v := .agg #[.int .i64 w15]) .d1 rfl (fun w => by kernel_rfl) (fun K17 hs18 => ?_)
   obtain ⟨u19, hu19, r20⟩ := bind_some r12; clear r12
   refine Cov.callS (b1 := []) (b2 := [_, _]) (s1 := []) [_, _, _] [] hs18 rfl rfl Tryz.call235 rfl rfl (scheme_sums_limits_c (G := G) List.mem_cons_self  hu19) rfl (fun v22 bo so h21 => ?_)
   obtain ⟨a24, k25, cs26, rfl, rfl, rfl, o27⟩ := h21
   refine Cov.same (bl' := [_, _]) (sl' := [_]) rfl rfl rfl ?_;refine Cov.clsL (HpLe.refl _) (pick_mem [0, 1] rfl) ?_;refine Cov.dq (.extract rfl rfl) rfl ?_;refine Cov.dq (.extract rfl rfl) rfl ?_;refine Cov.dq (.assign rfl) rfl ?_;refine Cov.dq (.assign rfl) rfl ?_;refine Cov.draw_end ?_;refine Cov.prune [(6, _), (7, _)] ⟨rfl, rfl, trivial⟩ ?_
   cases r20
   refine Cov.drop 2 0 [] _ rfl rfl ?_
   refine Cov.retS (c := ⟨101, none⟩) (.inr ⟨_, rfl⟩) [.tmp 6, .tmp 7] [_, _] rfl Tryz.func101 Tryz.results101 ⟨RV.tmp rfl, RV.tmp rfl, trivial⟩ (fun _ h => List.mem_cons_of_mem _ h) ⟨a24, k25, cs26, rfl, rfl, rfl, o27⟩
  | inr w16 =>
   cases w16 with
   | inl w28 =>
    try dsimp only at r12
    refine Cov.viaI (F := 240) (t := 292) (v := .agg #[.int .i64 w28.1, .int .i64 w28.2]) .d1 rfl (fun w => by kernel_rfl) (fun K30 hs31 => ?_)
    obtain ⟨u32, hu32, r33⟩ := bind_some r12; clear r12
    refine Cov.callS (b1 := []) (b2 := [_, _]) (s1 := []) [_, _, _] [] hs31 rfl rfl Tryz.call240 rfl rfl (scheme_curves_limits_c (G := G) List.mem_cons_self  hu32) rfl (fun v35 bo so h34 => ?_)
    obtain ⟨a37, k38, cs39, rfl, rfl, rfl, o40⟩ := h34
    refine Cov.same (bl' := [_, _]) (sl' := [_]) rfl rfl rfl ?_;refine Cov.clsL (HpLe.refl _) (pick_mem [0, 1] rfl) ?_;refine Cov.dq (.extract rfl rfl) rfl ?_;refine Cov.dq (.extract rfl rfl) rfl ?_;refine Cov.dq (.assign rfl) rfl ?_;refine Cov.dq (.assign rfl) rfl ?_;refine Cov.draw_end ?_;refine Cov.prune [(6, _), (7, _)] ⟨rfl, rfl, trivial⟩ ?_
    cases r33
    refine Cov.drop 2 0 [] _ rfl rfl ?_
    refine Cov.retS (c := ⟨101, none⟩) (.inr ⟨_, rfl⟩) [.tmp 6, .tmp 7] [_, _] rfl Tryz.func101 Tryz.results101 ⟨RV.tmp rfl, RV.tmp rfl, trivial⟩ (fun _ h => List.mem_cons_of_mem _ h) ⟨a37, k38, cs39, rfl, rfl, rfl, o40⟩
   | inr w29 =>
    try dsimp only at r12
    refine Cov.viaI (F := 247) (t := 293) (v := .agg #[.int .i64 w29.1, .int .i64 w29.2.1, .int .i64 w29.2.2]) .d1 rfl (fun w => by kernel_rfl) (fun K43 hs44 => ?_)
    obtain ⟨u45, hu45, r46⟩ := bind_some r12; clear r12
    refine Cov.callS (b1 := []) (b2 := [_, _]) (s1 := []) [_, _, _] [] hs44 rfl rfl Tryz.call247 rfl rfl (scheme_groups_limits_c (G := G) List.mem_cons_self  hu45) rfl (fun v48 bo so h47 => ?_)
    obtain ⟨a50, k51, cs52, rfl, rfl, rfl, o53⟩ := h47
    refine Cov.same (bl' := [_, _]) (sl' := [_]) rfl rfl rfl ?_;refine Cov.clsL (HpLe.refl _) (pick_mem [0, 1] rfl) ?_;refine Cov.dq (.extract rfl rfl) rfl ?_;refine Cov.dq (.extract rfl rfl) rfl ?_;refine Cov.dq (.assign rfl) rfl ?_;refine Cov.dq (.assign rfl) rfl ?_;refine Cov.draw_end ?_;refine Cov.prune [(6, _), (7, _)] ⟨rfl, rfl, trivial⟩ ?_
    cases r46
    refine Cov.drop 2 0 [] _ rfl rfl ?_
    refine Cov.retS (c := ⟨101, none⟩) (.inr ⟨_, rfl⟩) [.tmp 6, .tmp 7] [_, _] rfl Tryz.func101 Tryz.results101 ⟨RV.tmp rfl, RV.tmp rfl, trivial⟩ (fun _ h => List.mem_cons_of_mem _ h) ⟨a50, k51, cs52, rfl, rfl, rfl, o53⟩
set_option maxHeartbeats 4000000 in
set_option maxRecDepth 100000 in
theorem math_bits_Mul64_c {Fs : List Hp} {G : Hp} {x0 : Int} {x1 : Int} {r : (Int × Int)} (hG : G ∈ Fs)  (h : math_bits_Mul64 x0 x1 = some r) : RetS Tryz.prog 176 #[.int .u64 x0, .int .u64 x1] Fs [] [] (fun v bo so => v = .tuple #[.int .u64 r.1, .int .u64 r.2] ∧ bo = [] ∧ so = []) := by
 unfold math_bits_Mul64 at h
 try dsimp only at h
 refine RetS.of (vs := [_, _]) Tryz.func176 rfl Tryz.ntmps176 [(0, _), (1, _)] ⟨rfl, rfl, trivial⟩ rfl hG fun w0 S0 hS0 B0 => ?_
 refine Cov.seq ?_;refine Cov.region rfl ?_;refine Cov.q .ro (.assign rfl) rfl ?_;refine Cov.q .ro (.assign rfl) rfl ?_;refine Cov.region_end ?_;refine Cov.seq ?_;refine Cov.region rfl ?_;refine Cov.q .ro (.move rfl) rfl ?_;refine Cov.q .ro (.andw rfl rfl) rfl ?_
 refine Cov.q .ro (.assign rfl) rfl ?_;refine Cov.region_end ?_;refine Cov.seq ?_;refine Cov.region rfl ?_;refine Cov.q .ro (.move rfl) rfl ?_;refine Cov.q .ro (.shrw rfl rfl (by decide)) rfl ?_;refine Cov.q .ro (.assign rfl) rfl ?_;refine Cov.region_end ?_;refine Cov.seq ?_
 refine Cov.region rfl ?_;refine Cov.q .ro (.move rfl) rfl ?_;refine Cov.q .ro (.andw rfl rfl) rfl ?_;refine Cov.q .ro (.assign rfl) rfl ?_;refine Cov.region_end ?_;refine Cov.seq ?_;refine Cov.region rfl ?_;refine Cov.q .ro (.move rfl) rfl ?_;refine Cov.q .ro (.shrw rfl rfl (by decide)) rfl ?_
 refine Cov.q .ro (.assign rfl) rfl ?_;refine Cov.region_end ?_;refine Cov.seq ?_;refine Cov.region rfl ?_;refine Cov.q .ro (.move rfl) rfl ?_;refine Cov.q .ro (.move rfl) rfl ?_;refine Cov.q .ro (.mulw rfl rfl) rfl ?_;refine Cov.q .ro (.assign rfl) rfl ?_;refine Cov.region_end ?_
 refine Cov.prune [(0, _), (1, _), (6, _), (7, _), (8, _), (9, _), (10, _)] ⟨rfl, rfl, rfl, rfl, rfl, rfl, rfl, trivial⟩ ?_;refine Cov.seq ?_;refine Cov.region rfl ?_;refine Cov.q .ro (.move rfl) rfl ?_;refine Cov.q .ro (.move rfl) rfl ?_;refine Cov.q .ro (.mulw rfl rfl) rfl ?_;refine Cov.q .ro (.move rfl) rfl ?_;refine Cov.q .ro (.shrw rfl rfl (by decide)) rfl ?_;refine Cov.q .ro (.addw rfl rfl) rfl ?_
 refine Cov.q .ro (.assign rfl) rfl ?_;refine Cov.region_end ?_;refine Cov.seq ?_;refine Cov.region rfl ?_;refine Cov.q .ro (.move rfl) rfl ?_;refine Cov.q .ro (.andw rfl rfl) rfl ?_;refine Cov.q .ro (.assign rfl) rfl ?_;refine Cov.region_end ?_;refine Cov.seq ?_
 refine Cov.region rfl ?_;refine Cov.q .ro (.move rfl) rfl ?_;refine Cov.q .ro (.shrw rfl rfl (by decide)) rfl ?_;refine Cov.q .ro (.assign rfl) rfl ?_;refine Cov.region_end ?_;refine Cov.prune [(0, _), (1, _), (6, _), (7, _), (9, _), (12, _), (13, _)] ⟨rfl, rfl, rfl, rfl, rfl, rfl, rfl, trivial⟩ ?_;refine Cov.seq ?_;refine Cov.region rfl ?_;refine Cov.q .ro (.move rfl) rfl ?_
 refine Cov.q .ro (.move rfl) rfl ?_;refine Cov.q .ro (.move rfl) rfl ?_;refine Cov.q .ro (.mulw rfl rfl) rfl ?_;refine Cov.q .ro (.addw rfl rfl) rfl ?_;refine Cov.q .ro (.assign rfl) rfl ?_;refine Cov.region_end ?_;refine Cov.seq ?_;refine Cov.region rfl ?_;refine Cov.q .ro (.move rfl) rfl ?_
 refine Cov.q .ro (.move rfl) rfl ?_;refine Cov.q .ro (.mulw rfl rfl) rfl ?_;refine Cov.q .ro (.move rfl) rfl ?_;refine Cov.q .ro (.addw rfl rfl) rfl ?_;refine Cov.q .ro (.move rfl) rfl ?_;refine Cov.q .ro (.shrw rfl rfl (by decide)) rfl ?_;refine Cov.q .ro (.addw rfl rfl) rfl ?_;refine Cov.q .ro (.assign rfl) rfl ?_;refine Cov.region_end ?_
 refine Cov.prune [(0, _), (1, _), (4, _)] ⟨rfl, rfl, rfl, trivial⟩ ?_;refine Cov.seq ?_;refine Cov.region rfl ?_;refine Cov.q .ro (.move rfl) rfl ?_;refine Cov.q .ro (.move rfl) rfl ?_;refine Cov.q .ro (.mulw rfl rfl) rfl ?_;refine Cov.q .ro (.assign rfl) rfl ?_;refine Cov.region_end ?_
 cases h
 refine Cov.retS (c := ⟨176, none⟩) (.inr ⟨_, rfl⟩) [.tmp 4, .tmp 5] [_, _] rfl Tryz.func176 Tryz.results176 ⟨RV.tmp rfl, RV.tmp rfl, trivial⟩ (fun _ h => List.mem_cons_of_mem _ h) ⟨rfl, rfl, rfl⟩
set_option maxHeartbeats 4000000 in
set_option maxRecDepth 100000 in
theorem math_bits_Mul_c {Fs : List Hp} {G : Hp} {x0 : Int} {x1 : Int} {r : (Int × Int)} (hG : G ∈ Fs)  (h : math_bits_Mul x0 x1 = some r) : RetS Tryz.prog 148 #[.int .u64 x0, .int .u64 x1] Fs [] [] (fun v bo so => v = .tuple #[.int .u64 r.1, .int .u64 r.2] ∧ bo = [] ∧ so = []) := by
 unfold math_bits_Mul at h
 try dsimp only at h
 refine RetS.of (vs := [_, _]) Tryz.func148 rfl Tryz.ntmps148 [(0, _), (1, _)] ⟨rfl, rfl, trivial⟩ rfl hG fun w0 S0 hS0 B0 => ?_
 refine Cov.seq ?_;refine Cov.region rfl ?_;refine Cov.q .ro (.assign rfl) rfl ?_;refine Cov.q .ro (.assign rfl) rfl ?_;refine Cov.region_end ?_;refine Cov.seq ?_;refine Cov.cond_false rfl ?_;refine Cov.skip ?_;refine Cov.seq ?_
 refine Cov.region rfl ?_;refine Cov.q .ro (.move rfl) rfl ?_;refine Cov.q .ro (.move rfl) rfl ?_
 obtain ⟨u1, hu1, r2⟩ := bind_some h; clear h
 refine Cov.callS (b1 := []) (b2 := []) (s1 := []) [_, _] [] .ro rfl rfl Tryz.call176 rfl rfl (math_bits_Mul64_c (G := G) List.mem_cons_self  hu1) rfl (fun v4 bo so h3 => ?_)
 obtain ⟨rfl, rfl, rfl⟩ := h3
 refine Cov.same (bl' := []) (sl' := []) rfl rfl rfl ?_;refine Cov.q .ro (.move rfl) rfl ?_;refine Cov.q .ro (.extract rfl rfl) rfl ?_;refine Cov.q .ro (.extract rfl rfl) rfl ?_;refine Cov.q .ro (.assign rfl) rfl ?_;refine Cov.q .ro (.assign rfl) rfl ?_;refine Cov.region_end ?_;refine Cov.seq ?_;refine Cov.region rfl ?_
 refine Cov.q .ro (.move rfl) rfl ?_;refine Cov.q .ro (.move rfl) rfl ?_;refine Cov.q .ro (.assign rfl) rfl ?_;refine Cov.q .ro (.assign rfl) rfl ?_;refine Cov.region_end ?_
 cases r2
 refine Cov.retS (c := ⟨148, none⟩) (.inr ⟨_, rfl⟩) [.tmp 4, .tmp 5] [_, _] rfl Tryz.func148 Tryz.results148 ⟨RV.tmp rfl, RV.tmp rfl, trivial⟩ (fun _ h => List.mem_cons_of_mem _ h) ⟨rfl, rfl, rfl⟩
set_option maxHeartbeats 4000000 in
set_option maxRecDepth 100000 in
theorem slices_Repeat_Lintint_c {Fs : List Hp} {G : Hp} {a0 : Option Addr} {k0 : Nat} {x0 : List Int} {x1 : Int} {r : (List Int)} (hG : G ∈ Fs) (s0 : SlR (Rep.int .i64) G a0 k0 x0) (h : slices_Repeat_Lintint x0 x1 = some r) : RetS Tryz.prog 102 #[.slice a0 x0.length k0, .int .i64 x1] Fs [] [] (fun v bo so => ∃ (oa0 : Option Addr) (ok0 : Nat) (oc0 : List Value), v = .slice oa0 r.length ok0 ∧ bo = [] ∧ so = [.s (.slice oa0 r.length ok0) 3 1 r.length oc0] ∧ OL (Rep.int .i64) G oc0 r) := by
 unfold slices_Repeat_Lintint at h
 try dsimp only at h
 refine RetS.of (vs := [_, _]) Tryz.func102 rfl Tryz.ntmps102 [(0, _), (1, _)] ⟨rfl, rfl, trivial⟩ rfl hG fun w0 S0 hS0 B0 => ?_
 refine Cov.seq ?_;refine Cov.region rfl ?_;refine Cov.q .ro (.assign rfl) rfl ?_;refine Cov.region_end ?_;refine Cov.seq ?_;refine Cov.seq ?_;refine Cov.region rfl ?_;refine Cov.q .ro (.move rfl) rfl ?_;refine Cov.q .ro (.lss rfl rfl) rfl ?_
 refine Cov.region_end ?_;refine Cov.cutI (β := Unit) (fun y => []) [(0, _), (1, _)] (fun y => G :: Fs) (fun y => []) [] (fun y => []) [] (fun y => (slices_Repeat_Lintint_J3 x0 x1)  = some r) ⟨rfl, rfl, trivial⟩ [] rfl [] rfl ?_ ?_
 ·intro _ hI
  have r6 := hI; clear hI
  refine Cov.prune [(0, _), (1, _)] ⟨rfl, rfl, trivial⟩ ?_;refine Cov.same (bl' := []) (sl' := []) (Fs' := G :: Fs) rfl rfl rfl ?_
  unfold slices_Repeat_Lintint_J3 at r6
  try dsimp only at r6
  refine Cov.seq ?_;refine Cov.region rfl ?_;refine Cov.q .ro (.move rfl) rfl ?_;refine Cov.q .ro (.len_sl rfl rfl sl41) rfl ?_;refine Cov.q .ro (.convw Tryz.underlying3 Tryz.underlying253 rfl) rfl ?_;refine Cov.q .ro (.move rfl) rfl ?_;refine Cov.q .ro (.convw Tryz.underlying3 Tryz.underlying253 rfl) rfl ?_
  obtain ⟨u9, hu9, r10⟩ := bind_some r6; clear r6
  refine Cov.callS (b1 := []) (b2 := []) (s1 := []) [_, _] [] .ro rfl rfl Tryz.call148 rfl rfl (math_bits_Mul_c (G := G) List.mem_cons_self  hu9) rfl (fun v12 bo so h11 => ?_)
  obtain ⟨rfl, rfl, rfl⟩ := h11
  refine Cov.same (bl' := []) (sl' := []) rfl rfl rfl ?_;refine Cov.q .ro (.move rfl) rfl ?_;refine Cov.q .ro (.extract rfl rfl) rfl ?_;refine Cov.q .ro (.extract rfl rfl) rfl ?_;refine Cov.q .ro (.assign rfl) rfl ?_;refine Cov.q .ro (.assign rfl) rfl ?_;refine Cov.region_end ?_;refine Cov.seq ?_;refine Cov.seq ?_
  refine Cov.region rfl ?_;refine Cov.q .ro (.move rfl) rfl ?_;refine Cov.q .ro (.gtr rfl rfl) rfl ?_;refine Cov.q .ro (.move rfl) rfl ?_;refine Cov.cutR 3 (β := Unit) (fun y => [(26, .bool (decide ((0 < u9.1) ∨ (9223372036854775807 < u9.2))))]) [(0, _), (6, _)] (fun y => G :: Fs) (fun y => []) [] (fun y => []) [] (fun y => True) ⟨rfl, rfl, trivial⟩ [] rfl [] rfl ?_ ?_
  ·rintro _ _
   refine Cov.prune [(26, .bool (decide ((0 < u9.1) ∨ (9223372036854775807 < u9.2)))), (0, _), (6, _)] ⟨rfl, rfl, rfl, trivial⟩ ?_;refine Cov.same (bl' := []) (sl' := []) (Fs' := G :: Fs) rfl rfl rfl ?_;refine Cov.region_end ?_;refine Cov.cutI (β := Unit) (fun y => []) [(0, _), (6, _)] (fun y => G :: Fs) (fun y => []) [] (fun y => []) [] (fun y => (slices_Repeat_Lintint_J2 x0 u9.2)  = some r) ⟨rfl, rfl, trivial⟩ [] rfl [] rfl ?_ ?_
   ·intro _ hI
    have r22 := hI; clear hI
    refine Cov.prune [(0, _), (6, _)] ⟨rfl, rfl, trivial⟩ ?_;refine Cov.same (bl' := []) (sl' := []) (Fs' := G :: Fs) rfl rfl rfl ?_
    unfold slices_Repeat_Lintint_J2 at r22
    try dsimp only at r22
    refine Cov.seq ?_;refine Cov.region rfl ?_;refine Cov.q .ro (.move rfl) rfl ?_;refine Cov.q .ro (.convw Tryz.underlying253 Tryz.underlying3 rfl) rfl ?_
    obtain ⟨u25, hu25, r26⟩ := bind_some r22; clear r22
    refine Cov.makeR (G := G) (Q := (Rep.int .i64)) .ro sl41 ty3 rfl rfl rfl ((Rep.intI .i64 0) :) rfl rfl hu25 rfl rfl (fun b27 cs28 hb27 o29 => ?_)
    refine Cov.q .ro (.assign rfl) rfl ?_;refine Cov.region_end ?_;refine Cov.seq ?_;refine Cov.region rfl ?_;refine Cov.q .ro (.move rfl) rfl ?_;refine Cov.q .ro (.move rfl) rfl ?_
    refine Cov.owncap 0 rfl (fun h31 => ?_)
    obtain ⟨u32, hu32, r33⟩ := bind_some r26; clear r26
    refine Cov.copyG 0 (Q := (Rep.int .i64)) .ro sl41 ty3.sz rfl o29 hu32 rfl (PartV.all h31) rfl (SrcV.rd s0 List.mem_cons_self) rfl (fun cs34 hlcs34 o35 => ?_)
    refine Cov.reval 30 hlcs34 rfl ?_;refine Cov.reval 7 hlcs34 rfl ?_;refine Cov.reval 31 hlcs34 rfl ?_;refine Cov.q .ro (.assign rfl) rfl ?_;refine Cov.region_end ?_;refine Cov.seq ?_;refine Cov.block ?_
    refine Cov.loop2 (α := Nat × Int × List Int × Option Addr × Nat × List Value) (fun y => [(8, .int .i64 y.2.1), (7, .slice y.2.2.2.1 y.2.2.1.length y.2.2.2.2.1)]) [] (fun y => []) (fun y => []) [] (fun y => [.s (.slice y.2.2.2.1 y.2.2.1.length y.2.2.2.2.1) 3 1 y.2.2.1.length y.2.2.2.2.2]) [] (fun y => OL (Rep.int .i64) G y.2.2.2.2.2 y.2.2.1 ∧ slices_Repeat_Lintint_L1 y.1 y.2.1 y.2.2.1 = some r) (fun y => y.1) (big, ((min x0.length u32.length : Nat) : Int), (lcpy u25 0 u32.length x0), (some ⟨b27, 0, none⟩), u25.length, cs34) ⟨o35, r33⟩ ⟨rfl, rfl, trivial⟩ rfl rfl rfl (fun y hI hb65 => ?_)
    obtain ⟨n55, v57, v58, a59, k60, cs61⟩ := y
    obtain ⟨o62, r64⟩ := hI
    try dsimp only at o62 r64
    refine Cov.prune [(8, .int .i64 v57), (7, .slice a59 v58.length k60)] ⟨rfl, rfl, trivial⟩ ?_;refine Cov.same (bl' := []) (sl' := [.s (.slice a59 v58.length k60) 3 1 v58.length cs61]) (Fs' := G :: Fs) rfl rfl rfl ?_
    obtain ⟨m67, rfl⟩ : ∃ m, n55 = m + 1 := by cases n55 with | zero => exact absurd (show (none : Option _) = some _ from r64) (by simp) | succ m => exact ⟨m, rfl⟩
    have r66 : slices_Repeat_Lintint_B1 (slices_Repeat_Lintint_L1 m67) v57 v58 = some r := r64; clear r64; unfold slices_Repeat_Lintint_B1 at r66; try dsimp only at r66
    refine Cov.seq ?_;refine Cov.seq ?_;refine Cov.region rfl ?_;refine Cov.q .ro (.move rfl) rfl ?_;refine Cov.q .ro (.move rfl) rfl ?_;refine Cov.q .ro (.len_sl rfl rfl sl41) rfl ?_;refine Cov.q .ro (.lss rfl rfl) rfl ?_;refine Cov.region_end ?_
    refine Cov.cond_dec rfl (fun c68 => ?_) (fun c68 => ?_)
    ·have r69 := ifT r66 c68; clear r66
     refine Cov.skip ?_;refine Cov.block ?_;refine Cov.drawL (.q 0 (.q 1 (.q 2 (.q 3 (.q 4 (.q 5 (.q 6 (.e 7 1 (.q 8 (.q 9 .nil)))))))))) [] (by kernel_rfl) (by kernel_rfl) (pick_mem [] rfl) ?_;refine Cov.dq (.move rfl) rfl ?_;refine Cov.dq (.move rfl) rfl ?_;refine Cov.dq (.move rfl) rfl ?_
     refine Cov.owncap 0 rfl (fun h70 => ?_)
     obtain ⟨u71, hu71, r72⟩ := bind_some r69; clear r69
     refine Cov.dq (.sliceP rfl (PartV.all h70) hu71 sl41 ty3.sz (fun h => .yes' rfl h) (fun _ => .no)) rfl ?_;refine Cov.dq (.move rfl) rfl ?_;refine Cov.dq (.move rfl) rfl ?_
     refine Cov.owncap 0 rfl (fun h73 => ?_)
     obtain ⟨u74, hu74, r75⟩ := bind_some r72; clear r72
     refine Cov.dq (.sliceP rfl (PartV.all h73) hu74 sl41 ty3.sz (fun _ => .no) (fun h => .yes' rfl h)) rfl ?_
     obtain ⟨u76, hu76, r77⟩ := bind_some r75; clear r75
     obtain ⟨u78, hu78, r79⟩ := bind_some r77; clear r77
     refine Cov.copyG 0 (Q := (Rep.int .i64)) .d1 sl41 ty3.sz rfl o62 hu76 rfl (PartV.psub (PartV.all h70) hu71) rfl (SrcV.osub 0 rfl o62 (PartV.psub (PartV.all h73) hu74) hu78) rfl (fun cs80 hlcs80 o81 => ?_)
     refine Cov.reval 7 hlcs80 rfl ?_;refine Cov.reval 35 hlcs80 rfl ?_;refine Cov.reval 39 hlcs80 rfl ?_;refine Cov.reval 42 hlcs80 rfl ?_;refine Cov.clsL (HpLe.refl _) (pick_mem [] rfl) ?_;refine Cov.dq (.addw rfl rfl) rfl ?_;refine Cov.dq (.assign rfl) rfl ?_;refine Cov.draw_end ?_;refine Cov.prune [(8, _), (7, _)] ⟨rfl, rfl, trivial⟩ ?_
     refine Cov.inBlock ?_
     refine Cov.prune _ ?_ (Cov.same rfl rfl rfl (hb65 (m67, (w64 (v57 + ((min u78.length u76.length : Nat) : Int))), (lcpy v58 u71.1 u76.length u78), a59, k60, cs80) ⟨o81, r79⟩ (Nat.lt_succ_self _)))
     exact ⟨rfl, rfl, trivial⟩
    ·have r83 := ifF r66 c68; clear r66
     refine Cov.exit rfl ?_;refine Cov.seq ?_;refine Cov.region rfl ?_;refine Cov.q .ro (.move rfl) rfl ?_;refine Cov.q .ro (.assign rfl) rfl ?_;refine Cov.region_end ?_
     cases r83
     refine Cov.retS (c := ⟨102, none⟩) (.inr ⟨_, rfl⟩) [.tmp 4] [_] rfl Tryz.func102 Tryz.results102 ⟨RV.tmp rfl, trivial⟩ (fun _ h => List.mem_cons_of_mem _ h) ⟨a59, k60, cs61, rfl, rfl, rfl, o62⟩
   ·intro hb84
    refine Cov.cond_dec rfl (fun c85 => ?_) (fun c85 => ?_)
    ·have r86 := ifT r10 c85; clear r10
     refine Cov.region rfl ?_
     exact absurd r86 (by simp)
    ·have r87 := ifF r10 c85; clear r10
     refine Cov.skip ?_
     refine Cov.prune _ ?_ (Cov.same rfl rfl rfl (hb84 () r87))
     exact ⟨rfl, rfl, trivial⟩
  ·intro hb14
   refine Cov.split 23 rfl (fun c13 => ?_) (fun c13 => ?_)
   ·refine Cov.g_off rfl rfl rfl ?_
    refine Cov.g_off rfl rfl rfl ?_;refine Cov.q .ro (.pick_t rfl rfl) rfl ?_
    refine Cov.prune _ ?_ (Cov.same rfl rfl rfl (hb14 () trivial))
    exact ⟨dor_t c13, rfl, rfl, trivial⟩
   ·refine Cov.g_on rfl ?_
    refine Cov.q .ro (.move rfl) rfl ?_;refine Cov.g_on rfl ?_;refine Cov.q .ro (.gtr rfl rfl) rfl ?_;refine Cov.q .ro (.pick_f rfl rfl) rfl ?_
    refine Cov.prune _ ?_ (Cov.same rfl rfl rfl (hb14 () trivial))
    exact ⟨dor_f c13, rfl, rfl, trivial⟩
 ·intro hb88
  refine Cov.cond_dec rfl (fun c89 => ?_) (fun c89 => ?_)
  ·have r90 := ifT h c89; clear h
   refine Cov.region rfl ?_
   exact absurd r90 (by simp)
  ·have r91 := ifF h c89; clear h
   refine Cov.skip ?_
   refine Cov.prune _ ?_ (Cov.same rfl rfl rfl (hb88 () r91))
   exact ⟨rfl, rfl, trivial⟩
set_option maxHeartbeats 4000000 in
set_option maxRecDepth 100000 in
theorem wish_Limits_c {Fs : List Hp} {G : Hp} {x0_0 : Int} {x0_1 : Int} {x0_2 : Int} {x0_3 : Int} {x1_0 : Int} {x2 : Int} {x3 : Int} {r : ((List Int) × Int)} (hG : G ∈ Fs)  (h : wish_Limits (x0_0, x0_1, x0_2, x0_3) x1_0 x2 x3 = some r) : RetS Tryz.prog 49 #[.agg #[.int .i64 x0_0, .int .i64 x0_1, .int .i64 x0_2, .int .i64 x0_3], .agg #[.int .i64 x1_0], .int .i64 x2, .int .i64 x3] Fs [] [] (fun v bo so => ∃ (oa0 : Option Addr) (ok0 : Nat) (oc0 : List Value), v = .tuple #[.slice oa0 r.1.length ok0, .int .i64 r.2] ∧ bo = [] ∧ so = [.s (.slice oa0 r.1.length ok0) 3 1 r.1.length oc0] ∧ OL (Rep.int .i64) G oc0 r.1) := by
 unfold wish_Limits at h
 try dsimp only at h
 refine RetS.of (vs := [_, _, _, _]) Tryz.func49 rfl Tryz.ntmps49 [(0, _), (1, _), (2, _), (3, _)] ⟨rfl, rfl, rfl, rfl, trivial⟩ rfl hG fun w0 S0 hS0 B0 => ?_
 refine Cov.seq ?_;refine Cov.region rfl ?_
 refine Cov.box [_, _, _, _] .ro rfl rfl rfl (fun b1 hb1 => ?_)
 refine Cov.box [_] .ro rfl rfl rfl (fun b2 hb2 => ?_)
 refine Cov.q .ro (.assign rfl) rfl ?_;refine Cov.q .ro (.assign rfl) rfl ?_;refine Cov.region_end ?_;refine Cov.seq ?_;refine Cov.block ?_;refine Cov.seq ?_;refine Cov.region rfl ?_;refine Cov.q .ro (.load_own_a 1 [_, _, _, _] rfl rfl ty27 rfl) rfl ?_;refine Cov.q .ro (.load_own_a 0 [_] rfl rfl ty49 rfl) rfl ?_
 obtain ⟨u3, hu3, r4⟩ := bind_some h; clear h
 refine Cov.callS (b1 := []) (b2 := [_, _]) (s1 := []) [_, _] [] .ro rfl rfl Tryz.call99 rfl rfl (scheme_Valid_c (G := G) List.mem_cons_self  hu3) rfl (fun v6 bo so h5 => ?_)
 obtain ⟨rfl, rfl, rfl⟩ := h5
 refine Cov.same (bl' := [_, _]) (sl' := []) rfl rfl rfl ?_;refine Cov.q .ro (.not rfl) rfl ?_;refine Cov.q .ro (.assign rfl) rfl ?_;refine Cov.region_end ?_
 refine Cov.cond rfl (fun c7 => ?_) (fun c7 => ?_)
 ·have r8 := ifT r4 c7; clear r4
  refine Cov.seq ?_;refine Cov.region rfl ?_;refine Cov.q .ro (.assign rfl) rfl ?_;refine Cov.q .ro (.assign rfl) rfl ?_;refine Cov.region_end ?_;refine Cov.own_nil 3 1 ?_
  cases r8
  refine Cov.drop 2 0 [] _ rfl rfl ?_
  refine Cov.retS (c := ⟨49, none⟩) (.inr ⟨_, rfl⟩) [.tmp 8, .tmp 9] [_, _] rfl Tryz.func49 Tryz.results49 ⟨RV.tmp rfl, RV.tmp rfl, trivial⟩ (fun _ h => List.mem_cons_of_mem _ h) ⟨none, 0, [], rfl, rfl, rfl, (OL.nil (Rp' := (Rep.int .i64)))⟩
 ·have r10 := ifBF r4 c7; clear r4
  refine Cov.seq ?_;refine Cov.region rfl ?_;refine Cov.q .ro (.move rfl) rfl ?_
  obtain ⟨u11, hu11, r12⟩ := bind_some r10; clear r10
  refine Cov.callS (b1 := []) (b2 := [_, _]) (s1 := []) [_, _, _] [] .ro rfl rfl Tryz.call100 rfl rfl (wish_within_c (G := G) List.mem_cons_self  hu11) rfl (fun v14 bo so h13 => ?_)
  obtain ⟨rfl, rfl, rfl⟩ := h13
  refine Cov.same (bl' := [_, _]) (sl' := []) rfl rfl rfl ?_;refine Cov.q .ro (.not rfl) rfl ?_;refine Cov.q .ro (.move rfl) rfl ?_
  obtain ⟨u21, h22, r23⟩ := bind_some r12; clear r12
  refine Cov.cutR 4 (β := Unit) (fun y => [(25, .bool u21)]) [(2, _), (3, _), (4, _), (5, _)] (fun y => G :: Fs) (fun y => []) [_, _] (fun y => []) [] (fun y => True) ⟨rfl, rfl, rfl, rfl, trivial⟩ [0, 1] rfl [] rfl ?_ ?_
  ·rintro _ _
   refine Cov.prune [(25, .bool u21), (2, _), (3, _), (4, _), (5, _)] ⟨rfl, rfl, rfl, rfl, rfl, trivial⟩ ?_;refine Cov.same (bl' := [_, _]) (sl' := []) (Fs' := G :: Fs) rfl rfl rfl ?_;refine Cov.q .ro (.assign rfl) rfl ?_;refine Cov.region_end ?_
   refine Cov.cond rfl (fun c26 => ?_) (fun c26 => ?_)
   ·have r27 := ifT r23 c26; clear r23
    refine Cov.seq ?_;refine Cov.region rfl ?_;refine Cov.q .ro (.assign rfl) rfl ?_;refine Cov.q .ro (.assign rfl) rfl ?_;refine Cov.region_end ?_;refine Cov.own_nil 3 1 ?_
    cases r27
    refine Cov.drop 2 0 [] _ rfl rfl ?_
    refine Cov.retS (c := ⟨49, none⟩) (.inr ⟨_, rfl⟩) [.tmp 8, .tmp 9] [_, _] rfl Tryz.func49 Tryz.results49 ⟨RV.tmp rfl, RV.tmp rfl, trivial⟩ (fun _ h => List.mem_cons_of_mem _ h) ⟨none, 0, [], rfl, rfl, rfl, (OL.nil (Rp' := (Rep.int .i64)))⟩
   ·have r29 := ifBF r23 c26; clear r23
    refine Cov.skip ?_;refine Cov.inBlock ?_;refine Cov.seq ?_;refine Cov.region rfl ?_;refine Cov.q .ro (.load_own_a 1 [_, _, _, _] rfl rfl ty27 rfl) rfl ?_;refine Cov.q .ro (.load_own_a 0 [_] rfl rfl ty49 rfl) rfl ?_;refine Cov.q .ro (.move rfl) rfl ?_
    obtain ⟨u30, hu30, r31⟩ := bind_some r29; clear r29
    refine Cov.callS (b1 := []) (b2 := [_, _]) (s1 := []) [_, _, _] [] .ro rfl rfl Tryz.call101 rfl rfl (scheme_Limits_c (G := G) List.mem_cons_self  hu30) rfl (fun v33 bo so h32 => ?_)
    obtain ⟨a35, k36, cs37, rfl, rfl, rfl, o38⟩ := h32
    refine Cov.same (bl' := [_, _]) (sl' := [_]) rfl rfl rfl ?_;refine Cov.q .ro (.move rfl) rfl ?_;refine Cov.q .ro (.extract rfl rfl) rfl ?_;refine Cov.q .ro (.extract rfl rfl) rfl ?_;refine Cov.q .ro (.assign rfl) rfl ?_;refine Cov.q .ro (.assign rfl) rfl ?_;refine Cov.region_end ?_;refine Cov.seq ?_;refine Cov.seq ?_
    refine Cov.region rfl ?_;refine Cov.q .ro (.move rfl) rfl ?_;refine Cov.q .ro (.neq rfl rfl) rfl ?_;refine Cov.region_end ?_;refine Cov.prune [(3, _), (10, _), (11, _), (34, _)] ⟨rfl, rfl, rfl, rfl, trivial⟩ ?_
    refine Cov.cond_dec rfl (fun c39 => ?_) (fun c39 => ?_)
    ·have r40 := ifT r31 c39; clear r31
     refine Cov.seq ?_;refine Cov.region rfl ?_;refine Cov.q .ro (.move rfl) rfl ?_;refine Cov.q .ro (.assign rfl) rfl ?_;refine Cov.q .ro (.assign rfl) rfl ?_;refine Cov.region_end ?_;refine Cov.own_nil 3 1 ?_
     cases r40
     refine Cov.drop 2 0 [] _ rfl rfl ?_;refine Cov.pullS 1 rfl [_, _] rfl ?_;refine Cov.drop 0 1 _ [_] rfl rfl ?_
     refine Cov.retS (c := ⟨49, none⟩) (.inr ⟨_, rfl⟩) [.tmp 8, .tmp 9] [_, _] rfl Tryz.func49 Tryz.results49 ⟨RV.tmp rfl, RV.tmp rfl, trivial⟩ (fun _ h => List.mem_cons_of_mem _ h) ⟨none, 0, [], rfl, rfl, rfl, (OL.nil (Rp' := (Rep.int .i64)))⟩
    ·have r42 := ifF r31 c39; clear r31
     refine Cov.skip ?_;refine Cov.seq ?_;refine Cov.region rfl ?_;refine Cov.q .ro (.move rfl) rfl ?_;refine Cov.q .ro (.move rfl) rfl ?_
     refine Cov.freezeR 0 rfl rfl o38 [] rfl B0 (fun G43 e44 B45 s46 => ?_)
     obtain ⟨u48, hu48, r49⟩ := bind_some r42; clear r42
     refine Cov.callS (b1 := []) (b2 := [_, _]) (s1 := []) [_, _] [] .ro rfl rfl Tryz.call102 rfl rfl (slices_Repeat_Lintint_c (G := G43) List.mem_cons_self s46 hu48) rfl (fun v51 bo so h50 => ?_)
     obtain ⟨a53, k54, cs55, rfl, rfl, rfl, o56⟩ := h50
     refine Cov.same (bl' := [_, _]) (sl' := [_]) rfl rfl rfl ?_;refine Cov.q .ro (.assign rfl) rfl ?_;refine Cov.q .ro (.assign rfl) rfl ?_;refine Cov.region_end ?_
     cases r49
     refine Cov.drop 2 0 [] _ rfl rfl ?_
     refine Cov.retS (c := ⟨49, none⟩) (.inr ⟨_, rfl⟩) [.tmp 8, .tmp 9] [_, _] rfl Tryz.func49 Tryz.results49 ⟨RV.tmp rfl, RV.tmp rfl, trivial⟩ (fun _ h => List.mem_cons_of_mem _ h) ⟨a53, k54, cs55, rfl, rfl, rfl, o56⟩
  ·intro hb20
   refine Cov.split_b 21 rfl (fun c19 => ?_) (fun c19 => ?_)
   ·have r57 := ifT h22 c19
    refine Cov.g_off rfl rfl rfl ?_;refine Cov.g_off rfl rfl rfl ?_;refine Cov.g_off rfl rfl rfl ?_;refine Cov.q .ro (.pick_t rfl rfl) rfl ?_
    refine Cov.prune _ ?_ (Cov.same rfl rfl rfl (hb20 () trivial))
    exact ⟨sval r57, rfl, rfl, rfl, rfl, trivial⟩
   ·have r58 := ifBF h22 c19
    refine Cov.g_on rfl ?_;refine Cov.q .ro (.move rfl) rfl ?_;refine Cov.g_on rfl ?_
    obtain ⟨u59, hu59, r60⟩ := bind_some r58; clear r58
    refine Cov.callS (b1 := []) (b2 := [_, _]) (s1 := []) [_, _, _] [] .ro rfl rfl Tryz.call100 rfl rfl (wish_within_c (G := G) List.mem_cons_self  hu59) rfl (fun v62 bo so h61 => ?_)
    obtain ⟨rfl, rfl, rfl⟩ := h61
    refine Cov.same (bl' := [_, _]) (sl' := []) rfl rfl rfl ?_;refine Cov.g_on rfl ?_;refine Cov.q .ro (.not rfl) rfl ?_;refine Cov.q .ro (.pick_f rfl rfl) rfl ?_
    refine Cov.prune _ ?_ (Cov.same rfl rfl rfl (hb20 () trivial))
    exact ⟨sval r60, rfl, rfl, rfl, rfl, trivial⟩
set_option maxHeartbeats 4000000 in
set_option maxRecDepth 100000 in
theorem bounds_Draws_c {Fs : List Hp} {G : Hp} {x0_0 : Int} {x0_1 : Int} {x0_2 : Int} {x0_3 : Int} {x1_0 : Int} {x2 : Int} {x3 : Int} {r : (Int × Int)} (hG : G ∈ Fs)  (h : bounds_Draws (x0_0, x0_1, x0_2, x0_3) x1_0 x2 x3 = some r) : RetS Tryz.prog 11 #[.agg #[.int .i64 x0_0, .int .i64 x0_1, .int .i64 x0_2, .int .i64 x0_3], .agg #[.int .i64 x1_0], .int .i64 x2, .int .i64 x3] Fs [] [] (fun v bo so => v = .tuple #[.int .i64 r.1, .int .i64 r.2] ∧ bo = [] ∧ so = []) := by
 unfold bounds_Draws at h
 try dsimp only at h
 refine RetS.of (vs := [_, _, _, _]) Tryz.func11 rfl Tryz.ntmps11 [(0, _), (1, _), (2, _), (3, _)] ⟨rfl, rfl, rfl, rfl, trivial⟩ rfl hG fun w0 S0 hS0 B0 => ?_
 refine Cov.seq ?_;refine Cov.region rfl ?_
 refine Cov.box [_, _, _, _] .ro rfl rfl rfl (fun b1 hb1 => ?_)
 refine Cov.box [_] .ro rfl rfl rfl (fun b2 hb2 => ?_)
 refine Cov.q .ro (.assign rfl) rfl ?_;refine Cov.q .ro (.assign rfl) rfl ?_;refine Cov.region_end ?_;refine Cov.seq ?_;refine Cov.region rfl ?_;refine Cov.q .ro (.load_own_a 1 [_, _, _, _] rfl rfl ty27 rfl) rfl ?_;refine Cov.q .ro (.load_own_a 0 [_] rfl rfl ty49 rfl) rfl ?_;refine Cov.q .ro (.move rfl) rfl ?_;refine Cov.q .ro (.move rfl) rfl ?_
 obtain ⟨u3, hu3, r4⟩ := bind_some h; clear h
 refine Cov.callS (b1 := []) (b2 := [_, _]) (s1 := []) [_, _, _, _] [] .ro rfl rfl Tryz.call49 rfl rfl (wish_Limits_c (G := G) List.mem_cons_self  hu3) rfl (fun v6 bo so h5 => ?_)
 obtain ⟨a8, k9, cs10, rfl, rfl, rfl, o11⟩ := h5
 refine Cov.same (bl' := [_, _]) (sl' := [_]) rfl rfl rfl ?_;refine Cov.q .ro (.move rfl) rfl ?_;refine Cov.q .ro (.extract rfl rfl) rfl ?_;refine Cov.q .ro (.extract rfl rfl) rfl ?_;refine Cov.q .ro (.assign rfl) rfl ?_;refine Cov.q .ro (.assign rfl) rfl ?_;refine Cov.region_end ?_;refine Cov.prune [(10, _), (11, _)] ⟨rfl, rfl, trivial⟩ ?_;refine Cov.seq ?_
 refine Cov.region rfl ?_;refine Cov.q .ro (.move rfl) rfl ?_;refine Cov.q .ro (.len_sl rfl rfl sl41) rfl ?_;refine Cov.q .ro (.move rfl) rfl ?_;refine Cov.q .ro (.assign rfl) rfl ?_;refine Cov.q .ro (.assign rfl) rfl ?_;refine Cov.region_end ?_
 cases r4
 refine Cov.drop 2 0 [] _ rfl rfl ?_;refine Cov.drop 0 1 _ [] rfl rfl ?_
 refine Cov.retS (c := ⟨11, none⟩) (.inr ⟨_, rfl⟩) [.tmp 8, .tmp 9] [_, _] rfl Tryz.func11 Tryz.results11 ⟨RV.tmp rfl, RV.tmp rfl, trivial⟩ (fun _ h => List.mem_cons_of_mem _ h) ⟨rfl, rfl, rfl⟩
set_option maxHeartbeats 4000000 in
set_option maxRecDepth 100000 in
theorem bounds_asked_c {Fs : List Hp} {G : Hp} {x0_0 : Int} {x0_1 : Int} {x0_2 : Int} {x0_3 : Int} {x1 : Int} {r : Int} (hG : G ∈ Fs)  (h : bounds_asked (x0_0, x0_1, x0_2, x0_3) x1 = some r) : RetS Tryz.prog 50 #[.agg #[.int .i64 x0_0, .int .i64 x0_1, .int .i64 x0_2, .int .i64 x0_3], .int .i64 x1] Fs [] [] (fun v bo so => v = .int .i64 r ∧ bo = [] ∧ so = []) := by
 unfold bounds_asked at h
 try dsimp only at h
 refine RetS.of (vs := [_, _]) Tryz.func50 rfl Tryz.ntmps50 [(0, _), (1, _)] ⟨rfl, rfl, trivial⟩ rfl hG fun w0 S0 hS0 B0 => ?_
 refine Cov.seq ?_;refine Cov.region rfl ?_
 refine Cov.box [_, _, _, _] .ro rfl rfl rfl (fun b1 hb1 => ?_)
 refine Cov.q .ro (.assign rfl) rfl ?_;refine Cov.region_end ?_;refine Cov.seq ?_;refine Cov.region rfl ?_;refine Cov.q .ro (.move rfl) rfl ?_;refine Cov.q .ro (.fieldAddr 1 rfl fl27_1 ty3.sz rfl) rfl ?_;refine Cov.q .ro (.load_own 0 rfl rfl ty3 rfl) rfl ?_;refine Cov.q .ro (.mulw rfl rfl) rfl ?_;refine Cov.q .ro (.assign rfl) rfl ?_
 refine Cov.region_end ?_
 cases h
 refine Cov.drop 1 0 [] _ rfl rfl ?_
 refine Cov.retS (c := ⟨50, none⟩) (.inr ⟨_, rfl⟩) [.tmp 4] [_] rfl Tryz.func50 Tryz.results50 ⟨RV.tmp rfl, trivial⟩ (fun _ h => List.mem_cons_of_mem _ h) ⟨rfl, rfl, rfl⟩
set_option maxHeartbeats 4000000 in
set_option maxRecDepth 100000 in
theorem bounds_Notes_c {Fs : List Hp} {G : Hp} {x0_0 : Int} {x0_1 : Int} {x0_2 : Int} {x0_3 : Int} {x1 : Int} {r : Int} (hG : G ∈ Fs)  (h : bounds_Notes (x0_0, x0_1, x0_2, x0_3) x1 = some r) : RetS Tryz.prog 13 #[.agg #[.int .i64 x0_0, .int .i64 x0_1, .int .i64 x0_2, .int .i64 x0_3], .int .i64 x1] Fs [] [] (fun v bo so => v = .int .i64 r ∧ bo = [] ∧ so = []) := by
 unfold bounds_Notes at h
 try dsimp only at h
 refine RetS.of (vs := [_, _]) Tryz.func13 rfl Tryz.ntmps13 [(0, _), (1, _)] ⟨rfl, rfl, trivial⟩ rfl hG fun w0 S0 hS0 B0 => ?_
 refine Cov.seq ?_;refine Cov.region rfl ?_
 refine Cov.box [_, _, _, _] .ro rfl rfl rfl (fun b1 hb1 => ?_)
 refine Cov.q .ro (.assign rfl) rfl ?_;refine Cov.region_end ?_;refine Cov.seq ?_;refine Cov.region rfl ?_;refine Cov.q .ro (.load_own_a 0 [_, _, _, _] rfl rfl ty27 rfl) rfl ?_;refine Cov.q .ro (.move rfl) rfl ?_
 obtain ⟨u2, hu2, r3⟩ := bind_some h; clear h
 refine Cov.callS (b1 := []) (b2 := [_]) (s1 := []) [_, _] [] .ro rfl rfl Tryz.call50 rfl rfl (bounds_asked_c (G := G) List.mem_cons_self  hu2) rfl (fun v5 bo so h4 => ?_)
 obtain ⟨rfl, rfl, rfl⟩ := h4
 refine Cov.same (bl' := [_]) (sl' := []) rfl rfl rfl ?_;refine Cov.q .ro (.mulw rfl rfl) rfl ?_;refine Cov.q .ro (.assign rfl) rfl ?_;refine Cov.region_end ?_
 cases r3
 refine Cov.drop 1 0 [] _ rfl rfl ?_
 refine Cov.retS (c := ⟨13, none⟩) (.inr ⟨_, rfl⟩) [.tmp 4] [_] rfl Tryz.func13 Tryz.results13 ⟨RV.tmp rfl, trivial⟩ (fun _ h => List.mem_cons_of_mem _ h) ⟨rfl, rfl, rfl⟩
set_option maxHeartbeats 4000000 in
set_option maxRecDepth 100000 in
theorem bounds_Words_c {Fs : List Hp} {G : Hp} {x0_0 : Int} {x0_1 : Int} {x0_2 : Int} {x0_3 : Int} {x1 : Int} {x2 : Int} {r : Int} (hG : G ∈ Fs)  (h : bounds_Words (x0_0, x0_1, x0_2, x0_3) x1 x2 = some r) : RetS Tryz.prog 18 #[.agg #[.int .i64 x0_0, .int .i64 x0_1, .int .i64 x0_2, .int .i64 x0_3], .int .i64 x1, .int .i64 x2] Fs [] [] (fun v bo so => v = .int .i64 r ∧ bo = [] ∧ so = []) := by
 unfold bounds_Words at h
 try dsimp only at h
 refine RetS.of (vs := [_, _, _]) Tryz.func18 rfl Tryz.ntmps18 [(0, _), (1, _), (2, _)] ⟨rfl, rfl, rfl, trivial⟩ rfl hG fun w0 S0 hS0 B0 => ?_
 refine Cov.seq ?_;refine Cov.region rfl ?_
 refine Cov.box [_, _, _, _] .ro rfl rfl rfl (fun b1 hb1 => ?_)
 refine Cov.q .ro (.assign rfl) rfl ?_;refine Cov.region_end ?_;refine Cov.seq ?_;refine Cov.region rfl ?_;refine Cov.q .ro (.load_own_a 0 [_, _, _, _] rfl rfl ty27 rfl) rfl ?_;refine Cov.q .ro (.move rfl) rfl ?_
 obtain ⟨u2, hu2, r3⟩ := bind_some h; clear h
 refine Cov.callS (b1 := []) (b2 := [_]) (s1 := []) [_, _] [] .ro rfl rfl Tryz.call50 rfl rfl (bounds_asked_c (G := G) List.mem_cons_self  hu2) rfl (fun v5 bo so h4 => ?_)
 obtain ⟨rfl, rfl, rfl⟩ := h4
 refine Cov.same (bl' := [_]) (sl' := []) rfl rfl rfl ?_;refine Cov.q .ro (.move rfl) rfl ?_;refine Cov.q .ro (.mulw rfl rfl) rfl ?_;refine Cov.q .ro (.assign rfl) rfl ?_;refine Cov.region_end ?_
 cases r3
 refine Cov.drop 1 0 [] _ rfl rfl ?_
 refine Cov.retS (c := ⟨18, none⟩) (.inr ⟨_, rfl⟩) [.tmp 6] [_] rfl Tryz.func18 Tryz.results18 ⟨RV.tmp rfl, trivial⟩ (fun _ h => List.mem_cons_of_mem _ h) ⟨rfl, rfl, rfl⟩
set_option maxHeartbeats 4000000 in
set_option maxRecDepth 100000 in
theorem bounds_Steps_c {Fs : List Hp} {G : Hp} {x0_0 : Int} {x0_1 : Int} {x0_2 : Int} {x0_3 : Int} {x1 : Int} {x2 : Int} {r : Int} (hG : G ∈ Fs)  (h : bounds_Steps (x0_0, x0_1, x0_2, x0_3) x1 x2 = some r) : RetS Tryz.prog 14 #[.agg #[.int .i64 x0_0, .int .i64 x0_1, .int .i64 x0_2, .int .i64 x0_3], .int .i64 x1, .int .i64 x2] Fs [] [] (fun v bo so => v = .int .i64 r ∧ bo = [] ∧ so = []) := by
 unfold bounds_Steps at h
 try dsimp only at h
 refine RetS.of (vs := [_, _, _]) Tryz.func14 rfl Tryz.ntmps14 [(0, _), (1, _), (2, _)] ⟨rfl, rfl, rfl, trivial⟩ rfl hG fun w0 S0 hS0 B0 => ?_
 refine Cov.seq ?_;refine Cov.region rfl ?_
 refine Cov.box [_, _, _, _] .ro rfl rfl rfl (fun b1 hb1 => ?_)
 refine Cov.q .ro (.assign rfl) rfl ?_;refine Cov.region_end ?_;refine Cov.seq ?_;refine Cov.drawL (.q 0 (.q 1 (.q 3 (.q 4 (.q 5 (.e 2 1 (.e 6 1 (.q 7 (.q 8 .nil))))))))) [_] (by kernel_rfl) (by kernel_rfl) (pick_mem [0] rfl) ?_;refine Cov.dq (.load_own_a 0 [_, _, _, _] rfl rfl ty27 rfl) rfl ?_;refine Cov.dq (.move rfl) rfl ?_;refine Cov.dq (.load_own_a 0 [_, _, _, _] rfl rfl ty27 rfl) rfl ?_;refine Cov.dq (.move rfl) rfl ?_;refine Cov.dq (.move rfl) rfl ?_
 obtain ⟨u2, hu2, r3⟩ := bind_some h; clear h
 refine Cov.callS (b1 := []) (b2 := [_]) (s1 := []) [_, _] [] .d1 rfl rfl Tryz.call13 rfl rfl (bounds_Notes_c (G := G) List.mem_cons_self  hu2) rfl (fun v5 bo so h4 => ?_)
 obtain ⟨rfl, rfl, rfl⟩ := h4
 refine Cov.same (bl' := [_]) (sl' := []) rfl rfl rfl ?_;refine Cov.clsL (HpLe.refl _) (pick_mem [0] rfl) ?_
 obtain ⟨u6, hu6, r7⟩ := bind_some r3; clear r3
 refine Cov.callS (b1 := []) (b2 := [_]) (s1 := []) [_, _, _] [] .d1 rfl rfl Tryz.call18 rfl rfl (bounds_Words_c (G := G) List.mem_cons_self  hu6) rfl (fun v9 bo so h8 => ?_)
 obtain ⟨rfl, rfl, rfl⟩ := h8
 refine Cov.same (bl' := [_]) (sl' := []) rfl rfl rfl ?_;refine Cov.clsL (HpLe.refl _) (pick_mem [0] rfl) ?_;refine Cov.dq (.addw rfl rfl) rfl ?_;refine Cov.dq (.assign rfl) rfl ?_;refine Cov.draw_end ?_
 cases r7
 refine Cov.drop 1 0 [] _ rfl rfl ?_
 refine Cov.retS (c := ⟨14, none⟩) (.inr ⟨_, rfl⟩) [.tmp 6] [_] rfl Tryz.func14 Tryz.results14 ⟨RV.tmp rfl, trivial⟩ (fun _ h => List.mem_cons_of_mem _ h) ⟨rfl, rfl, rfl⟩
set_option maxHeartbeats 4000000 in
set_option maxRecDepth 100000 in
theorem law43_sane_c {Fs : List Hp} {G : Hp}  {r : Bool} (hG : G ∈ Fs)  (h : law43_sane = some r) : RetS Tryz.prog 5 #[] Fs [] [] (fun v bo so => v = .bool r ∧ bo = [] ∧ so = []) := by
 unfold law43_sane at h
 try dsimp only at h
 refine RetS.of (vs := []) Tryz.func5 rfl Tryz.ntmps5 [] trivial rfl hG fun w0 S0 hS0 B0 => ?_
 refine Cov.seq ?_;refine Cov.region rfl ?_;refine Cov.q .ro (.assign rfl) rfl ?_;refine Cov.region_end ?_;refine Cov.seq ?_;refine Cov.region rfl ?_;refine Cov.q .ro (.build [_, _, _, _] [(0, _), (1, _)] ty27 pl27 rfl rfl) rfl ?_
 refine Cov.alloc .ro ty27 rfl (fun b1 hb1 => ?_)
 refine Cov.store 0 [_, _, _, _] [_] .ro rfl rfl rfl ty27 rfl rfl rfl rfl ?_;refine Cov.region_end ?_;refine Cov.seq ?_;refine Cov.region rfl ?_;refine Cov.q .ro (.load_own_a 0 [_, _, _, _] rfl rfl ty27 rfl) rfl ?_;refine Cov.q .ro (.build [_] [(0, _)] ty49 pl49 rfl rfl) rfl ?_
 obtain ⟨u2, hu2, r3⟩ := bind_some h; clear h
 refine Cov.callS (b1 := []) (b2 := [_]) (s1 := []) [_, _, _, _] [] .ro rfl rfl Tryz.call11 rfl rfl (bounds_Draws_c (G := G) List.mem_cons_self  hu2) rfl (fun v5 bo so h4 => ?_)
 obtain ⟨rfl, rfl, rfl⟩ := h4
 refine Cov.same (bl' := [_]) (sl' := []) rfl rfl rfl ?_;refine Cov.q .ro (.move rfl) rfl ?_;refine Cov.q .ro (.extract rfl rfl) rfl ?_;refine Cov.q .ro (.extract rfl rfl) rfl ?_;refine Cov.q .ro (.assign rfl) rfl ?_;refine Cov.q .ro (.assign rfl) rfl ?_;refine Cov.region_end ?_;refine Cov.seq ?_;refine Cov.region rfl ?_
 refine Cov.q .ro (.load_own_a 0 [_, _, _, _] rfl rfl ty27 rfl) rfl ?_
 obtain ⟨u6, hu6, r7⟩ := bind_some r3; clear r3
 refine Cov.callS (b1 := []) (b2 := [_]) (s1 := []) [_, _] [] .ro rfl rfl Tryz.call13 rfl rfl (bounds_Notes_c (G := G) List.mem_cons_self  hu6) rfl (fun v9 bo so h8 => ?_)
 obtain ⟨rfl, rfl, rfl⟩ := h8
 refine Cov.same (bl' := [_]) (sl' := []) rfl rfl rfl ?_;refine Cov.q .ro (.eql rfl rfl) rfl ?_;refine Cov.q .ro (.move rfl) rfl ?_
 obtain ⟨u16, h17, r18⟩ := bind_some r7; clear r7
 refine Cov.cutR 4 (β := Unit) (fun y => [(18, .bool u16)]) [(0, _), (1, _), (2, _), (3, _)] (fun y => G :: Fs) (fun y => []) [_] (fun y => []) [] (fun y => True) ⟨rfl, rfl, rfl, rfl, trivial⟩ [0] rfl [] rfl ?_ ?_
 ·rintro _ _
  refine Cov.prune [(18, .bool u16), (0, _), (1, _), (2, _), (3, _)] ⟨rfl, rfl, rfl, rfl, rfl, trivial⟩ ?_;refine Cov.same (bl' := [_]) (sl' := []) (Fs' := G :: Fs) rfl rfl rfl ?_;refine Cov.q .ro (.move rfl) rfl ?_
  obtain ⟨u27, h28, r29⟩ := bind_some r18; clear r18
  refine Cov.cutR 4 (β := Unit) (fun y => [(23, .bool u27)]) [(0, _), (2, _), (3, _)] (fun y => G :: Fs) (fun y => []) [_] (fun y => []) [] (fun y => True) ⟨rfl, rfl, rfl, trivial⟩ [0] rfl [] rfl ?_ ?_
  ·rintro _ _
   refine Cov.prune [(23, .bool u27), (0, _), (2, _), (3, _)] ⟨rfl, rfl, rfl, rfl, trivial⟩ ?_;refine Cov.same (bl' := [_]) (sl' := []) (Fs' := G :: Fs) rfl rfl rfl ?_;refine Cov.q .ro (.move rfl) rfl ?_;refine Cov.cutR 3 (β := Unit) (fun y => [(27, .bool (decide ((u27 = true) ∧ (u2.2 = 0))))]) [(0, _), (2, _)] (fun y => G :: Fs) (fun y => []) [_] (fun y => []) [] (fun y => True) ⟨rfl, rfl, trivial⟩ [0] rfl [] rfl ?_ ?_
   ·rintro _ _
    refine Cov.prune [(27, .bool (decide ((u27 = true) ∧ (u2.2 = 0)))), (0, _), (2, _)] ⟨rfl, rfl, rfl, trivial⟩ ?_;refine Cov.same (bl' := [_]) (sl' := []) (Fs' := G :: Fs) rfl rfl rfl ?_;refine Cov.q .ro (.move rfl) rfl ?_;refine Cov.cutR 3 (β := Unit) (fun y => [(31, .bool (decide (((u27 = true) ∧ (u2.2 = 0)) ∧ (u2.1 = 16))))]) [(0, _)] (fun y => G :: Fs) (fun y => []) [_] (fun y => []) [] (fun y => True) ⟨rfl, trivial⟩ [0] rfl [] rfl ?_ ?_
    ·rintro _ _
     refine Cov.prune [(31, .bool (decide (((u27 = true) ∧ (u2.2 = 0)) ∧ (u2.1 = 16)))), (0, _)] ⟨rfl, rfl, trivial⟩ ?_;refine Cov.same (bl' := [_]) (sl' := []) (Fs' := G :: Fs) rfl rfl rfl ?_;refine Cov.q .ro (.assign rfl) rfl ?_;refine Cov.region_end ?_
     cases r29
     refine Cov.drop 1 0 [] _ rfl rfl ?_
     refine Cov.retS (c := ⟨5, none⟩) (.inr ⟨_, rfl⟩) [.tmp 0] [_] rfl Tryz.func5 Tryz.results5 ⟨RV.tmp rfl, trivial⟩ (fun _ h => List.mem_cons_of_mem _ h) ⟨rfl, rfl, rfl⟩
    ·intro hb37
     refine Cov.split 28 rfl (fun c36 => ?_) (fun c36 => ?_)
     ·refine Cov.g_on rfl ?_
      refine Cov.q .ro (.move rfl) rfl ?_;refine Cov.g_on rfl ?_;refine Cov.q .ro (.eql rfl rfl) rfl ?_;refine Cov.q .ro (.pick_t rfl rfl) rfl ?_
      refine Cov.prune _ ?_ (Cov.same rfl rfl rfl (hb37 () trivial))
      exact ⟨dand_t c36, rfl, trivial⟩
     ·refine Cov.g_off rfl rfl rfl ?_
      refine Cov.g_off rfl rfl rfl ?_;refine Cov.q .ro (.pick_f rfl rfl) rfl ?_
      refine Cov.prune _ ?_ (Cov.same rfl rfl rfl (hb37 () trivial))
      exact ⟨dand_f c36, rfl, trivial⟩
   ·intro hb33
    refine Cov.split_b 24 rfl (fun c32 => ?_) (fun c32 => ?_)
    ·refine Cov.g_on rfl ?_
     refine Cov.q .ro (.move rfl) rfl ?_;refine Cov.g_on rfl ?_;refine Cov.q .ro (.eql rfl rfl) rfl ?_;refine Cov.q .ro (.pick_t rfl rfl) rfl ?_
     refine Cov.prune _ ?_ (Cov.same rfl rfl rfl (hb33 () trivial))
     exact ⟨dand_t c32, rfl, rfl, trivial⟩
    ·refine Cov.g_off rfl rfl rfl ?_
     refine Cov.g_off rfl rfl rfl ?_;refine Cov.q .ro (.pick_f rfl rfl) rfl ?_
     refine Cov.prune _ ?_ (Cov.same rfl rfl rfl (hb33 () trivial))
     exact ⟨dand_f (bne_of c32), rfl, rfl, trivial⟩
  ·intro hb26
   refine Cov.split_b 19 rfl (fun c25 => ?_) (fun c25 => ?_)
   ·have r40 := ifT h28 c25
    refine Cov.g_on rfl ?_;refine Cov.q .ro (.load_own_a 0 [_, _, _, _] rfl rfl ty27 rfl) rfl ?_;refine Cov.g_on rfl ?_
    obtain ⟨u41, hu41, r42⟩ := bind_some r40; clear r40
    refine Cov.callS (b1 := []) (b2 := [_]) (s1 := []) [_, _, _] [] .ro rfl rfl Tryz.call14 rfl rfl (bounds_Steps_c (G := G) List.mem_cons_self  hu41) rfl (fun v44 bo so h43 => ?_)
    obtain ⟨rfl, rfl, rfl⟩ := h43
    refine Cov.same (bl' := [_]) (sl' := []) rfl rfl rfl ?_;refine Cov.g_on rfl ?_;refine Cov.q .ro (.eql rfl rfl) rfl ?_;refine Cov.q .ro (.pick_t rfl rfl) rfl ?_
    refine Cov.prune _ ?_ (Cov.same rfl rfl rfl (hb26 () trivial))
    exact ⟨sval r42, rfl, rfl, rfl, trivial⟩
   ·have r45 := ifBF h28 c25
    refine Cov.g_off rfl rfl rfl ?_;refine Cov.g_off rfl rfl rfl ?_;refine Cov.g_off rfl rfl rfl ?_;refine Cov.q .ro (.pick_f rfl rfl) rfl ?_
    refine Cov.prune _ ?_ (Cov.same rfl rfl rfl (hb26 () trivial))
    exact ⟨sval r45, rfl, rfl, rfl, trivial⟩
 ·intro hb15
  refine Cov.split 14 rfl (fun c14 => ?_) (fun c14 => ?_)
  ·have r46 := ifT h17 c14
   refine Cov.g_on rfl ?_;refine Cov.q .ro (.load_own_a 0 [_, _, _, _] rfl rfl ty27 rfl) rfl ?_;refine Cov.g_on rfl ?_
   obtain ⟨u47, hu47, r48⟩ := bind_some r46; clear r46
   refine Cov.callS (b1 := []) (b2 := [_]) (s1 := []) [_, _, _] [] .ro rfl rfl Tryz.call18 rfl rfl (bounds_Words_c (G := G) List.mem_cons_self  hu47) rfl (fun v50 bo so h49 => ?_)
   obtain ⟨rfl, rfl, rfl⟩ := h49
   refine Cov.same (bl' := [_]) (sl' := []) rfl rfl rfl ?_;refine Cov.g_on rfl ?_;refine Cov.q .ro (.eql rfl rfl) rfl ?_;refine Cov.q .ro (.pick_t rfl rfl) rfl ?_
   refine Cov.prune _ ?_ (Cov.same rfl rfl rfl (hb15 () trivial))
   exact ⟨sval r48, rfl, rfl, rfl, rfl, trivial⟩
  ·have r51 := ifF h17 c14
   refine Cov.g_off rfl rfl rfl ?_;refine Cov.g_off rfl rfl rfl ?_;refine Cov.g_off rfl rfl rfl ?_;refine Cov.q .ro (.pick_f rfl rfl) rfl ?_
   refine Cov.prune _ ?_ (Cov.same rfl rfl rfl (hb15 () trivial))
   exact ⟨sval r51, rfl, rfl, rfl, rfl, trivial⟩
set_option maxHeartbeats 4000000 in
set_option maxRecDepth 100000 in
theorem play_New_c {Fs : List Hp} {G : Hp} {a0 : Option Addr} {k0 : Nat} {x0 : List Int} {r : ((List Int) × Int)} (hG : G ∈ Fs) (s0 : SlR (Rep.int .u8) G a0 k0 x0) (h : play_New x0 = some r) : RetS Tryz.prog 6 #[.slice a0 x0.length k0] Fs [] [] (fun v bo so => ∃ a0 : Option Addr, ∃ k0 : Nat, ∃ b0 : Nat, v = .pointer (some ⟨b0, 0, none⟩) ∧ bo = [(b0, .cells #[.slice a0 r.1.length k0, .int .i64 r.2] 97 (0, 0))] ∧ so = [] ∧ SlR (Rep.int .u8) G a0 k0 r.1) := by
 unfold play_New at h
 try dsimp only at h
 refine RetS.of (vs := [_]) Tryz.func6 rfl Tryz.ntmps6 [(0, _)] ⟨rfl, trivial⟩ rfl hG fun w0 S0 hS0 B0 => ?_
 refine Cov.seq ?_;refine Cov.region rfl ?_;refine Cov.q .ro (.assign rfl) rfl ?_;refine Cov.region_end ?_;refine Cov.seq ?_;refine Cov.seq ?_;refine Cov.region rfl ?_;refine Cov.q .ro (.move rfl) rfl ?_;refine Cov.q .ro (.len_sl rfl rfl sl22) rfl ?_
 refine Cov.q .ro (.gtr rfl rfl) rfl ?_;refine Cov.region_end ?_;refine Cov.cutI (β := List Int × Option Addr × Nat) (fun y => [(0, .slice y.2.1 y.1.length y.2.2)]) [] (fun y => G :: Fs) (fun y => []) [] (fun y => []) [] (fun y => SlR (Rep.int .u8) G y.2.1 y.2.2 y.1 ∧ play_New_J1 y.1 = some r) trivial [] rfl [] rfl ?_ ?_
 ·intro y hI
  obtain ⟨v11, a12, k13⟩ := y
  obtain ⟨s14, r16⟩ := hI
  try dsimp only at s14 r16
  refine Cov.prune [(0, .slice a12 v11.length k13)] ⟨rfl, trivial⟩ ?_;refine Cov.same (bl' := []) (sl' := []) (Fs' := G :: Fs) rfl rfl rfl ?_
  unfold play_New_J1 at r16
  try dsimp only at r16
  refine Cov.seq ?_;refine Cov.region rfl ?_;refine Cov.q .ro (.move rfl) rfl ?_;refine Cov.q .ro (.build [_, _] [(0, _)] ty97 pl97 rfl rfl) rfl ?_
  refine Cov.box [_, _] .ro rfl rfl rfl (fun b17 hb17 => ?_)
  refine Cov.q .ro (.assign rfl) rfl ?_;refine Cov.region_end ?_
  cases r16
  refine Cov.retS (c := ⟨6, none⟩) (.inr ⟨_, rfl⟩) [.tmp 2] [_] rfl Tryz.func6 Tryz.results6 ⟨RV.tmp rfl, trivial⟩ (fun _ h => List.mem_cons_of_mem _ h) ⟨a12, k13, _, rfl, rfl, rfl, s14⟩
 ·intro hb18
  refine Cov.cond_dec rfl (fun c19 => ?_) (fun c19 => ?_)
  ·have r20 := ifT h c19; clear h
   refine Cov.region rfl ?_;refine Cov.q .ro (.move rfl) rfl ?_
   obtain ⟨u21, hu21, r22⟩ := bind_some r20; clear r20
   obtain ⟨a23, k24, h25, s26⟩ := SlR.sub s0 hu21
   refine Cov.q .ro (.sliceR s0 rfl hu21 sl22 ty5.sz (fun _ => .no) (fun h => .yes' rfl h) h25) rfl ?_;refine Cov.q .ro (.assign rfl) rfl ?_;refine Cov.region_end ?_
   refine Cov.prune _ ?_ (Cov.same rfl rfl rfl (hb18 (u21, a23, k24) ⟨s26, r22⟩))
   exact ⟨rfl, trivial⟩
  ·have r27 := ifF h c19; clear h
   refine Cov.skip ?_
   refine Cov.prune _ ?_ (Cov.same rfl rfl rfl (hb18 (x0, a0, k0) ⟨s0, r27⟩))
   exact ⟨rfl, trivial⟩
set_option maxHeartbeats 4000000 in
set_option maxRecDepth 100000 in
theorem play_Mod_c {Fs : List Hp} {G : Hp} {x0 : Int} {x1 : Int} {r : Int} (hG : G ∈ Fs)  (h : play_Mod x0 x1 = some r) : RetS Tryz.prog 15 #[.int .i64 x0, .int .i64 x1] Fs [] [] (fun v bo so => v = .int .i64 r ∧ bo = [] ∧ so = []) := by
 unfold play_Mod at h
 try dsimp only at h
 refine RetS.of (vs := [_, _]) Tryz.func15 rfl Tryz.ntmps15 [(0, _), (1, _)] ⟨rfl, rfl, trivial⟩ rfl hG fun w0 S0 hS0 B0 => ?_
 refine Cov.seq ?_;refine Cov.region rfl ?_;refine Cov.q .ro (.assign rfl) rfl ?_;refine Cov.region_end ?_;refine Cov.seq ?_;refine Cov.region rfl ?_;refine Cov.q .ro (.move rfl) rfl ?_;refine Cov.q .ro (.move rfl) rfl ?_
 obtain ⟨u1, hu1, r2⟩ := bind_some h; clear h
 refine Cov.q .ro (.remt rfl rfl (nz_some hu1)) rfl ?_;refine Cov.q .ro (.assign rfl) rfl ?_;refine Cov.region_end ?_;refine Cov.seq ?_;refine Cov.seq ?_;refine Cov.region rfl ?_;refine Cov.q .ro (.move rfl) rfl ?_;refine Cov.q .ro (.lss rfl rfl) rfl ?_;refine Cov.region_end ?_
 refine Cov.cond_dec rfl (fun c3 => ?_) (fun c3 => ?_)
 ·have r4 := ifT r2 c3; clear r2
  refine Cov.region rfl ?_;refine Cov.q .ro (.move rfl) rfl ?_;refine Cov.q .ro (.move rfl) rfl ?_;refine Cov.q .ro (.addw rfl rfl) rfl ?_;refine Cov.q .ro (.assign rfl) rfl ?_;refine Cov.region_end ?_;refine Cov.seq ?_;refine Cov.region rfl ?_;refine Cov.q .ro (.move rfl) rfl ?_
  refine Cov.q .ro (.assign rfl) rfl ?_;refine Cov.region_end ?_
  cases r4
  refine Cov.retS (c := ⟨15, none⟩) (.inr ⟨_, rfl⟩) [.tmp 4] [_] rfl Tryz.func15 Tryz.results15 ⟨RV.tmp rfl, trivial⟩ (fun _ h => List.mem_cons_of_mem _ h) ⟨rfl, rfl, rfl⟩
 ·have r5 := ifF r2 c3; clear r2
  refine Cov.skip ?_;refine Cov.seq ?_;refine Cov.region rfl ?_;refine Cov.q .ro (.move rfl) rfl ?_;refine Cov.q .ro (.assign rfl) rfl ?_;refine Cov.region_end ?_
  cases r5
  refine Cov.retS (c := ⟨15, none⟩) (.inr ⟨_, rfl⟩) [.tmp 4] [_] rfl Tryz.func15 Tryz.results15 ⟨RV.tmp rfl, trivial⟩ (fun _ h => List.mem_cons_of_mem _ h) ⟨rfl, rfl, rfl⟩
set_option maxHeartbeats 4000000 in
set_option maxRecDepth 100000 in
theorem play_Dice_Pick_c {Fs : List Hp} {G : Hp} {p0 : Nat} {a0_0 : Option Addr} {k0_0 : Nat} {x0_0 : List Int} {x0_1 : Int} {x1 : Int} {r : (Int × ((List Int) × Int))} (hG : G ∈ Fs) (s0_0 : SlR (Rep.int .u8) G a0_0 k0_0 x0_0) (h : play_Dice_Pick (x0_0, x0_1) x1 = some r) : RetS Tryz.prog 25 #[.pointer (some ⟨p0, 0, none⟩), .int .i64 x1] Fs [(p0, .cells #[.slice a0_0 x0_0.length k0_0, .int .i64 x0_1] 97 (0, 0))] [] (fun v bo so => ∃ a0 : Option Addr, ∃ k0 : Nat, v = .int .i64 r.1 ∧ bo = [(p0, .cells #[.slice a0 r.2.1.length k0, .int .i64 r.2.2] 97 (0, 0))] ∧ so = [] ∧ SlR (Rep.int .u8) G a0 k0 r.2.1) := by
 unfold play_Dice_Pick at h
 try dsimp only at h
 refine RetS.of (vs := [_, _]) Tryz.func25 rfl Tryz.ntmps25 [(0, _), (1, _)] ⟨rfl, rfl, trivial⟩ rfl hG fun w0 S0 hS0 B0 => ?_
 refine Cov.seq ?_;refine Cov.region rfl ?_;refine Cov.q .ro (.assign rfl) rfl ?_;refine Cov.region_end ?_;refine Cov.seq ?_;refine Cov.seq ?_;refine Cov.drawL (.q 0 (.q 1 (.q 2 (.q 3 (.q 4 (.q 5 (.q 6 (.q 7 (.q 8 (.q 9 .nil)))))))))) [_] (by kernel_rfl) (by kernel_rfl) (pick_mem [0] rfl) ?_;refine Cov.dq (.move rfl) rfl ?_;refine Cov.dq (.nilCheck rfl rfl) rfl ?_
 refine Cov.dq (.fieldAddr 1 rfl fl97_1 ty3.sz rfl) rfl ?_;refine Cov.dq (.load_own 0 rfl rfl ty3 rfl) rfl ?_;refine Cov.dq (.move rfl) rfl ?_;refine Cov.dq (.nilCheck rfl rfl) rfl ?_;refine Cov.dq (.fieldAddr 0 rfl fl97_0 ty22.sz rfl) rfl ?_;refine Cov.dq (.load_own 0 rfl rfl ty22 rfl) rfl ?_;refine Cov.dq (.len_sl rfl rfl sl22) rfl ?_;refine Cov.dq (.geq rfl rfl) rfl ?_;refine Cov.draw_end ?_
 refine Cov.cond_dec rfl (fun c1 => ?_) (fun c1 => ?_)
 ·have r2 := ifT h c1; clear h
  refine Cov.seq ?_;refine Cov.region rfl ?_;refine Cov.q .ro (.assign rfl) rfl ?_;refine Cov.region_end ?_
  cases r2
  refine Cov.retS (c := ⟨25, none⟩) (.inr ⟨_, rfl⟩) [.tmp 4] [_] rfl Tryz.func25 Tryz.results25 ⟨RV.tmp rfl, trivial⟩ (fun _ h => List.mem_cons_of_mem _ h) ⟨a0_0, k0_0, rfl, rfl, rfl, s0_0⟩
 ·have r3 := ifF h c1; clear h
  refine Cov.skip ?_;refine Cov.seq ?_;refine Cov.region rfl ?_;refine Cov.q .ro (.move rfl) rfl ?_;refine Cov.q .ro (.nilCheck rfl rfl) rfl ?_;refine Cov.q .ro (.fieldAddr 1 rfl fl97_1 ty3.sz rfl) rfl ?_;refine Cov.q .ro (.load_own 0 rfl rfl ty3 rfl) rfl ?_;refine Cov.q .ro (.addw rfl rfl) rfl ?_;refine Cov.q .ro (.nilCheck rfl rfl) rfl ?_
  refine Cov.q .ro (.fieldAddr 1 rfl fl97_1 ty3.sz rfl) rfl ?_;refine Cov.store 0 [_, _] [_] .ro rfl rfl rfl ty3 rfl rfl rfl rfl ?_;refine Cov.region_end ?_;refine Cov.prune [(0, _), (1, _)] ⟨rfl, rfl, trivial⟩ ?_;refine Cov.seq ?_;refine Cov.drawL (.q 0 (.q 1 (.q 2 (.q 3 (.q 4 (.q 5 (.q 6 (.q 7 (.q 8 (.q 9 (.q 10 (.q 11 (.q 12 (.q 13 (.q 14 .nil))))))))))))))) [_] (by kernel_rfl) (by kernel_rfl) (pick_mem [0] rfl) ?_;refine Cov.dq (.move rfl) rfl ?_;refine Cov.dq (.nilCheck rfl rfl) rfl ?_;refine Cov.dq (.fieldAddr 0 rfl fl97_0 ty22.sz rfl) rfl ?_
  refine Cov.dq (.load_own 0 rfl rfl ty22 rfl) rfl ?_;refine Cov.dq (.move rfl) rfl ?_;refine Cov.dq (.nilCheck rfl rfl) rfl ?_;refine Cov.dq (.fieldAddr 1 rfl fl97_1 ty3.sz rfl) rfl ?_;refine Cov.dq (.load_own 0 rfl rfl ty3 rfl) rfl ?_;refine Cov.dq (.subw rfl rfl) rfl ?_
  obtain ⟨u4, hu4, r5⟩ := bind_some r3; clear r3
  obtain ⟨c6, p7, h8⟩ := SlR.get s0_0 hu4
  obtain rfl := h8
  refine Cov.dq (.idxR s0_0 rfl rfl hu4 sl22 ty5.sz) rfl ?_;refine Cov.dq (.load_rp p7 List.mem_cons_self rfl ty5 rfl) rfl ?_;refine Cov.dq (.convw Tryz.underlying5 Tryz.underlying3 rfl) rfl ?_;refine Cov.dq (.move rfl) rfl ?_
  obtain ⟨u9, hu9, r10⟩ := bind_some r5; clear r5
  refine Cov.dq (.remt rfl rfl (nz_some hu9)) rfl ?_;refine Cov.dq (.assign rfl) rfl ?_;refine Cov.draw_end ?_;refine Cov.prune [(4, _)] ⟨rfl, trivial⟩ ?_
  cases r10
  refine Cov.retS (c := ⟨25, none⟩) (.inr ⟨_, rfl⟩) [.tmp 4] [_] rfl Tryz.func25 Tryz.results25 ⟨RV.tmp rfl, trivial⟩ (fun _ h => List.mem_cons_of_mem _ h) ⟨a0_0, k0_0, rfl, rfl, rfl, s0_0⟩
set_option maxHeartbeats 4000000 in
set_option maxRecDepth 100000 in
theorem play_Dice_Scheme_c {Fs : List Hp} {G : Hp} {p0 : Nat} {a0_0 : Option Addr} {k0_0 : Nat} {x0_0 : List Int} {x0_1 : Int} {r : ((Int × Int × Int × Int) × ((List Int) × Int))} (hG : G ∈ Fs) (s0_0 : SlR (Rep.int .u8) G a0_0 k0_0 x0_0) (h : play_Dice_Scheme (x0_0, x0_1) = some r) : RetS Tryz.prog 16 #[.pointer (some ⟨p0, 0, none⟩)] Fs [(p0, .cells #[.slice a0_0 x0_0.length k0_0, .int .i64 x0_1] 97 (0, 0))] [] (fun v bo so => ∃ a0 : Option Addr, ∃ k0 : Nat, v = .agg #[.int .i64 r.1.1, .int .i64 r.1.2.1, .int .i64 r.1.2.2.1, .int .i64 r.1.2.2.2] ∧ bo = [(p0, .cells #[.slice a0 r.2.1.length k0, .int .i64 r.2.2] 97 (0, 0))] ∧ so = [] ∧ SlR (Rep.int .u8) G a0 k0 r.2.1) := by
 unfold play_Dice_Scheme at h
 try dsimp only at h
 refine RetS.of (vs := [_]) Tryz.func16 rfl Tryz.ntmps16 [(0, _)] ⟨rfl, trivial⟩ rfl hG fun w0 S0 hS0 B0 => ?_
 refine Cov.seq ?_;refine Cov.region rfl ?_
 refine Cov.alloc .ro ty27 rfl (fun b1 hb1 => ?_)
 refine Cov.region_end ?_;refine Cov.seq ?_;refine Cov.region rfl ?_;refine Cov.q .ro (.move rfl) rfl ?_
 obtain ⟨u2, hu2, r3⟩ := bind_some h; clear h
 refine Cov.pull 1 rfl [_, _] rfl ?_
 refine Cov.callS (b1 := [_]) (b2 := [_]) (s1 := []) [_, _] [] .ro rfl rfl Tryz.call25 rfl rfl (play_Dice_Pick_c (G := G) List.mem_cons_self s0_0 hu2) rfl (fun v5 bo so h4 => ?_)
 obtain ⟨a6, k7, rfl, rfl, rfl, s8⟩ := h4
 refine Cov.same (bl' := [_, _]) (sl' := []) rfl rfl rfl ?_;refine Cov.q .ro (.addw rfl rfl) rfl ?_;refine Cov.q .ro (.assign rfl) rfl ?_;refine Cov.region_end ?_;refine Cov.seq ?_;refine Cov.seq ?_;refine Cov.region rfl ?_;refine Cov.q .ro (.move rfl) rfl ?_
 obtain ⟨u9, hu9, r10⟩ := bind_some r3; clear r3
 refine Cov.callS (b1 := [_]) (b2 := [_]) (s1 := []) [_, _] [] .ro rfl rfl Tryz.call25 rfl rfl (play_Dice_Pick_c (G := G) List.mem_cons_self s8 hu9) rfl (fun v12 bo so h11 => ?_)
 obtain ⟨a13, k14, rfl, rfl, rfl, s15⟩ := h11
 refine Cov.same (bl' := [_, _]) (sl' := []) rfl rfl rfl ?_;refine Cov.region_end ?_;refine Cov.block ?_;refine Cov.seq ?_;refine Cov.region rfl ?_;refine Cov.q .ro (.eql rfl rfl) rfl ?_;refine Cov.q .ro (.assign rfl) rfl ?_;refine Cov.region_end ?_
 refine Cov.cond_dec rfl (fun c16 => ?_) (fun c16 => ?_)
 ·have r17 := ifT r10 c16; clear r10
  refine Cov.seq ?_;refine Cov.region rfl ?_;refine Cov.q .ro (.move rfl) rfl ?_;refine Cov.q .ro (.build [_, _, _, _] [(0, _), (1, _)] ty27 pl27 rfl rfl) rfl ?_;refine Cov.store 1 [_, _, _, _] [_, _] .ro rfl rfl rfl ty27 rfl rfl rfl rfl ?_;refine Cov.region_end ?_
  cases r17
  refine Cov.pull 1 rfl [_, _] rfl ?_
  refine Cov.retSD 1 (c := ⟨16, none⟩) (.inr ⟨_, rfl⟩) [.cell 2 27] [_] rfl Tryz.func16 Tryz.results16 ⟨RV.cell_a 0 [_, _, _, _] rfl rfl ty27 rfl, trivial⟩ (fun _ h => List.mem_cons_of_mem _ h) ⟨a13, k14, rfl, rfl, rfl, s15⟩
 ·have r18 := ifF r10 c16; clear r10
  refine Cov.seq ?_;refine Cov.region rfl ?_;refine Cov.q .ro (.eql rfl rfl) rfl ?_;refine Cov.q .ro (.assign rfl) rfl ?_;refine Cov.region_end ?_
  refine Cov.cond_dec rfl (fun c19 => ?_) (fun c19 => ?_)
  ·have r20 := ifT r18 c19; clear r18
   refine Cov.seq ?_;refine Cov.region rfl ?_;refine Cov.q .ro (.move rfl) rfl ?_;refine Cov.q .ro (.move rfl) rfl ?_
   obtain ⟨u21, hu21, r22⟩ := bind_some r20; clear r20
   refine Cov.callS (b1 := [_]) (b2 := [_]) (s1 := []) [_, _] [] .ro rfl rfl Tryz.call25 rfl rfl (play_Dice_Pick_c (G := G) List.mem_cons_self s15 hu21) rfl (fun v24 bo so h23 => ?_)
   obtain ⟨a25, k26, rfl, rfl, rfl, s27⟩ := h23
   refine Cov.same (bl' := [_, _]) (sl' := []) rfl rfl rfl ?_;refine Cov.q .ro (.addw rfl rfl) rfl ?_;refine Cov.q .ro (.build [_, _, _, _] [(0, _), (1, _), (2, _)] ty27 pl27 rfl rfl) rfl ?_;refine Cov.store 1 [_, _, _, _] [_, _] .ro rfl rfl rfl ty27 rfl rfl rfl rfl ?_;refine Cov.region_end ?_;refine Cov.prune [(2, _)] ⟨rfl, trivial⟩ ?_
   cases r22
   refine Cov.pull 1 rfl [_, _] rfl ?_
   refine Cov.retSD 1 (c := ⟨16, none⟩) (.inr ⟨_, rfl⟩) [.cell 2 27] [_] rfl Tryz.func16 Tryz.results16 ⟨RV.cell_a 0 [_, _, _, _] rfl rfl ty27 rfl, trivial⟩ (fun _ h => List.mem_cons_of_mem _ h) ⟨a25, k26, rfl, rfl, rfl, s27⟩
  ·have r28 := ifF r18 c19; clear r18
   refine Cov.skip ?_;refine Cov.inBlock ?_;refine Cov.seq ?_;refine Cov.seq ?_;refine Cov.region rfl ?_;refine Cov.q .ro (.move rfl) rfl ?_;refine Cov.q .ro (.lss rfl rfl) rfl ?_;refine Cov.q .ro (.move rfl) rfl ?_
   obtain ⟨u39, h43, r44⟩ := bind_some r28; clear r28
   refine Cov.cutR 4 (β := Option Addr × Nat) (fun y => [(26, .bool u39.1)]) [(0, _), (2, _), (3, _)] (fun y => G :: Fs) (fun y => [(p0, .cells #[.slice y.1 u39.2.1.length y.2, .int .i64 u39.2.2] 97 (0, 0))]) [_] (fun y => []) [] (fun y => SlR (Rep.int .u8) G y.1 y.2 u39.2.1) ⟨rfl, rfl, rfl, trivial⟩ [1] rfl [] rfl ?_ ?_
   ·intro y hI
    obtain ⟨a40, k41⟩ := y
    have s42 := hI; clear hI
    try dsimp only at s42
    refine Cov.prune [(26, .bool u39.1), (0, _), (2, _), (3, _)] ⟨rfl, rfl, rfl, rfl, trivial⟩ ?_;refine Cov.same (bl' := [(p0, .cells #[.slice a40 u39.2.1.length k41, .int .i64 u39.2.2] 97 (0, 0)), _]) (sl' := []) (Fs' := G :: Fs) rfl rfl rfl ?_;refine Cov.region_end ?_
    refine Cov.cond rfl (fun c47 => ?_) (fun c47 => ?_)
    ·have r48 := ifT r44 c47; clear r44
     refine Cov.seq ?_;refine Cov.region rfl ?_;refine Cov.q .ro (.move rfl) rfl ?_;refine Cov.q .ro (.move rfl) rfl ?_
     obtain ⟨u49, hu49, r50⟩ := bind_some r48; clear r48
     refine Cov.callS (b1 := [_]) (b2 := [_]) (s1 := []) [_, _] [] .ro rfl rfl Tryz.call25 rfl rfl (play_Dice_Pick_c (G := G) List.mem_cons_self s42 hu49) rfl (fun v52 bo so h51 => ?_)
     obtain ⟨a53, k54, rfl, rfl, rfl, s55⟩ := h51
     refine Cov.same (bl' := [_, _]) (sl' := []) rfl rfl rfl ?_;refine Cov.q .ro (.addw rfl rfl) rfl ?_;refine Cov.q .ro (.build [_, _, _, _] [(0, _), (1, _), (2, _), (3, _)] ty27 pl27 rfl rfl) rfl ?_;refine Cov.store 1 [_, _, _, _] [_, _] .ro rfl rfl rfl ty27 rfl rfl rfl rfl ?_;refine Cov.region_end ?_
     cases r50
     refine Cov.pull 1 rfl [_, _] rfl ?_
     refine Cov.retSD 1 (c := ⟨16, none⟩) (.inr ⟨_, rfl⟩) [.cell 2 27] [_] rfl Tryz.func16 Tryz.results16 ⟨RV.cell_a 0 [_, _, _, _] rfl rfl ty27 rfl, trivial⟩ (fun _ h => List.mem_cons_of_mem _ h) ⟨a53, k54, rfl, rfl, rfl, s55⟩
    ·have r56 := ifBF r44 c47; clear r44
     refine Cov.skip ?_;refine Cov.seq ?_;refine Cov.region rfl ?_;refine Cov.q .ro (.move rfl) rfl ?_;refine Cov.q .ro (.build [_, _, _, _] [(0, _), (1, _), (2, _), (3, _)] ty27 pl27 rfl rfl) rfl ?_;refine Cov.store 1 [_, _, _, _] [_, _] .ro rfl rfl rfl ty27 rfl rfl rfl rfl ?_;refine Cov.region_end ?_
     cases r56
     refine Cov.pull 1 rfl [_, _] rfl ?_
     refine Cov.retSD 1 (c := ⟨16, none⟩) (.inr ⟨_, rfl⟩) [.cell 2 27] [_] rfl Tryz.func16 Tryz.results16 ⟨RV.cell_a 0 [_, _, _, _] rfl rfl ty27 rfl, trivial⟩ (fun _ h => List.mem_cons_of_mem _ h) ⟨a40, k41, rfl, rfl, rfl, s42⟩
   ·intro hb45
    refine Cov.split 22 rfl (fun c46 => ?_) (fun c46 => ?_)
    ·have r57 := ifT h43 c46
     refine Cov.g_off rfl rfl rfl ?_;refine Cov.g_off rfl rfl rfl ?_;refine Cov.g_off rfl rfl rfl ?_;refine Cov.q .ro (.pick_t rfl rfl) rfl ?_
     obtain rfl := Option.some.inj r57
     refine Cov.prune _ ?_ (Cov.same rfl rfl rfl (hb45 (a13, k14) s15))
     exact ⟨rfl, rfl, rfl, rfl, trivial⟩
    ·have r58 := ifF h43 c46
     refine Cov.g_on rfl ?_;refine Cov.q .ro (.move rfl) rfl ?_;refine Cov.g_on rfl ?_
     obtain ⟨u59, hu59, r60⟩ := bind_some r58; clear r58
     refine Cov.callS (b1 := [_]) (b2 := [_]) (s1 := []) [_, _] [] .ro rfl rfl Tryz.call25 rfl rfl (play_Dice_Pick_c (G := G) List.mem_cons_self s15 hu59) rfl (fun v62 bo so h61 => ?_)
     obtain ⟨a63, k64, rfl, rfl, rfl, s65⟩ := h61
     refine Cov.same (bl' := [_, _]) (sl' := []) rfl rfl rfl ?_;refine Cov.g_on rfl ?_;refine Cov.q .ro (.eql rfl rfl) rfl ?_;refine Cov.q .ro (.pick_f rfl rfl) rfl ?_
     obtain rfl := Option.some.inj r60
     refine Cov.prune _ ?_ (Cov.same rfl rfl rfl (hb45 (a63, k64) s65))
     exact ⟨rfl, rfl, rfl, rfl, trivial⟩
set_option maxHeartbeats 4000000 in
set_option maxRecDepth 100000 in
theorem ref43_Notes_c {Fs : List Hp} {G : Hp} {x0_0 : Int} {x0_1 : Int} {x0_2 : Int} {x0_3 : Int} {x1 : Int} {r : Int} (hG : G ∈ Fs)  (h : ref43_Notes (x0_0, x0_1, x0_2, x0_3) x1 = some r) : RetS Tryz.prog 17 #[.agg #[.int .i64 x0_0, .int .i64 x0_1, .int .i64 x0_2, .int .i64 x0_3], .int .i64 x1] Fs [] [] (fun v bo so => v = .int .i64 r ∧ bo = [] ∧ so = []) := by
 unfold ref43_Notes at h
 try dsimp only at h
 refine RetS.of (vs := [_, _]) Tryz.func17 rfl Tryz.ntmps17 [(0, _), (1, _)] ⟨rfl, rfl, trivial⟩ rfl hG fun w0 S0 hS0 B0 => ?_
 refine Cov.seq ?_;refine Cov.region rfl ?_
 refine Cov.box [_, _, _, _] .ro rfl rfl rfl (fun b1 hb1 => ?_)
 refine Cov.q .ro (.assign rfl) rfl ?_;refine Cov.region_end ?_;refine Cov.seq ?_;refine Cov.region rfl ?_;refine Cov.q .ro (.move rfl) rfl ?_;refine Cov.q .ro (.mulw rfl rfl) rfl ?_;refine Cov.q .ro (.fieldAddr 1 rfl fl27_1 ty3.sz rfl) rfl ?_;refine Cov.q .ro (.load_own 0 rfl rfl ty3 rfl) rfl ?_;refine Cov.q .ro (.mulw rfl rfl) rfl ?_
 refine Cov.q .ro (.assign rfl) rfl ?_;refine Cov.region_end ?_
 cases h
 refine Cov.drop 1 0 [] _ rfl rfl ?_
 refine Cov.retS (c := ⟨17, none⟩) (.inr ⟨_, rfl⟩) [.tmp 4] [_] rfl Tryz.func17 Tryz.results17 ⟨RV.tmp rfl, trivial⟩ (fun _ h => List.mem_cons_of_mem _ h) ⟨rfl, rfl, rfl⟩
set_option maxHeartbeats 4000000 in
set_option maxRecDepth 100000 in
theorem ref43_Words_c {Fs : List Hp} {G : Hp} {x0_0 : Int} {x0_1 : Int} {x0_2 : Int} {x0_3 : Int} {x1 : Int} {x2 : Int} {r : Int} (hG : G ∈ Fs)  (h : ref43_Words (x0_0, x0_1, x0_2, x0_3) x1 x2 = some r) : RetS Tryz.prog 19 #[.agg #[.int .i64 x0_0, .int .i64 x0_1, .int .i64 x0_2, .int .i64 x0_3], .int .i64 x1, .int .i64 x2] Fs [] [] (fun v bo so => v = .int .i64 r ∧ bo = [] ∧ so = []) := by
 unfold ref43_Words at h
 try dsimp only at h
 refine RetS.of (vs := [_, _, _]) Tryz.func19 rfl Tryz.ntmps19 [(0, _), (1, _), (2, _)] ⟨rfl, rfl, rfl, trivial⟩ rfl hG fun w0 S0 hS0 B0 => ?_
 refine Cov.seq ?_;refine Cov.region rfl ?_
 refine Cov.box [_, _, _, _] .ro rfl rfl rfl (fun b1 hb1 => ?_)
 refine Cov.q .ro (.assign rfl) rfl ?_;refine Cov.region_end ?_;refine Cov.seq ?_;refine Cov.region rfl ?_;refine Cov.q .ro (.move rfl) rfl ?_;refine Cov.q .ro (.fieldAddr 1 rfl fl27_1 ty3.sz rfl) rfl ?_;refine Cov.q .ro (.load_own 0 rfl rfl ty3 rfl) rfl ?_;refine Cov.q .ro (.mulw rfl rfl) rfl ?_;refine Cov.q .ro (.move rfl) rfl ?_
 refine Cov.q .ro (.mulw rfl rfl) rfl ?_;refine Cov.q .ro (.assign rfl) rfl ?_;refine Cov.region_end ?_
 cases h
 refine Cov.drop 1 0 [] _ rfl rfl ?_
 refine Cov.retS (c := ⟨19, none⟩) (.inr ⟨_, rfl⟩) [.tmp 6] [_] rfl Tryz.func19 Tryz.results19 ⟨RV.tmp rfl, trivial⟩ (fun _ h => List.mem_cons_of_mem _ h) ⟨rfl, rfl, rfl⟩
set_option maxHeartbeats 4000000 in
set_option maxRecDepth 100000 in
theorem ref43_Steps_c {Fs : List Hp} {G : Hp} {x0_0 : Int} {x0_1 : Int} {x0_2 : Int} {x0_3 : Int} {x1 : Int} {x2 : Int} {r : Int} (hG : G ∈ Fs)  (h : ref43_Steps (x0_0, x0_1, x0_2, x0_3) x1 x2 = some r) : RetS Tryz.prog 20 #[.agg #[.int .i64 x0_0, .int .i64 x0_1, .int .i64 x0_2, .int .i64 x0_3], .int .i64 x1, .int .i64 x2] Fs [] [] (fun v bo so => v = .int .i64 r ∧ bo = [] ∧ so = []) := by
 unfold ref43_Steps at h
 try dsimp only at h
 refine RetS.of (vs := [_, _, _]) Tryz.func20 rfl Tryz.ntmps20 [(0, _), (1, _), (2, _)] ⟨rfl, rfl, rfl, trivial⟩ rfl hG fun w0 S0 hS0 B0 => ?_
 refine Cov.seq ?_;refine Cov.region rfl ?_
 refine Cov.box [_, _, _, _] .ro rfl rfl rfl (fun b1 hb1 => ?_)
 refine Cov.q .ro (.assign rfl) rfl ?_;refine Cov.region_end ?_;refine Cov.seq ?_;refine Cov.drawL (.q 0 (.q 1 (.q 3 (.q 4 (.q 5 (.e 2 1 (.e 6 1 (.q 7 (.q 8 .nil))))))))) [_] (by kernel_rfl) (by kernel_rfl) (pick_mem [0] rfl) ?_;refine Cov.dq (.load_own_a 0 [_, _, _, _] rfl rfl ty27 rfl) rfl ?_;refine Cov.dq (.move rfl) rfl ?_;refine Cov.dq (.load_own_a 0 [_, _, _, _] rfl rfl ty27 rfl) rfl ?_;refine Cov.dq (.move rfl) rfl ?_;refine Cov.dq (.move rfl) rfl ?_
 obtain ⟨u2, hu2, r3⟩ := bind_some h; clear h
 refine Cov.callS (b1 := []) (b2 := [_]) (s1 := []) [_, _] [] .d1 rfl rfl Tryz.call17 rfl rfl (ref43_Notes_c (G := G) List.mem_cons_self  hu2) rfl (fun v5 bo so h4 => ?_)
 obtain ⟨rfl, rfl, rfl⟩ := h4
 refine Cov.same (bl' := [_]) (sl' := []) rfl rfl rfl ?_;refine Cov.clsL (HpLe.refl _) (pick_mem [0] rfl) ?_
 obtain ⟨u6, hu6, r7⟩ := bind_some r3; clear r3
 refine Cov.callS (b1 := []) (b2 := [_]) (s1 := []) [_, _, _] [] .d1 rfl rfl Tryz.call19 rfl rfl (ref43_Words_c (G := G) List.mem_cons_self  hu6) rfl (fun v9 bo so h8 => ?_)
 obtain ⟨rfl, rfl, rfl⟩ := h8
 refine Cov.same (bl' := [_]) (sl' := []) rfl rfl rfl ?_;refine Cov.clsL (HpLe.refl _) (pick_mem [0] rfl) ?_;refine Cov.dq (.addw rfl rfl) rfl ?_;refine Cov.dq (.assign rfl) rfl ?_;refine Cov.draw_end ?_
 cases r7
 refine Cov.drop 1 0 [] _ rfl rfl ?_
 refine Cov.retS (c := ⟨20, none⟩) (.inr ⟨_, rfl⟩) [.tmp 6] [_] rfl Tryz.func20 Tryz.results20 ⟨RV.tmp rfl, trivial⟩ (fun _ h => List.mem_cons_of_mem _ h) ⟨rfl, rfl, rfl⟩
end Go.Proofs.YtnfalgmfmiolbaaGreat
end
