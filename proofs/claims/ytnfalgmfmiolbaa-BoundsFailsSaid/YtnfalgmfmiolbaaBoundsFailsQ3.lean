/- What the proof needs, gathered by wip/gen/shake.py. -/
import Derived.Calls
import Derived.Deep.Quiet
import Derived.Below
import Derived.Laws.AppendOwn
import Derived.WalkKit
import Derived.Laws.OwnMore
import Derived.Deep.Slices
import Derived.ChangeOld
import Derived.ArgAppend
import Derived.RangeFuncIn
import Derived.RangeFuncRecord
import Derived.RangeFuncLeaves
import Derived.Laws.MakeOwn
import Derived.IntWalk
import Derived.Laws.IdiomStrings
import Derived.Laws.Cover3
import Derived.Laws.CopyOwn
import Derived.MapKept
import Derived.RangeFuncNested
import Derived.Test.YtnfalgmfmiolbaaRows
import Derived.ProofKit
import Derived.OpenShut
import Derived.ShutString
import Derived.Test.YtnfalgmfmiolbaaBoundsFailsQ2

section
namespace Go.Proofs.Ytnfalgmfmiolbaa
open Go.RowKit
set_option linter.unusedSimpArgs false
set_option linter.unusedVariables false
set_option synthInstance.maxSize 2000
set_option synthInstance.maxHeartbeats 400000
theorem ty3 : TyI Try.prog 3 false 1 8 [.int .i64 0] := ⟨by kernel_rfl, by kernel_rfl, by kernel_rfl, by kernel_rfl⟩
theorem ty4 : TyI Try.prog 4 false 1 1 [.bool false] := ⟨by kernel_rfl, by kernel_rfl, by kernel_rfl, by kernel_rfl⟩
theorem ty5 : TyI Try.prog 5 false 1 1 [.int .u8 0] := ⟨by kernel_rfl, by kernel_rfl, by kernel_rfl, by kernel_rfl⟩
theorem ty22 : TyI Try.prog 22 false 1 24 [.slice none 0 0] := ⟨by kernel_rfl, by kernel_rfl, by kernel_rfl, by kernel_rfl⟩
theorem ty26 : TyI Try.prog 26 false 1 24 [.slice none 0 0] := ⟨by kernel_rfl, by kernel_rfl, by kernel_rfl, by kernel_rfl⟩
theorem ty28 : TyI Try.prog 28 true 2 32 [.int .i64 0, .slice none 0 0] := ⟨by kernel_rfl, by kernel_rfl, by kernel_rfl, by kernel_rfl⟩
theorem ty34 : TyI Try.prog 34 false 1 24 [.slice none 0 0] := ⟨by kernel_rfl, by kernel_rfl, by kernel_rfl, by kernel_rfl⟩
theorem ty35 : TyI Try.prog 35 false 1 24 [.slice none 0 0] := ⟨by kernel_rfl, by kernel_rfl, by kernel_rfl, by kernel_rfl⟩
theorem ty37 : TyI Try.prog 37 true 3 72 [.slice none 0 0, .slice none 0 0, .slice none 0 0] := ⟨by kernel_rfl, by kernel_rfl, by kernel_rfl, by kernel_rfl⟩
theorem ty41 : TyI Try.prog 41 true 1 24 [.slice none 0 0] := ⟨by kernel_rfl, by kernel_rfl, by kernel_rfl, by kernel_rfl⟩
theorem ty46 : TyI Try.prog 46 true 4 32 [.int .i64 0, .int .i64 0, .int .i64 0, .int .i64 0] := ⟨by kernel_rfl, by kernel_rfl, by kernel_rfl, by kernel_rfl⟩
theorem ty62 : TyI Try.prog 62 true 1 8 [.int .i64 0] := ⟨by kernel_rfl, by kernel_rfl, by kernel_rfl, by kernel_rfl⟩
theorem ty66 : TyI Try.prog 66 true 2 32 [.slice none 0 0, .int .i64 0] := ⟨by kernel_rfl, by kernel_rfl, by kernel_rfl, by kernel_rfl⟩
theorem ty68 : TyI Try.prog 68 true 2 16 [.int .i64 0, .int .i64 0] := ⟨by kernel_rfl, by kernel_rfl, by kernel_rfl, by kernel_rfl⟩
theorem ty80 : TyI Try.prog 80 false 1 8 [.nilFunc] := ⟨by kernel_rfl, by kernel_rfl, by kernel_rfl, by kernel_rfl⟩
theorem ty95 : TyI Try.prog 95 false 1 24 [.slice none 0 0] := ⟨by kernel_rfl, by kernel_rfl, by kernel_rfl, by kernel_rfl⟩
theorem ty97 : TyI Try.prog 97 true 3 72 [.slice none 0 0, .slice none 0 0, .slice none 0 0] := ⟨by kernel_rfl, by kernel_rfl, by kernel_rfl, by kernel_rfl⟩
theorem ty111 : TyI Try.prog 111 true 3 24 [.int .i64 0, .int .i64 0, .int .i64 0] := ⟨by kernel_rfl, by kernel_rfl, by kernel_rfl, by kernel_rfl⟩
theorem ty112 : TyI Try.prog 112 true 3 24 [.int .i64 0, .int .i64 0, .int .i64 0] := ⟨by kernel_rfl, by kernel_rfl, by kernel_rfl, by kernel_rfl⟩
theorem ty118 : TyI Try.prog 118 true 1 8 [.int .i64 0] := ⟨by kernel_rfl, by kernel_rfl, by kernel_rfl, by kernel_rfl⟩
theorem ty120 : TyI Try.prog 120 true 2 16 [.int .i64 0, .int .i64 0] := ⟨by kernel_rfl, by kernel_rfl, by kernel_rfl, by kernel_rfl⟩
theorem ty150 : TyI Try.prog 150 true 2 16 [.int .i64 0, .int .i64 0] := ⟨by kernel_rfl, by kernel_rfl, by kernel_rfl, by kernel_rfl⟩
theorem fl28_0 : fldOf Try.prog 28 0 = some (0, 3) := by kernel_rfl
theorem fl28_1 : fldOf Try.prog 28 1 = some (1, 26) := by kernel_rfl
theorem fl37_1 : fldOf Try.prog 37 1 = some (1, 35) := by kernel_rfl
theorem fl37_2 : fldOf Try.prog 37 2 = some (2, 35) := by kernel_rfl
theorem fl41_0 : fldOf Try.prog 41 0 = some (0, 35) := by kernel_rfl
theorem fl46_0 : fldOf Try.prog 46 0 = some (0, 3) := by kernel_rfl
theorem fl46_1 : fldOf Try.prog 46 1 = some (1, 3) := by kernel_rfl
theorem fl46_2 : fldOf Try.prog 46 2 = some (2, 3) := by kernel_rfl
theorem fl46_3 : fldOf Try.prog 46 3 = some (3, 3) := by kernel_rfl
theorem fl62_0 : fldOf Try.prog 62 0 = some (0, 3) := by kernel_rfl
theorem fl66_0 : fldOf Try.prog 66 0 = some (0, 22) := by kernel_rfl
theorem fl66_1 : fldOf Try.prog 66 1 = some (1, 3) := by kernel_rfl
theorem fl68_0 : fldOf Try.prog 68 0 = some (0, 3) := by kernel_rfl
theorem fl68_1 : fldOf Try.prog 68 1 = some (1, 3) := by kernel_rfl
theorem fl97_0 : fldOf Try.prog 97 0 = some (0, 34) := by kernel_rfl
theorem fl97_1 : fldOf Try.prog 97 1 = some (1, 35) := by kernel_rfl
theorem fl97_2 : fldOf Try.prog 97 2 = some (2, 95) := by kernel_rfl
theorem fl111_2 : fldOf Try.prog 111 2 = some (2, 3) := by kernel_rfl
theorem fl112_0 : fldOf Try.prog 112 0 = some (0, 3) := by kernel_rfl
theorem fl112_1 : fldOf Try.prog 112 1 = some (1, 3) := by kernel_rfl
theorem fl112_2 : fldOf Try.prog 112 2 = some (2, 3) := by kernel_rfl
theorem fl118_0 : fldOf Try.prog 118 0 = some (0, 3) := by kernel_rfl
theorem fl150_0 : fldOf Try.prog 150 0 = some (0, 3) := by kernel_rfl
theorem fl150_1 : fldOf Try.prog 150 1 = some (1, 3) := by kernel_rfl
theorem pl28 : plOf Try.prog 28 = some [(0, 1), (1, 1)] := by kernel_rfl
theorem pl37 : plOf Try.prog 37 = some [(0, 1), (1, 1), (2, 1)] := by kernel_rfl
theorem pl41 : plOf Try.prog 41 = some [(0, 1)] := by kernel_rfl
theorem pl46 : plOf Try.prog 46 = some [(0, 1), (1, 1), (2, 1), (3, 1)] := by kernel_rfl
theorem pl62 : plOf Try.prog 62 = some [(0, 1)] := by kernel_rfl
theorem pl66 : plOf Try.prog 66 = some [(0, 1), (1, 1)] := by kernel_rfl
theorem pl68 : plOf Try.prog 68 = some [(0, 1), (1, 1)] := by kernel_rfl
theorem pl97 : plOf Try.prog 97 = some [(0, 1), (1, 1), (2, 1)] := by kernel_rfl
theorem pl112 : plOf Try.prog 112 = some [(0, 1), (1, 1), (2, 1)] := by kernel_rfl
theorem pl118 : plOf Try.prog 118 = some [(0, 1)] := by kernel_rfl
theorem pl120 : plOf Try.prog 120 = some [(0, 1), (1, 1)] := by kernel_rfl
theorem sl22 : slOf Try.prog 22 = some 5 := by kernel_rfl
theorem sl26 : slOf Try.prog 26 = some 68 := by kernel_rfl
theorem sl34 : slOf Try.prog 34 = some 35 := by kernel_rfl
theorem sl35 : slOf Try.prog 35 = some 3 := by kernel_rfl
theorem sl95 : slOf Try.prog 95 = some 4 := by kernel_rfl
set_option maxHeartbeats 4000000 in
set_option maxRecDepth 100000 in
theorem scheme_within_c {Fs : List Hp} {G : Hp} {x0 : Int} {x1 : Int} {x2 : Int} {r : Bool} (hG : G ∈ Fs)  (h : scheme_within x0 x1 x2 = some r) : RetS Try.prog 64 #[.int .i64 x0, .int .i64 x1, .int .i64 x2] Fs [] [] (fun v bo so => v = .bool r ∧ bo = [] ∧ so = []) := by
  unfold scheme_within at h
  try dsimp only at h
  refine RetS.of (vs := [_, _, _]) Try.func64 rfl Try.ntmps64 [(0, _), (1, _), (2, _)] ⟨rfl, rfl, rfl, trivial⟩ rfl hG fun w0 S0 hS0 B0 => ?_
  refine Cov.seq ?_
  refine Cov.region rfl ?_
  refine Cov.q .ro (.assign rfl) rfl ?_
  refine Cov.region_end ?_
  refine Cov.seq ?_
  refine Cov.region rfl ?_
  refine Cov.q .ro (.move rfl) rfl ?_
  refine Cov.q .ro (.move rfl) rfl ?_
  refine Cov.q .ro (.geq rfl rfl) rfl ?_
  refine Cov.q .ro (.move rfl) rfl ?_
  refine Cov.cutR 4 (β := Unit) (fun y => [(14, .bool (decide ((x1 ≤ x0) ∧ (x0 ≤ x2))))]) [(6, _)] (fun y => G :: Fs) (fun y => []) [] (fun y => []) [] (fun y => True) ⟨rfl, trivial⟩ [] rfl [] rfl ?_ ?_
  · rintro _ _
    refine Cov.prune [(14, .bool (decide ((x1 ≤ x0) ∧ (x0 ≤ x2)))), (6, _)] ⟨rfl, rfl, trivial⟩ ?_
    refine Cov.same (bl' := []) (sl' := []) (Fs' := G :: Fs) rfl rfl rfl ?_
    refine Cov.q .ro (.assign rfl) rfl ?_
    refine Cov.region_end ?_
    cases h
    refine Cov.retS (c := ⟨64, none⟩) (.inr ⟨_, rfl⟩) [.tmp 6] [_] rfl Try.func64 Try.results64 ⟨RV.tmp rfl, trivial⟩ (fun _ h => List.mem_cons_of_mem _ h) ⟨rfl, rfl, rfl⟩
  · intro hb2
    refine Cov.split 10 rfl (fun c1 => ?_) (fun c1 => ?_)
    · refine Cov.g_on rfl ?_
      refine Cov.q .ro (.move rfl) rfl ?_
      refine Cov.g_on rfl ?_
      refine Cov.q .ro (.move rfl) rfl ?_
      refine Cov.g_on rfl ?_
      refine Cov.q .ro (.leq rfl rfl) rfl ?_
      refine Cov.q .ro (.pick_t rfl rfl) rfl ?_
      refine Cov.prune _ ?_ (Cov.same rfl rfl rfl (hb2 () trivial))
      exact ⟨dand_t c1, rfl, trivial⟩
    · refine Cov.g_off rfl rfl rfl ?_
      refine Cov.g_off rfl rfl rfl ?_
      refine Cov.g_off rfl rfl rfl ?_
      refine Cov.q .ro (.pick_f rfl rfl) rfl ?_
      refine Cov.prune _ ?_ (Cov.same rfl rfl rfl (hb2 () trivial))
      exact ⟨dand_f c1, rfl, trivial⟩
set_option maxHeartbeats 4000000 in
set_option maxRecDepth 100000 in
theorem scheme_Shape_c {Fs : List Hp} {G : Hp} {x0_0 : Int} {x0_1 : Int} {x0_2 : Int} {x0_3 : Int} {r : Bool} (hG : G ∈ Fs)  (h : scheme_Shape (x0_0, x0_1, x0_2, x0_3) = some r) : RetS Try.prog 57 #[.agg #[.int .i64 x0_0, .int .i64 x0_1, .int .i64 x0_2, .int .i64 x0_3]] Fs [] [] (fun v bo so => v = .bool r ∧ bo = [] ∧ so = []) := by
  unfold scheme_Shape at h
  try dsimp only at h
  refine RetS.of (vs := [_]) Try.func57 rfl Try.ntmps57 [(0, _)] ⟨rfl, trivial⟩ rfl hG fun w0 S0 hS0 B0 => ?_
  refine Cov.seq ?_
  refine Cov.region rfl ?_
  refine Cov.box [_, _, _, _] .ro rfl rfl rfl (fun b1 hb1 => ?_)
  refine Cov.q .ro (.assign rfl) rfl ?_
  refine Cov.region_end ?_
  refine Cov.seq ?_
  refine Cov.seq ?_
  refine Cov.region rfl ?_
  refine Cov.q .ro (.fieldAddr 1 rfl fl46_1 ty3.sz rfl) rfl ?_
  refine Cov.q .ro (.load_own 0 rfl rfl ty3 rfl) rfl ?_
  obtain ⟨u2, hu2, r3⟩ := bind_some h; clear h
  refine Cov.callS (b1 := []) (b2 := [_]) (s1 := []) [_, _, _] [] .ro rfl rfl Try.call64 rfl rfl (scheme_within_c (G := G) List.mem_cons_self  hu2) rfl (fun v5 bo so h4 => ?_)
  obtain ⟨rfl, rfl, rfl⟩ := h4
  refine Cov.same (bl' := [_]) (sl' := []) rfl rfl rfl ?_
  refine Cov.q .ro (.not rfl) rfl ?_
  refine Cov.region_end ?_
  refine Cov.cond rfl (fun c6 => ?_) (fun c6 => ?_)
  · have r7 := ifT r3 c6; clear r3
    refine Cov.seq ?_
    refine Cov.region rfl ?_
    refine Cov.q .ro (.assign rfl) rfl ?_
    refine Cov.region_end ?_
    cases r7
    refine Cov.drop 1 0 [] _ rfl rfl ?_
    refine Cov.retS (c := ⟨57, none⟩) (.inr ⟨_, rfl⟩) [.tmp 2] [_] rfl Try.func57 Try.results57 ⟨RV.tmp rfl, trivial⟩ (fun _ h => List.mem_cons_of_mem _ h) ⟨rfl, rfl, rfl⟩
  · have r8 := ifBF r3 c6; clear r3
    refine Cov.skip ?_
    refine Cov.seq ?_
    refine Cov.seq ?_
    refine Cov.region rfl ?_
    refine Cov.q .ro (.fieldAddr 0 rfl fl46_0 ty3.sz rfl) rfl ?_
    refine Cov.q .ro (.load_own 0 rfl rfl ty3 rfl) rfl ?_
    refine Cov.region_end ?_
    refine Cov.block ?_
    refine Cov.seq ?_
    refine Cov.region rfl ?_
    refine Cov.q .ro (.eql rfl rfl) rfl ?_
    refine Cov.q .ro (.assign rfl) rfl ?_
    refine Cov.region_end ?_
    refine Cov.cond_dec rfl (fun c9 => ?_) (fun c9 => ?_)
    · have r10 := ifT r8 c9; clear r8
      refine Cov.seq ?_
      refine Cov.region rfl ?_
      refine Cov.q .ro (.fieldAddr 2 rfl fl46_2 ty3.sz rfl) rfl ?_
      refine Cov.q .ro (.load_own 0 rfl rfl ty3 rfl) rfl ?_
      refine Cov.q .ro (.eql rfl rfl) rfl ?_
      refine Cov.q .ro (.move rfl) rfl ?_
      refine Cov.cutR 4 (β := Unit) (fun y => [(18, .bool (decide ((x0_2 = 0) ∧ (x0_3 = 0))))]) [(2, _)] (fun y => G :: Fs) (fun y => []) [_] (fun y => []) [] (fun y => True) ⟨rfl, trivial⟩ [0] rfl [] rfl ?_ ?_
      · rintro _ _
        refine Cov.prune [(18, .bool (decide ((x0_2 = 0) ∧ (x0_3 = 0)))), (2, _)] ⟨rfl, rfl, trivial⟩ ?_
        refine Cov.same (bl' := [_]) (sl' := []) (Fs' := G :: Fs) rfl rfl rfl ?_
        refine Cov.q .ro (.assign rfl) rfl ?_
        refine Cov.region_end ?_
        cases r10
        refine Cov.drop 1 0 [] _ rfl rfl ?_
        refine Cov.retS (c := ⟨57, none⟩) (.inr ⟨_, rfl⟩) [.tmp 2] [_] rfl Try.func57 Try.results57 ⟨RV.tmp rfl, trivial⟩ (fun _ h => List.mem_cons_of_mem _ h) ⟨rfl, rfl, rfl⟩
      · intro hb12
        refine Cov.split 14 rfl (fun c11 => ?_) (fun c11 => ?_)
        · refine Cov.g_on rfl ?_
          refine Cov.q .ro (.fieldAddr 3 rfl fl46_3 ty3.sz rfl) rfl ?_
          refine Cov.g_on rfl ?_
          refine Cov.q .ro (.load_own 0 rfl rfl ty3 rfl) rfl ?_
          refine Cov.g_on rfl ?_
          refine Cov.q .ro (.eql rfl rfl) rfl ?_
          refine Cov.q .ro (.pick_t rfl rfl) rfl ?_
          refine Cov.prune _ ?_ (Cov.same rfl rfl rfl (hb12 () trivial))
          exact ⟨dand_t c11, rfl, trivial⟩
        · refine Cov.g_off rfl rfl rfl ?_
          refine Cov.g_off rfl rfl rfl ?_
          refine Cov.g_off rfl rfl rfl ?_
          refine Cov.q .ro (.pick_f rfl rfl) rfl ?_
          refine Cov.prune _ ?_ (Cov.same rfl rfl rfl (hb12 () trivial))
          exact ⟨dand_f c11, rfl, trivial⟩
    · have r15 := ifF r8 c9; clear r8
      refine Cov.seq ?_
      refine Cov.region rfl ?_
      refine Cov.q .ro (.eql rfl rfl) rfl ?_
      refine Cov.q .ro (.assign rfl) rfl ?_
      refine Cov.region_end ?_
      refine Cov.cond_dec rfl (fun c16 => ?_) (fun c16 => ?_)
      · have r17 := ifT r15 c16; clear r15
        refine Cov.seq ?_
        refine Cov.region rfl ?_
        refine Cov.q .ro (.fieldAddr 2 rfl fl46_2 ty3.sz rfl) rfl ?_
        refine Cov.q .ro (.load_own 0 rfl rfl ty3 rfl) rfl ?_
        refine Cov.q .ro (.fieldAddr 1 rfl fl46_1 ty3.sz rfl) rfl ?_
        refine Cov.q .ro (.load_own 0 rfl rfl ty3 rfl) rfl ?_
        refine Cov.q .ro (.subw rfl rfl) rfl ?_
        obtain ⟨u18, hu18, r19⟩ := bind_some r17; clear r17
        refine Cov.callS (b1 := []) (b2 := [_]) (s1 := []) [_, _, _] [] .ro rfl rfl Try.call64 rfl rfl (scheme_within_c (G := G) List.mem_cons_self  hu18) rfl (fun v21 bo so h20 => ?_)
        obtain ⟨rfl, rfl, rfl⟩ := h20
        refine Cov.same (bl' := [_]) (sl' := []) rfl rfl rfl ?_
        refine Cov.q .ro (.move rfl) rfl ?_
        refine Cov.cutR 4 (β := Unit) (fun y => [(31, .bool (decide ((u18 = true) ∧ (x0_3 = 0))))]) [(2, _)] (fun y => G :: Fs) (fun y => []) [_] (fun y => []) [] (fun y => True) ⟨rfl, trivial⟩ [0] rfl [] rfl ?_ ?_
        · rintro _ _
          refine Cov.prune [(31, .bool (decide ((u18 = true) ∧ (x0_3 = 0)))), (2, _)] ⟨rfl, rfl, trivial⟩ ?_
          refine Cov.same (bl' := [_]) (sl' := []) (Fs' := G :: Fs) rfl rfl rfl ?_
          refine Cov.q .ro (.assign rfl) rfl ?_
          refine Cov.region_end ?_
          cases r19
          refine Cov.drop 1 0 [] _ rfl rfl ?_
          refine Cov.retS (c := ⟨57, none⟩) (.inr ⟨_, rfl⟩) [.tmp 2] [_] rfl Try.func57 Try.results57 ⟨RV.tmp rfl, trivial⟩ (fun _ h => List.mem_cons_of_mem _ h) ⟨rfl, rfl, rfl⟩
        · intro hb23
          refine Cov.split_b 27 rfl (fun c22 => ?_) (fun c22 => ?_)
          · refine Cov.g_on rfl ?_
            refine Cov.q .ro (.fieldAddr 3 rfl fl46_3 ty3.sz rfl) rfl ?_
            refine Cov.g_on rfl ?_
            refine Cov.q .ro (.load_own 0 rfl rfl ty3 rfl) rfl ?_
            refine Cov.g_on rfl ?_
            refine Cov.q .ro (.eql rfl rfl) rfl ?_
            refine Cov.q .ro (.pick_t rfl rfl) rfl ?_
            refine Cov.prune _ ?_ (Cov.same rfl rfl rfl (hb23 () trivial))
            exact ⟨dand_t c22, rfl, trivial⟩
          · refine Cov.g_off rfl rfl rfl ?_
            refine Cov.g_off rfl rfl rfl ?_
            refine Cov.g_off rfl rfl rfl ?_
            refine Cov.q .ro (.pick_f rfl rfl) rfl ?_
            refine Cov.prune _ ?_ (Cov.same rfl rfl rfl (hb23 () trivial))
            exact ⟨dand_f (bne_of c22), rfl, trivial⟩
      · have r26 := ifF r15 c16; clear r15
        refine Cov.seq ?_
        refine Cov.region rfl ?_
        refine Cov.q .ro (.eql rfl rfl) rfl ?_
        refine Cov.q .ro (.assign rfl) rfl ?_
        refine Cov.region_end ?_
        refine Cov.prune [(1, _), (32, _)] ⟨rfl, rfl, trivial⟩ ?_
        refine Cov.cond_dec rfl (fun c27 => ?_) (fun c27 => ?_)
        · have r28 := ifT r26 c27; clear r26
          refine Cov.seq ?_
          refine Cov.region rfl ?_
          refine Cov.q .ro (.fieldAddr 2 rfl fl46_2 ty3.sz rfl) rfl ?_
          refine Cov.q .ro (.load_own 0 rfl rfl ty3 rfl) rfl ?_
          refine Cov.q .ro (.fieldAddr 1 rfl fl46_1 ty3.sz rfl) rfl ?_
          refine Cov.q .ro (.load_own 0 rfl rfl ty3 rfl) rfl ?_
          obtain ⟨u29, hu29, r30⟩ := bind_some r28; clear r28
          refine Cov.callS (b1 := []) (b2 := [_]) (s1 := []) [_, _, _] [] .ro rfl rfl Try.call64 rfl rfl (scheme_within_c (G := G) List.mem_cons_self  hu29) rfl (fun v32 bo so h31 => ?_)
          obtain ⟨rfl, rfl, rfl⟩ := h31
          refine Cov.same (bl' := [_]) (sl' := []) rfl rfl rfl ?_
          refine Cov.q .ro (.move rfl) rfl ?_
          obtain ⟨u39, h40, r41⟩ := bind_some r30; clear r30
          refine Cov.cutR 6 (β := Unit) (fun y => [(45, .bool u39)]) [(1, _)] (fun y => G :: Fs) (fun y => []) [_] (fun y => []) [] (fun y => True) ⟨rfl, trivial⟩ [0] rfl [] rfl ?_ ?_
          · rintro _ _
            refine Cov.prune [(45, .bool u39), (1, _)] ⟨rfl, rfl, trivial⟩ ?_
            refine Cov.same (bl' := [_]) (sl' := []) (Fs' := G :: Fs) rfl rfl rfl ?_
            refine Cov.q .ro (.move rfl) rfl ?_
            refine Cov.cutR 11 (β := Unit) (fun y => [(57, .bool (decide ((u39 = true) ∧ ((w64 ((w64 ((w64 (2 * x0_3)) + x0_2)) - 1)) ≤ x0_1))))]) [] (fun y => G :: Fs) (fun y => []) [_] (fun y => []) [] (fun y => True) trivial [0] rfl [] rfl ?_ ?_
            · rintro _ _
              refine Cov.prune [(57, .bool (decide ((u39 = true) ∧ ((w64 ((w64 ((w64 (2 * x0_3)) + x0_2)) - 1)) ≤ x0_1))))] ⟨rfl, trivial⟩ ?_
              refine Cov.same (bl' := [_]) (sl' := []) (Fs' := G :: Fs) rfl rfl rfl ?_
              refine Cov.q .ro (.assign rfl) rfl ?_
              refine Cov.region_end ?_
              cases r41
              refine Cov.drop 1 0 [] _ rfl rfl ?_
              refine Cov.retS (c := ⟨57, none⟩) (.inr ⟨_, rfl⟩) [.tmp 2] [_] rfl Try.func57 Try.results57 ⟨RV.tmp rfl, trivial⟩ (fun _ h => List.mem_cons_of_mem _ h) ⟨rfl, rfl, rfl⟩
            · intro hb45
              refine Cov.split_b 46 rfl (fun c44 => ?_) (fun c44 => ?_)
              · refine Cov.g_on rfl ?_
                refine Cov.q .ro (.fieldAddr 3 rfl fl46_3 ty3.sz rfl) rfl ?_
                refine Cov.g_on rfl ?_
                refine Cov.q .ro (.load_own 0 rfl rfl ty3 rfl) rfl ?_
                refine Cov.g_on rfl ?_
                refine Cov.q .ro (.mulw rfl rfl) rfl ?_
                refine Cov.g_on rfl ?_
                refine Cov.q .ro (.fieldAddr 2 rfl fl46_2 ty3.sz rfl) rfl ?_
                refine Cov.g_on rfl ?_
                refine Cov.q .ro (.load_own 0 rfl rfl ty3 rfl) rfl ?_
                refine Cov.g_on rfl ?_
                refine Cov.q .ro (.addw rfl rfl) rfl ?_
                refine Cov.g_on rfl ?_
                refine Cov.q .ro (.subw rfl rfl) rfl ?_
                refine Cov.g_on rfl ?_
                refine Cov.q .ro (.fieldAddr 1 rfl fl46_1 ty3.sz rfl) rfl ?_
                refine Cov.g_on rfl ?_
                refine Cov.q .ro (.load_own 0 rfl rfl ty3 rfl) rfl ?_
                refine Cov.g_on rfl ?_
                refine Cov.q .ro (.leq rfl rfl) rfl ?_
                refine Cov.q .ro (.pick_t rfl rfl) rfl ?_
                refine Cov.prune _ ?_ (Cov.same rfl rfl rfl (hb45 () trivial))
                exact ⟨dand_t c44, trivial⟩
              · refine Cov.g_off rfl rfl rfl ?_
                refine Cov.g_off rfl rfl rfl ?_
                refine Cov.g_off rfl rfl rfl ?_
                refine Cov.g_off rfl rfl rfl ?_
                refine Cov.g_off rfl rfl rfl ?_
                refine Cov.g_off rfl rfl rfl ?_
                refine Cov.g_off rfl rfl rfl ?_
                refine Cov.g_off rfl rfl rfl ?_
                refine Cov.g_off rfl rfl rfl ?_
                refine Cov.g_off rfl rfl rfl ?_
                refine Cov.q .ro (.pick_f rfl rfl) rfl ?_
                refine Cov.prune _ ?_ (Cov.same rfl rfl rfl (hb45 () trivial))
                exact ⟨dand_f (bne_of c44), trivial⟩
          · intro hb38
            refine Cov.split_b 39 rfl (fun c37 => ?_) (fun c37 => ?_)
            · have r48 := ifT h40 c37
              refine Cov.g_on rfl ?_
              refine Cov.q .ro (.fieldAddr 3 rfl fl46_3 ty3.sz rfl) rfl ?_
              refine Cov.g_on rfl ?_
              refine Cov.q .ro (.load_own 0 rfl rfl ty3 rfl) rfl ?_
              refine Cov.g_on rfl ?_
              refine Cov.q .ro (.fieldAddr 1 rfl fl46_1 ty3.sz rfl) rfl ?_
              refine Cov.g_on rfl ?_
              refine Cov.q .ro (.load_own 0 rfl rfl ty3 rfl) rfl ?_
              refine Cov.g_on rfl ?_
              obtain ⟨u49, hu49, r50⟩ := bind_some r48; clear r48
              refine Cov.callS (b1 := []) (b2 := [_]) (s1 := []) [_, _, _] [] .ro rfl rfl Try.call64 rfl rfl (scheme_within_c (G := G) List.mem_cons_self  hu49) rfl (fun v52 bo so h51 => ?_)
              obtain ⟨rfl, rfl, rfl⟩ := h51
              refine Cov.same (bl' := [_]) (sl' := []) rfl rfl rfl ?_
              refine Cov.q .ro (.pick_t rfl rfl) rfl ?_
              refine Cov.prune _ ?_ (Cov.same rfl rfl rfl (hb38 () trivial))
              exact ⟨sval r50, rfl, trivial⟩
            · have r53 := ifBF h40 c37
              refine Cov.g_off rfl rfl rfl ?_
              refine Cov.g_off rfl rfl rfl ?_
              refine Cov.g_off rfl rfl rfl ?_
              refine Cov.g_off rfl rfl rfl ?_
              refine Cov.g_off rfl rfl rfl ?_
              refine Cov.q .ro (.pick_f rfl rfl) rfl ?_
              refine Cov.prune _ ?_ (Cov.same rfl rfl rfl (hb38 () trivial))
              exact ⟨sval r53, rfl, trivial⟩
        · have r54 := ifF r26 c27; clear r26
          refine Cov.skip ?_
          refine Cov.inBlock ?_
          refine Cov.seq ?_
          refine Cov.region rfl ?_
          refine Cov.q .ro (.assign rfl) rfl ?_
          refine Cov.region_end ?_
          cases r54
          refine Cov.drop 1 0 [] _ rfl rfl ?_
          refine Cov.retS (c := ⟨57, none⟩) (.inr ⟨_, rfl⟩) [.tmp 2] [_] rfl Try.func57 Try.results57 ⟨RV.tmp rfl, trivial⟩ (fun _ h => List.mem_cons_of_mem _ h) ⟨rfl, rfl, rfl⟩
set_option maxHeartbeats 4000000 in
set_option maxRecDepth 100000 in
theorem residue_Of_c {Fs : List Hp} {G : Hp} {x0_0 : Int} {r : (Int × Bool)} (hG : G ∈ Fs)  (h : residue_Of x0_0 = some r) : RetS Try.prog 67 #[.agg #[.int .i64 x0_0]] Fs [] [] (fun v bo so => v = .tuple #[.int .i64 r.1, .bool r.2] ∧ bo = [] ∧ so = []) := by
  unfold residue_Of at h
  try dsimp only at h
  refine RetS.of (vs := [_]) Try.func67 rfl Try.ntmps67 [(0, _)] ⟨rfl, trivial⟩ rfl hG fun w0 S0 hS0 B0 => ?_
  refine Cov.seq ?_
  refine Cov.region rfl ?_
  refine Cov.box [_] .ro rfl rfl rfl (fun b1 hb1 => ?_)
  refine Cov.q .ro (.assign rfl) rfl ?_
  refine Cov.q .ro (.assign rfl) rfl ?_
  refine Cov.region_end ?_
  refine Cov.seq ?_
  refine Cov.seq ?_
  refine Cov.region rfl ?_
  refine Cov.q .ro (.fieldAddr 0 rfl fl62_0 ty3.sz rfl) rfl ?_
  refine Cov.q .ro (.load_own 0 rfl rfl ty3 rfl) rfl ?_
  refine Cov.q .ro (.lss rfl rfl) rfl ?_
  refine Cov.q .ro (.move rfl) rfl ?_
  refine Cov.cutR 4 (β := Unit) (fun y => [(12, .bool (decide ((x0_0 < 2) ∨ (65521 < x0_0))))]) [(1, _)] (fun y => G :: Fs) (fun y => []) [_] (fun y => []) [] (fun y => True) ⟨rfl, trivial⟩ [0] rfl [] rfl ?_ ?_
  · rintro _ _
    refine Cov.prune [(12, .bool (decide ((x0_0 < 2) ∨ (65521 < x0_0)))), (1, _)] ⟨rfl, rfl, trivial⟩ ?_
    refine Cov.same (bl' := [_]) (sl' := []) (Fs' := G :: Fs) rfl rfl rfl ?_
    refine Cov.region_end ?_
    refine Cov.cond_dec rfl (fun c6 => ?_) (fun c6 => ?_)
    · have r7 := ifT h c6; clear h
      refine Cov.seq ?_
      refine Cov.region rfl ?_
      refine Cov.q .ro (.assign rfl) rfl ?_
      refine Cov.q .ro (.assign rfl) rfl ?_
      refine Cov.region_end ?_
      cases r7
      refine Cov.drop 1 0 [] _ rfl rfl ?_
      refine Cov.retS (c := ⟨67, none⟩) (.inr ⟨_, rfl⟩) [.tmp 2, .tmp 3] [_, _] rfl Try.func67 Try.results67 ⟨RV.tmp rfl, RV.tmp rfl, trivial⟩ (fun _ h => List.mem_cons_of_mem _ h) ⟨rfl, rfl, rfl⟩
    · have r8 := ifF h c6; clear h
      refine Cov.skip ?_
      refine Cov.seq ?_
      refine Cov.seq ?_
      refine Cov.region rfl ?_
      refine Cov.q .ro (.assign rfl) rfl ?_
      refine Cov.region_end ?_
      refine Cov.cutB (β := Int) (fun y => []) [(1, _)] (fun y => G :: Fs) (fun y => [(b1, .cells #[.int .i64 y] 62 (0, 0))]) [] (fun y => []) [] (fun y => residue_Of_J1 y = some r) ⟨rfl, trivial⟩ [] rfl [] rfl ?_ ?_
      · intro v36 hI
        have r38 := hI; clear hI
        refine Cov.prune [(1, _)] ⟨rfl, trivial⟩ ?_
        refine Cov.same (bl' := [(b1, .cells #[.int .i64 v36] 62 (0, 0))]) (sl' := []) (Fs' := G :: Fs) rfl rfl rfl ?_
        unfold residue_Of_J1 at r38
        try dsimp only at r38
        refine Cov.seq ?_
        refine Cov.region rfl ?_
        refine Cov.q .ro (.fieldAddr 0 rfl fl62_0 ty3.sz rfl) rfl ?_
        refine Cov.q .ro (.load_own 0 rfl rfl ty3 rfl) rfl ?_
        refine Cov.q .ro (.assign rfl) rfl ?_
        refine Cov.q .ro (.assign rfl) rfl ?_
        refine Cov.region_end ?_
        cases r38
        refine Cov.drop 1 0 [] _ rfl rfl ?_
        refine Cov.retS (c := ⟨67, none⟩) (.inr ⟨_, rfl⟩) [.tmp 2, .tmp 3] [_, _] rfl Try.func67 Try.results67 ⟨RV.tmp rfl, RV.tmp rfl, trivial⟩ (fun _ h => List.mem_cons_of_mem _ h) ⟨rfl, rfl, rfl⟩
      · intro hb39
        refine Cov.block ?_
        refine Cov.loop2 (α := Nat × Int) (fun y => [(4, .int .i64 y.2)]) [(1, _)] (fun y => []) (fun y => []) [_] (fun y => []) [] (fun y => residue_Of_L2 residue_Of_J1 x0_0 y.1 y.2 = some r) (fun y => y.1) (big, 2) r8 ⟨rfl, rfl, trivial⟩ rfl rfl rfl (fun y hI hb55 => ?_)
        obtain ⟨n51, v53⟩ := y
        have r54 := hI; clear hI
        try dsimp only at r54
        refine Cov.prune [(4, .int .i64 v53), (1, _)] ⟨rfl, rfl, trivial⟩ ?_
        refine Cov.same (bl' := [_]) (sl' := []) (Fs' := G :: Fs) rfl rfl rfl ?_
        obtain ⟨m58, rfl⟩ : ∃ m, n51 = m + 1 := by cases n51 with | zero => exact absurd (show (none : Option _) = some _ from r54) (by simp) | succ m => exact ⟨m, rfl⟩
        have r57 : residue_Of_B2 residue_Of_J1 x0_0 (residue_Of_L2 residue_Of_J1 x0_0 m58) v53 = some r := r54; clear r54; unfold residue_Of_B2 at r57; try dsimp only at r57
        refine Cov.seq ?_
        refine Cov.seq ?_
        refine Cov.region rfl ?_
        refine Cov.q .ro (.move rfl) rfl ?_
        refine Cov.q .ro (.move rfl) rfl ?_
        refine Cov.q .ro (.mulw rfl rfl) rfl ?_
        refine Cov.q .ro (.fieldAddr 0 rfl fl62_0 ty3.sz rfl) rfl ?_
        refine Cov.q .ro (.load_own 0 rfl rfl ty3 rfl) rfl ?_
        refine Cov.q .ro (.leq rfl rfl) rfl ?_
        refine Cov.region_end ?_
        refine Cov.cond_dec rfl (fun c59 => ?_) (fun c59 => ?_)
        · have r60 := ifT r57 c59; clear r57
          refine Cov.skip ?_
          refine Cov.seq ?_
          refine Cov.block ?_
          refine Cov.seq ?_
          refine Cov.region rfl ?_
          refine Cov.q .ro (.fieldAddr 0 rfl fl62_0 ty3.sz rfl) rfl ?_
          refine Cov.q .ro (.load_own 0 rfl rfl ty3 rfl) rfl ?_
          refine Cov.q .ro (.move rfl) rfl ?_
          obtain ⟨u61, hu61, r62⟩ := bind_some r60; clear r60
          refine Cov.q .ro (.remt rfl rfl (nz_some hu61)) rfl ?_
          refine Cov.q .ro (.eql rfl rfl) rfl ?_
          refine Cov.region_end ?_
          refine Cov.cond_dec rfl (fun c63 => ?_) (fun c63 => ?_)
          · have r64 := ifT r62 c63; clear r62
            refine Cov.seq ?_
            refine Cov.region rfl ?_
            refine Cov.q .ro (.assign rfl) rfl ?_
            refine Cov.q .ro (.assign rfl) rfl ?_
            refine Cov.region_end ?_
            refine Cov.prune [(2, _), (3, _)] ⟨rfl, rfl, trivial⟩ ?_
            cases r64
            refine Cov.drop 1 0 [] _ rfl rfl ?_
            refine Cov.retS (c := ⟨67, none⟩) (.inr ⟨_, rfl⟩) [.tmp 2, .tmp 3] [_, _] rfl Try.func67 Try.results67 ⟨RV.tmp rfl, RV.tmp rfl, trivial⟩ (fun _ h => List.mem_cons_of_mem _ h) ⟨rfl, rfl, rfl⟩
          · have r65 := ifF r62 c63; clear r62
            refine Cov.skip ?_
            refine Cov.inBlock ?_
            refine Cov.region rfl ?_
            refine Cov.q .ro (.move rfl) rfl ?_
            refine Cov.q .ro (.addw rfl rfl) rfl ?_
            refine Cov.q .ro (.assign rfl) rfl ?_
            refine Cov.region_end ?_
            refine Cov.prune [(4, _), (1, _)] ⟨rfl, rfl, trivial⟩ ?_
            refine Cov.prune _ ?_ (Cov.same rfl rfl rfl (hb55 (m58, (w64 (v53 + 1))) r65 (Nat.lt_succ_self _)))
            exact ⟨rfl, rfl, trivial⟩
        · have r66 := ifF r57 c59; clear r57
          refine Cov.exit rfl ?_
          refine Cov.prune _ ?_ (Cov.same rfl rfl rfl (hb39 (x0_0) r66))
          exact ⟨rfl, trivial⟩
  · intro hb3
    refine Cov.split 8 rfl (fun c2 => ?_) (fun c2 => ?_)
    · refine Cov.g_off rfl rfl rfl ?_
      refine Cov.g_off rfl rfl rfl ?_
      refine Cov.g_off rfl rfl rfl ?_
      refine Cov.q .ro (.pick_t rfl rfl) rfl ?_
      refine Cov.prune _ ?_ (Cov.same rfl rfl rfl (hb3 () trivial))
      exact ⟨dor_t c2, rfl, trivial⟩
    · refine Cov.g_on rfl ?_
      refine Cov.q .ro (.fieldAddr 0 rfl fl62_0 ty3.sz rfl) rfl ?_
      refine Cov.g_on rfl ?_
      refine Cov.q .ro (.load_own 0 rfl rfl ty3 rfl) rfl ?_
      refine Cov.g_on rfl ?_
      refine Cov.q .ro (.gtr rfl rfl) rfl ?_
      refine Cov.q .ro (.pick_f rfl rfl) rfl ?_
      refine Cov.prune _ ?_ (Cov.same rfl rfl rfl (hb3 () trivial))
      exact ⟨dor_f c2, rfl, trivial⟩
set_option maxHeartbeats 4000000 in
set_option maxRecDepth 100000 in
theorem field_Check_c {Fs : List Hp} {G : Hp} {x0_0 : Int} {r : Int} (hG : G ∈ Fs)  (h : field_Check x0_0 = some r) : RetS Try.prog 60 #[.agg #[.int .i64 x0_0]] Fs [] [] (fun v bo so => v = .int .i64 r ∧ bo = [] ∧ so = []) := by
  unfold field_Check at h
  try dsimp only at h
  refine RetS.of (vs := [_]) Try.func60 rfl Try.ntmps60 [(0, _)] ⟨rfl, trivial⟩ rfl hG fun w0 S0 hS0 B0 => ?_
  refine Cov.seq ?_
  refine Cov.region rfl ?_
  refine Cov.box [_] .ro rfl rfl rfl (fun b1 hb1 => ?_)
  refine Cov.q .ro (.assign rfl) rfl ?_
  refine Cov.region_end ?_
  refine Cov.seq ?_
  refine Cov.seq ?_
  refine Cov.region rfl ?_
  refine Cov.q .ro (.load_own_a 0 [_] rfl rfl ty62 rfl) rfl ?_
  obtain ⟨u2, hu2, r3⟩ := bind_some h; clear h
  refine Cov.callS (b1 := []) (b2 := [_]) (s1 := []) [_] [] .ro rfl rfl Try.call67 rfl rfl (residue_Of_c (G := G) List.mem_cons_self  hu2) rfl (fun v5 bo so h4 => ?_)
  obtain ⟨rfl, rfl, rfl⟩ := h4
  refine Cov.same (bl' := [_]) (sl' := []) rfl rfl rfl ?_
  refine Cov.q .ro (.move rfl) rfl ?_
  refine Cov.q .ro (.extract rfl rfl) rfl ?_
  refine Cov.q .ro (.extract rfl rfl) rfl ?_
  refine Cov.q .ro (.assign rfl) rfl ?_
  refine Cov.q .ro (.assign rfl) rfl ?_
  refine Cov.region_end ?_
  refine Cov.seq ?_
  refine Cov.region rfl ?_
  refine Cov.q .ro (.move rfl) rfl ?_
  refine Cov.q .ro (.not rfl) rfl ?_
  refine Cov.region_end ?_
  refine Cov.cond rfl (fun c6 => ?_) (fun c6 => ?_)
  · have r7 := ifT r3 c6; clear r3
    refine Cov.seq ?_
    refine Cov.region rfl ?_
    refine Cov.q .ro (.assign rfl) rfl ?_
    refine Cov.region_end ?_
    cases r7
    refine Cov.drop 1 0 [] _ rfl rfl ?_
    refine Cov.retS (c := ⟨60, none⟩) (.inr ⟨_, rfl⟩) [.tmp 2] [_] rfl Try.func60 Try.results60 ⟨RV.tmp rfl, trivial⟩ (fun _ h => List.mem_cons_of_mem _ h) ⟨rfl, rfl, rfl⟩
  · have r8 := ifBF r3 c6; clear r3
    refine Cov.skip ?_
    refine Cov.seq ?_
    refine Cov.region rfl ?_
    refine Cov.q .ro (.assign rfl) rfl ?_
    refine Cov.region_end ?_
    cases r8
    refine Cov.drop 1 0 [] _ rfl rfl ?_
    refine Cov.retS (c := ⟨60, none⟩) (.inr ⟨_, rfl⟩) [.tmp 2] [_] rfl Try.func60 Try.results60 ⟨RV.tmp rfl, trivial⟩ (fun _ h => List.mem_cons_of_mem _ h) ⟨rfl, rfl, rfl⟩
set_option maxHeartbeats 4000000 in
set_option maxRecDepth 100000 in
theorem scheme_Valid_c {Fs : List Hp} {G : Hp} {x0_0 : Int} {x0_1 : Int} {x0_2 : Int} {x0_3 : Int} {x1_0 : Int} {r : Bool} (hG : G ∈ Fs)  (h : scheme_Valid (x0_0, x0_1, x0_2, x0_3) x1_0 = some r) : RetS Try.prog 51 #[.agg #[.int .i64 x0_0, .int .i64 x0_1, .int .i64 x0_2, .int .i64 x0_3], .agg #[.int .i64 x1_0]] Fs [] [] (fun v bo so => v = .bool r ∧ bo = [] ∧ so = []) := by
  unfold scheme_Valid at h
  try dsimp only at h
  refine RetS.of (vs := [_, _]) Try.func51 rfl Try.ntmps51 [(0, _), (1, _)] ⟨rfl, rfl, trivial⟩ rfl hG fun w0 S0 hS0 B0 => ?_
  refine Cov.seq ?_
  refine Cov.region rfl ?_
  refine Cov.box [_, _, _, _] .ro rfl rfl rfl (fun b1 hb1 => ?_)
  refine Cov.box [_] .ro rfl rfl rfl (fun b2 hb2 => ?_)
  refine Cov.q .ro (.assign rfl) rfl ?_
  refine Cov.region_end ?_
  refine Cov.seq ?_
  refine Cov.region rfl ?_
  refine Cov.q .ro (.load_own_a 1 [_, _, _, _] rfl rfl ty46 rfl) rfl ?_
  obtain ⟨u3, hu3, r4⟩ := bind_some h; clear h
  refine Cov.callS (b1 := []) (b2 := [_, _]) (s1 := []) [_] [] .ro rfl rfl Try.call57 rfl rfl (scheme_Shape_c (G := G) List.mem_cons_self  hu3) rfl (fun v6 bo so h5 => ?_)
  obtain ⟨rfl, rfl, rfl⟩ := h5
  refine Cov.same (bl' := [_, _]) (sl' := []) rfl rfl rfl ?_
  refine Cov.q .ro (.move rfl) rfl ?_
  obtain ⟨u13, h14, r15⟩ := bind_some r4; clear r4
  refine Cov.cutR 4 (β := Unit) (fun y => [(11, .bool u13)]) [(2, _), (3, _), (4, _)] (fun y => G :: Fs) (fun y => []) [_, _] (fun y => []) [] (fun y => True) ⟨rfl, rfl, rfl, trivial⟩ [0, 1] rfl [] rfl ?_ ?_
  · rintro _ _
    refine Cov.prune [(11, .bool u13), (2, _), (3, _), (4, _)] ⟨rfl, rfl, rfl, rfl, trivial⟩ ?_
    refine Cov.same (bl' := [_, _]) (sl' := []) (Fs' := G :: Fs) rfl rfl rfl ?_
    refine Cov.q .ro (.move rfl) rfl ?_
    refine Cov.cutR 11 (β := Unit) (fun y => [(23, .bool (decide ((u13 = true) ∧ ((x0_0 = 1) ∨ (x0_1 < x1_0)))))]) [(4, _)] (fun y => G :: Fs) (fun y => []) [_, _] (fun y => []) [] (fun y => True) ⟨rfl, trivial⟩ [0, 1] rfl [] rfl ?_ ?_
    · rintro _ _
      refine Cov.prune [(23, .bool (decide ((u13 = true) ∧ ((x0_0 = 1) ∨ (x0_1 < x1_0))))), (4, _)] ⟨rfl, rfl, trivial⟩ ?_
      refine Cov.same (bl' := [_, _]) (sl' := []) (Fs' := G :: Fs) rfl rfl rfl ?_
      refine Cov.q .ro (.assign rfl) rfl ?_
      refine Cov.region_end ?_
      cases r15
      refine Cov.drop 2 0 [] _ rfl rfl ?_
      refine Cov.retS (c := ⟨51, none⟩) (.inr ⟨_, rfl⟩) [.tmp 4] [_] rfl Try.func51 Try.results51 ⟨RV.tmp rfl, trivial⟩ (fun _ h => List.mem_cons_of_mem _ h) ⟨rfl, rfl, rfl⟩
    · intro hb23
      refine Cov.split_b 12 rfl (fun c22 => ?_) (fun c22 => ?_)
      · refine Cov.g_on rfl ?_
        refine Cov.q .ro (.fieldAddr 0 rfl fl46_0 ty3.sz rfl) rfl ?_
        refine Cov.g_on rfl ?_
        refine Cov.q .ro (.load_own 1 rfl rfl ty3 rfl) rfl ?_
        refine Cov.g_on rfl ?_
        refine Cov.q .ro (.eql rfl rfl) rfl ?_
        refine Cov.g_on rfl ?_
        refine Cov.q .ro (.move rfl) rfl ?_
        refine Cov.cutR 6 (β := Unit) (fun y => [(22, .bool (decide ((x0_0 = 1) ∨ (x0_1 < x1_0))))]) [(4, _), (12, _)] (fun y => G :: Fs) (fun y => []) [_, _] (fun y => []) [] (fun y => True) ⟨rfl, rfl, trivial⟩ [0, 1] rfl [] rfl ?_ ?_
        · rintro _ _
          refine Cov.prune [(22, .bool (decide ((x0_0 = 1) ∨ (x0_1 < x1_0)))), (4, _), (12, _)] ⟨rfl, rfl, rfl, trivial⟩ ?_
          refine Cov.same (bl' := [_, _]) (sl' := []) (Fs' := G :: Fs) rfl rfl rfl ?_
          refine Cov.q .ro (.pick_t rfl rfl) rfl ?_
          refine Cov.prune _ ?_ (Cov.same rfl rfl rfl (hb23 () trivial))
          exact ⟨dand_t c22, rfl, trivial⟩
        · intro hb27
          refine Cov.split 16 rfl (fun c26 => ?_) (fun c26 => ?_)
          · refine Cov.g_off rfl rfl rfl ?_
            refine Cov.g_off rfl rfl rfl ?_
            refine Cov.g_off rfl rfl rfl ?_
            refine Cov.g_off rfl rfl rfl ?_
            refine Cov.g_off rfl rfl rfl ?_
            refine Cov.g_on rfl ?_
            refine Cov.q .ro (.pick_t rfl rfl) rfl ?_
            refine Cov.prune _ ?_ (Cov.same rfl rfl rfl (hb27 () trivial))
            exact ⟨dor_t c26, rfl, rfl, trivial⟩
          · refine Cov.g_on rfl ?_
            refine Cov.q .ro (.fieldAddr 1 rfl fl46_1 ty3.sz rfl) rfl ?_
            refine Cov.g_on rfl ?_
            refine Cov.q .ro (.load_own 1 rfl rfl ty3 rfl) rfl ?_
            refine Cov.g_on rfl ?_
            refine Cov.q .ro (.fieldAddr 0 rfl fl62_0 ty3.sz rfl) rfl ?_
            refine Cov.g_on rfl ?_
            refine Cov.q .ro (.load_own 0 rfl rfl ty3 rfl) rfl ?_
            refine Cov.g_on rfl ?_
            refine Cov.q .ro (.lss rfl rfl) rfl ?_
            refine Cov.g_on rfl ?_
            refine Cov.q .ro (.pick_f rfl rfl) rfl ?_
            refine Cov.prune _ ?_ (Cov.same rfl rfl rfl (hb27 () trivial))
            exact ⟨dor_f c26, rfl, rfl, trivial⟩
      · refine Cov.g_off rfl rfl rfl ?_
        refine Cov.g_off rfl rfl rfl ?_
        refine Cov.g_off rfl rfl rfl ?_
        refine Cov.g_off rfl rfl rfl ?_
        refine Cov.gu_off rfl rfl ?_
        refine Cov.gu_off rfl rfl ?_
        refine Cov.gu_off rfl rfl ?_
        refine Cov.gu_off rfl rfl ?_
        refine Cov.gu_off rfl rfl ?_
        refine Cov.g_off rfl rfl rfl ?_
        refine Cov.q .ro (.pick_f rfl rfl) rfl ?_
        refine Cov.prune _ ?_ (Cov.same rfl rfl rfl (hb23 () trivial))
        exact ⟨dand_f (bne_of c22), rfl, trivial⟩
  · intro hb12
    refine Cov.split_b 7 rfl (fun c11 => ?_) (fun c11 => ?_)
    · have r30 := ifT h14 c11
      refine Cov.g_on rfl ?_
      refine Cov.q .ro (.load_own_a 0 [_] rfl rfl ty62 rfl) rfl ?_
      refine Cov.g_on rfl ?_
      obtain ⟨u31, hu31, r32⟩ := bind_some r30; clear r30
      refine Cov.callS (b1 := []) (b2 := [_, _]) (s1 := []) [_] [] .ro rfl rfl Try.call60 rfl rfl (field_Check_c (G := G) List.mem_cons_self  hu31) rfl (fun v34 bo so h33 => ?_)
      obtain ⟨rfl, rfl, rfl⟩ := h33
      refine Cov.same (bl' := [_, _]) (sl' := []) rfl rfl rfl ?_
      refine Cov.g_on rfl ?_
      refine Cov.q .ro (.eql rfl rfl) rfl ?_
      refine Cov.q .ro (.pick_t rfl rfl) rfl ?_
      refine Cov.prune _ ?_ (Cov.same rfl rfl rfl (hb12 () trivial))
      exact ⟨sval r32, rfl, rfl, rfl, trivial⟩
    · have r35 := ifBF h14 c11
      refine Cov.g_off rfl rfl rfl ?_
      refine Cov.g_off rfl rfl rfl ?_
      refine Cov.g_off rfl rfl rfl ?_
      refine Cov.q .ro (.pick_f rfl rfl) rfl ?_
      refine Cov.prune _ ?_ (Cov.same rfl rfl rfl (hb12 () trivial))
      exact ⟨sval r35, rfl, rfl, rfl, trivial⟩
set_option maxHeartbeats 4000000 in
set_option maxRecDepth 100000 in
theorem wish_within_c {Fs : List Hp} {G : Hp} {x0 : Int} {x1 : Int} {x2 : Int} {r : Bool} (hG : G ∈ Fs)  (h : wish_within x0 x1 x2 = some r) : RetS Try.prog 52 #[.int .i64 x0, .int .i64 x1, .int .i64 x2] Fs [] [] (fun v bo so => v = .bool r ∧ bo = [] ∧ so = []) := by
  unfold wish_within at h
  try dsimp only at h
  refine RetS.of (vs := [_, _, _]) Try.func52 rfl Try.ntmps52 [(0, _), (1, _), (2, _)] ⟨rfl, rfl, rfl, trivial⟩ rfl hG fun w0 S0 hS0 B0 => ?_
  refine Cov.seq ?_
  refine Cov.region rfl ?_
  refine Cov.q .ro (.assign rfl) rfl ?_
  refine Cov.region_end ?_
  refine Cov.seq ?_
  refine Cov.region rfl ?_
  refine Cov.q .ro (.move rfl) rfl ?_
  refine Cov.q .ro (.move rfl) rfl ?_
  refine Cov.q .ro (.geq rfl rfl) rfl ?_
  refine Cov.q .ro (.move rfl) rfl ?_
  refine Cov.cutR 4 (β := Unit) (fun y => [(14, .bool (decide ((x1 ≤ x0) ∧ (x0 ≤ x2))))]) [(6, _)] (fun y => G :: Fs) (fun y => []) [] (fun y => []) [] (fun y => True) ⟨rfl, trivial⟩ [] rfl [] rfl ?_ ?_
  · rintro _ _
    refine Cov.prune [(14, .bool (decide ((x1 ≤ x0) ∧ (x0 ≤ x2)))), (6, _)] ⟨rfl, rfl, trivial⟩ ?_
    refine Cov.same (bl' := []) (sl' := []) (Fs' := G :: Fs) rfl rfl rfl ?_
    refine Cov.q .ro (.assign rfl) rfl ?_
    refine Cov.region_end ?_
    cases h
    refine Cov.retS (c := ⟨52, none⟩) (.inr ⟨_, rfl⟩) [.tmp 6] [_] rfl Try.func52 Try.results52 ⟨RV.tmp rfl, trivial⟩ (fun _ h => List.mem_cons_of_mem _ h) ⟨rfl, rfl, rfl⟩
  · intro hb2
    refine Cov.split 10 rfl (fun c1 => ?_) (fun c1 => ?_)
    · refine Cov.g_on rfl ?_
      refine Cov.q .ro (.move rfl) rfl ?_
      refine Cov.g_on rfl ?_
      refine Cov.q .ro (.move rfl) rfl ?_
      refine Cov.g_on rfl ?_
      refine Cov.q .ro (.leq rfl rfl) rfl ?_
      refine Cov.q .ro (.pick_t rfl rfl) rfl ?_
      refine Cov.prune _ ?_ (Cov.same rfl rfl rfl (hb2 () trivial))
      exact ⟨dand_t c1, rfl, trivial⟩
    · refine Cov.g_off rfl rfl rfl ?_
      refine Cov.g_off rfl rfl rfl ?_
      refine Cov.g_off rfl rfl rfl ?_
      refine Cov.q .ro (.pick_f rfl rfl) rfl ?_
      refine Cov.prune _ ?_ (Cov.same rfl rfl rfl (hb2 () trivial))
      exact ⟨dand_f c1, rfl, trivial⟩
set_option maxHeartbeats 4000000 in
set_option maxRecDepth 100000 in
theorem scheme_look_c {Fs : List Hp} {G : Hp} {x0_0 : Int} {x0_1 : Int} {x0_2 : Int} {x0_3 : Int} {x1_0 : Int} {x2 : Int} {r : Int} (hG : G ∈ Fs)  (h : scheme_look (x0_0, x0_1, x0_2, x0_3) x1_0 x2 = some r) : RetS Try.prog 61 #[.agg #[.int .i64 x0_0, .int .i64 x0_1, .int .i64 x0_2, .int .i64 x0_3], .agg #[.int .i64 x1_0], .int .i64 x2] Fs [] [] (fun v bo so => v = .int .i64 r ∧ bo = [] ∧ so = []) := by
  unfold scheme_look at h
  try dsimp only at h
  refine RetS.of (vs := [_, _, _]) Try.func61 rfl Try.ntmps61 [(0, _), (1, _), (2, _)] ⟨rfl, rfl, rfl, trivial⟩ rfl hG fun w0 S0 hS0 B0 => ?_
  refine Cov.seq ?_
  refine Cov.region rfl ?_
  refine Cov.box [_, _, _, _] .ro rfl rfl rfl (fun b1 hb1 => ?_)
  refine Cov.box [_] .ro rfl rfl rfl (fun b2 hb2 => ?_)
  refine Cov.q .ro (.assign rfl) rfl ?_
  refine Cov.region_end ?_
  refine Cov.seq ?_
  refine Cov.block ?_
  refine Cov.seq ?_
  refine Cov.region rfl ?_
  refine Cov.q .ro (.load_own_a 1 [_, _, _, _] rfl rfl ty46 rfl) rfl ?_
  refine Cov.q .ro (.load_own_a 0 [_] rfl rfl ty62 rfl) rfl ?_
  obtain ⟨u3, hu3, r4⟩ := bind_some h; clear h
  refine Cov.callS (b1 := []) (b2 := [_, _]) (s1 := []) [_, _] [] .ro rfl rfl Try.call51 rfl rfl (scheme_Valid_c (G := G) List.mem_cons_self  hu3) rfl (fun v6 bo so h5 => ?_)
  obtain ⟨rfl, rfl, rfl⟩ := h5
  refine Cov.same (bl' := [_, _]) (sl' := []) rfl rfl rfl ?_
  refine Cov.q .ro (.not rfl) rfl ?_
  refine Cov.q .ro (.assign rfl) rfl ?_
  refine Cov.region_end ?_
  refine Cov.cond rfl (fun c7 => ?_) (fun c7 => ?_)
  · have r8 := ifT r4 c7; clear r4
    refine Cov.seq ?_
    refine Cov.region rfl ?_
    refine Cov.q .ro (.assign rfl) rfl ?_
    refine Cov.region_end ?_
    cases r8
    refine Cov.drop 2 0 [] _ rfl rfl ?_
    refine Cov.retS (c := ⟨61, none⟩) (.inr ⟨_, rfl⟩) [.tmp 6] [_] rfl Try.func61 Try.results61 ⟨RV.tmp rfl, trivial⟩ (fun _ h => List.mem_cons_of_mem _ h) ⟨rfl, rfl, rfl⟩
  · have r9 := ifBF r4 c7; clear r4
    refine Cov.seq ?_
    refine Cov.region rfl ?_
    refine Cov.q .ro (.move rfl) rfl ?_
    obtain ⟨u10, hu10, r11⟩ := bind_some r9; clear r9
    refine Cov.callS (b1 := []) (b2 := [_, _]) (s1 := []) [_, _, _] [] .ro rfl rfl Try.call64 rfl rfl (scheme_within_c (G := G) List.mem_cons_self  hu10) rfl (fun v13 bo so h12 => ?_)
    obtain ⟨rfl, rfl, rfl⟩ := h12
    refine Cov.same (bl' := [_, _]) (sl' := []) rfl rfl rfl ?_
    refine Cov.q .ro (.not rfl) rfl ?_
    refine Cov.q .ro (.assign rfl) rfl ?_
    refine Cov.region_end ?_
    refine Cov.prune [(12, _)] ⟨rfl, trivial⟩ ?_
    refine Cov.cond rfl (fun c14 => ?_) (fun c14 => ?_)
    · have r15 := ifT r11 c14; clear r11
      refine Cov.seq ?_
      refine Cov.region rfl ?_
      refine Cov.q .ro (.assign rfl) rfl ?_
      refine Cov.region_end ?_
      cases r15
      refine Cov.drop 2 0 [] _ rfl rfl ?_
      refine Cov.retS (c := ⟨61, none⟩) (.inr ⟨_, rfl⟩) [.tmp 6] [_] rfl Try.func61 Try.results61 ⟨RV.tmp rfl, trivial⟩ (fun _ h => List.mem_cons_of_mem _ h) ⟨rfl, rfl, rfl⟩
    · have r16 := ifBF r11 c14; clear r11
      refine Cov.skip ?_
      refine Cov.inBlock ?_
      refine Cov.seq ?_
      refine Cov.region rfl ?_
      refine Cov.q .ro (.assign rfl) rfl ?_
      refine Cov.region_end ?_
      cases r16
      refine Cov.drop 2 0 [] _ rfl rfl ?_
      refine Cov.retS (c := ⟨61, none⟩) (.inr ⟨_, rfl⟩) [.tmp 6] [_] rfl Try.func61 Try.results61 ⟨RV.tmp rfl, trivial⟩ (fun _ h => List.mem_cons_of_mem _ h) ⟨rfl, rfl, rfl⟩
set_option maxHeartbeats 4000000 in
set_option maxRecDepth 100000 in
theorem scheme_storage_c {Fs : List Hp} {G : Hp} {x0_0 : Int} {x0_1 : Int} {x0_2 : Int} {x0_3 : Int} {r : (Int × Int × Int)} (hG : G ∈ Fs)  (h : scheme_storage (x0_0, x0_1, x0_2, x0_3) = some r) : RetS Try.prog 65 #[.agg #[.int .i64 x0_0, .int .i64 x0_1, .int .i64 x0_2, .int .i64 x0_3]] Fs [] [] (fun v bo so => v = .agg #[.int .i64 r.1, .int .i64 r.2.1, .int .i64 r.2.2] ∧ bo = [] ∧ so = []) := by
  unfold scheme_storage at h
  try dsimp only at h
  refine RetS.of (vs := [_]) Try.func65 rfl Try.ntmps65 [(0, _)] ⟨rfl, trivial⟩ rfl hG fun w0 S0 hS0 B0 => ?_
  refine Cov.seq ?_
  refine Cov.region rfl ?_
  refine Cov.box [_, _, _, _] .ro rfl rfl rfl (fun b1 hb1 => ?_)
  refine Cov.alloc .ro ty112 rfl (fun b2 hb2 => ?_)
  refine Cov.region_end ?_
  refine Cov.seq ?_
  refine Cov.region rfl ?_
  refine Cov.q .ro (.fieldAddr 1 rfl fl46_1 ty3.sz rfl) rfl ?_
  refine Cov.q .ro (.load_own 1 rfl rfl ty3 rfl) rfl ?_
  refine Cov.q .ro (.fieldAddr 2 rfl fl46_2 ty3.sz rfl) rfl ?_
  refine Cov.q .ro (.load_own 1 rfl rfl ty3 rfl) rfl ?_
  refine Cov.q .ro (.fieldAddr 3 rfl fl46_3 ty3.sz rfl) rfl ?_
  refine Cov.q .ro (.load_own 1 rfl rfl ty3 rfl) rfl ?_
  refine Cov.q .ro (.build [_, _, _] [(0, _), (1, _), (2, _)] ty112 pl112 rfl rfl) rfl ?_
  refine Cov.store 0 [_, _, _] [_, _] .ro rfl rfl rfl ty112 rfl rfl rfl rfl ?_
  refine Cov.region_end ?_
  cases h
  refine Cov.retSD 2 (c := ⟨65, none⟩) (.inr ⟨_, rfl⟩) [.cell 2 112] [_] rfl Try.func65 Try.results65 ⟨RV.cell_a 0 [_, _, _] rfl rfl ty112 rfl, trivial⟩ (fun _ h => List.mem_cons_of_mem _ h) ⟨rfl, rfl, rfl⟩
set_option maxHeartbeats 4000000 in
set_option maxRecDepth 100000 in
theorem scheme_kindOf_c {Fs : List Hp} {G : Hp} {x0_0 : Int} {x0_1 : Int} {x0_2 : Int} {x0_3 : Int} {r : (Sum Int (Sum (Int × Int) (Int × Int × Int)))} (hG : G ∈ Fs)  (h : scheme_kindOf (x0_0, x0_1, x0_2, x0_3) = some r) : RetS Try.prog 62 #[.agg #[.int .i64 x0_0, .int .i64 x0_1, .int .i64 x0_2, .int .i64 x0_3]] Fs [] [] (fun v bo so => v = (ifc104 r) ∧ bo = [] ∧ so = []) := by
  unfold scheme_kindOf at h
  try dsimp only at h
  refine RetS.of (vs := [_]) Try.func62 rfl Try.ntmps62 [(0, _)] ⟨rfl, trivial⟩ rfl hG fun w0 S0 hS0 B0 => ?_
  refine Cov.seq ?_
  refine Cov.region rfl ?_
  refine Cov.box [_, _, _, _] .ro rfl rfl rfl (fun b1 hb1 => ?_)
  refine Cov.q .ro (.assign rfl) rfl ?_
  refine Cov.region_end ?_
  refine Cov.seq ?_
  refine Cov.seq ?_
  refine Cov.region rfl ?_
  refine Cov.q .ro (.fieldAddr 0 rfl fl46_0 ty3.sz rfl) rfl ?_
  refine Cov.q .ro (.load_own 0 rfl rfl ty3 rfl) rfl ?_
  refine Cov.region_end ?_
  refine Cov.block ?_
  refine Cov.seq ?_
  refine Cov.region rfl ?_
  refine Cov.q .ro (.eql rfl rfl) rfl ?_
  refine Cov.q .ro (.assign rfl) rfl ?_
  refine Cov.region_end ?_
  refine Cov.cond_dec rfl (fun c2 => ?_) (fun c2 => ?_)
  · have r3 := ifT h c2; clear h
    refine Cov.seq ?_
    refine Cov.region rfl ?_
    refine Cov.q .ro (.fieldAddr 1 rfl fl46_1 ty3.sz rfl) rfl ?_
    refine Cov.q .ro (.load_own 0 rfl rfl ty3 rfl) rfl ?_
    refine Cov.q .ro (.build [_] [(0, _)] ty118 pl118 rfl rfl) rfl ?_
    refine Cov.q .ro (.cast (show _ = ifc104 (Sum.inl x0_1) from rfl) (.mkIface rfl (by kernel_rfl))) rfl ?_
    refine Cov.q .ro (.assign rfl) rfl ?_
    refine Cov.region_end ?_
    cases r3
    refine Cov.drop 1 0 [] _ rfl rfl ?_
    refine Cov.retS (c := ⟨62, none⟩) (.inr ⟨_, rfl⟩) [.tmp 2] [_] rfl Try.func62 Try.results62 ⟨RV.tmp rfl, trivial⟩ (fun _ h => List.mem_cons_of_mem _ h) ⟨rfl, rfl, rfl⟩
  · have r4 := ifF h c2; clear h
    refine Cov.seq ?_
    refine Cov.region rfl ?_
    refine Cov.q .ro (.eql rfl rfl) rfl ?_
    refine Cov.q .ro (.assign rfl) rfl ?_
    refine Cov.region_end ?_
    refine Cov.cond_dec rfl (fun c5 => ?_) (fun c5 => ?_)
    · have r6 := ifT r4 c5; clear r4
      refine Cov.seq ?_
      refine Cov.region rfl ?_
      refine Cov.q .ro (.fieldAddr 1 rfl fl46_1 ty3.sz rfl) rfl ?_
      refine Cov.q .ro (.load_own 0 rfl rfl ty3 rfl) rfl ?_
      refine Cov.q .ro (.fieldAddr 2 rfl fl46_2 ty3.sz rfl) rfl ?_
      refine Cov.q .ro (.load_own 0 rfl rfl ty3 rfl) rfl ?_
      refine Cov.q .ro (.build [_, _] [(0, _), (1, _)] ty120 pl120 rfl rfl) rfl ?_
      refine Cov.q .ro (.cast (show _ = ifc104 (Sum.inr (Sum.inl (x0_1, x0_2))) from rfl) (.mkIface rfl (by kernel_rfl))) rfl ?_
      refine Cov.q .ro (.assign rfl) rfl ?_
      refine Cov.region_end ?_
      refine Cov.prune [(2, _)] ⟨rfl, trivial⟩ ?_
      cases r6
      refine Cov.drop 1 0 [] _ rfl rfl ?_
      refine Cov.retS (c := ⟨62, none⟩) (.inr ⟨_, rfl⟩) [.tmp 2] [_] rfl Try.func62 Try.results62 ⟨RV.tmp rfl, trivial⟩ (fun _ h => List.mem_cons_of_mem _ h) ⟨rfl, rfl, rfl⟩
    · have r7 := ifF r4 c5; clear r4
      refine Cov.skip ?_
      refine Cov.inBlock ?_
      refine Cov.seq ?_
      refine Cov.region rfl ?_
      refine Cov.q .ro (.load_own_a 0 [_, _, _, _] rfl rfl ty46 rfl) rfl ?_
      obtain ⟨u8, hu8, r9⟩ := bind_some r7; clear r7
      refine Cov.callS (b1 := []) (b2 := [_]) (s1 := []) [_] [] .ro rfl rfl Try.call65 rfl rfl (scheme_storage_c (G := G) List.mem_cons_self  hu8) rfl (fun v11 bo so h10 => ?_)
      obtain ⟨rfl, rfl, rfl⟩ := h10
      refine Cov.same (bl' := [_]) (sl' := []) rfl rfl rfl ?_
      refine Cov.q .ro (.cast (show _ = ifc104 (Sum.inr (Sum.inr u8)) from rfl) (.mkIface rfl (by kernel_rfl))) rfl ?_
      refine Cov.q .ro (.assign rfl) rfl ?_
      refine Cov.region_end ?_
      cases r9
      refine Cov.drop 1 0 [] _ rfl rfl ?_
      refine Cov.retS (c := ⟨62, none⟩) (.inr ⟨_, rfl⟩) [.tmp 2] [_] rfl Try.func62 Try.results62 ⟨RV.tmp rfl, trivial⟩ (fun _ h => List.mem_cons_of_mem _ h) ⟨rfl, rfl, rfl⟩
set_option maxHeartbeats 4000000 in
set_option maxRecDepth 100000 in
theorem scheme_groups_units_c {Fs : List Hp} {G : Hp} {x0_0 : Int} {x0_1 : Int} {x0_2 : Int} {x1 : Int} {r : Int} (hG : G ∈ Fs)  (h : scheme_groups_units (x0_0, x0_1, x0_2) x1 = some r) : RetS Try.prog 66 #[.agg #[.int .i64 x0_0, .int .i64 x0_1, .int .i64 x0_2], .int .i64 x1] Fs [] [] (fun v bo so => v = .int .i64 r ∧ bo = [] ∧ so = []) := by
  unfold scheme_groups_units at h
  try dsimp only at h
  refine RetS.of (vs := [_, _]) Try.func66 rfl Try.ntmps66 [(0, _), (1, _)] ⟨rfl, rfl, trivial⟩ rfl hG fun w0 S0 hS0 B0 => ?_
  refine Cov.seq ?_
  refine Cov.region rfl ?_
  refine Cov.box [_, _, _] .ro rfl rfl rfl (fun b1 hb1 => ?_)
  refine Cov.q .ro (.assign rfl) rfl ?_
  refine Cov.region_end ?_
  refine Cov.seq ?_
  refine Cov.region rfl ?_
  refine Cov.q .ro (.move rfl) rfl ?_
  refine Cov.q .ro (.fieldAddr 2 rfl fl111_2 ty3.sz rfl) rfl ?_
  refine Cov.q .ro (.load_own 0 rfl rfl ty3 rfl) rfl ?_
  refine Cov.q .ro (.addw rfl rfl) rfl ?_
  refine Cov.q .ro (.subw rfl rfl) rfl ?_
  refine Cov.q .ro (.fieldAddr 2 rfl fl111_2 ty3.sz rfl) rfl ?_
  refine Cov.q .ro (.load_own 0 rfl rfl ty3 rfl) rfl ?_
  obtain ⟨u2, hu2, r3⟩ := bind_some h; clear h
  refine Cov.q .ro (.quow rfl rfl (nz_some hu2)) rfl ?_
  refine Cov.q .ro (.assign rfl) rfl ?_
  refine Cov.region_end ?_
  cases r3
  refine Cov.drop 1 0 [] _ rfl rfl ?_
  refine Cov.retS (c := ⟨66, none⟩) (.inr ⟨_, rfl⟩) [.tmp 4] [_] rfl Try.func66 Try.results66 ⟨RV.tmp rfl, trivial⟩ (fun _ h => List.mem_cons_of_mem _ h) ⟨rfl, rfl, rfl⟩
set_option maxHeartbeats 4000000 in
set_option maxRecDepth 100000 in
theorem coded_Check_c {Fs : List Hp} {G : Hp} {x0_0 : Int} {x1_0 : Int} {x1_1 : Int} {x1_2 : Int} {r : Int} (hG : G ∈ Fs)  (h : coded_Check x0_0 (x1_0, x1_1, x1_2) = some r) : RetS Try.prog 91 #[.agg #[.int .i64 x0_0], .agg #[.int .i64 x1_0, .int .i64 x1_1, .int .i64 x1_2]] Fs [] [] (fun v bo so => v = .int .i64 r ∧ bo = [] ∧ so = []) := by
  unfold coded_Check at h
  try dsimp only at h
  refine RetS.of (vs := [_, _]) Try.func91 rfl Try.ntmps91 [(0, _), (1, _)] ⟨rfl, rfl, trivial⟩ rfl hG fun w0 S0 hS0 B0 => ?_
  refine Cov.seq ?_
  refine Cov.region rfl ?_
  refine Cov.box [_] .ro rfl rfl rfl (fun b1 hb1 => ?_)
  refine Cov.box [_, _, _] .ro rfl rfl rfl (fun b2 hb2 => ?_)
  refine Cov.q .ro (.assign rfl) rfl ?_
  refine Cov.region_end ?_
  refine Cov.seq ?_
  refine Cov.seq ?_
  refine Cov.region rfl ?_
  refine Cov.q .ro (.load_own_a 1 [_] rfl rfl ty62 rfl) rfl ?_
  obtain ⟨u3, hu3, r4⟩ := bind_some h; clear h
  refine Cov.callS (b1 := []) (b2 := [_, _]) (s1 := []) [_] [] .ro rfl rfl Try.call67 rfl rfl (residue_Of_c (G := G) List.mem_cons_self  hu3) rfl (fun v6 bo so h5 => ?_)
  obtain ⟨rfl, rfl, rfl⟩ := h5
  refine Cov.same (bl' := [_, _]) (sl' := []) rfl rfl rfl ?_
  refine Cov.q .ro (.move rfl) rfl ?_
  refine Cov.q .ro (.extract rfl rfl) rfl ?_
  refine Cov.q .ro (.extract rfl rfl) rfl ?_
  refine Cov.q .ro (.assign rfl) rfl ?_
  refine Cov.q .ro (.assign rfl) rfl ?_
  refine Cov.region_end ?_
  refine Cov.seq ?_
  refine Cov.region rfl ?_
  refine Cov.q .ro (.move rfl) rfl ?_
  refine Cov.q .ro (.not rfl) rfl ?_
  refine Cov.region_end ?_
  refine Cov.cond rfl (fun c7 => ?_) (fun c7 => ?_)
  · have r8 := ifT r4 c7; clear r4
    refine Cov.seq ?_
    refine Cov.region rfl ?_
    refine Cov.q .ro (.assign rfl) rfl ?_
    refine Cov.region_end ?_
    refine Cov.prune [(4, _)] ⟨rfl, trivial⟩ ?_
    cases r8
    refine Cov.drop 2 0 [] _ rfl rfl ?_
    refine Cov.retS (c := ⟨91, none⟩) (.inr ⟨_, rfl⟩) [.tmp 4] [_] rfl Try.func91 Try.results91 ⟨RV.tmp rfl, trivial⟩ (fun _ h => List.mem_cons_of_mem _ h) ⟨rfl, rfl, rfl⟩
  · have r9 := ifBF r4 c7; clear r4
    refine Cov.skip ?_
    refine Cov.seq ?_
    refine Cov.seq ?_
    refine Cov.region rfl ?_
    refine Cov.q .ro (.fieldAddr 0 rfl fl112_0 ty3.sz rfl) rfl ?_
    refine Cov.q .ro (.load_own 0 rfl rfl ty3 rfl) rfl ?_
    refine Cov.q .ro (.lss rfl rfl) rfl ?_
    refine Cov.q .ro (.move rfl) rfl ?_
    refine Cov.cutR 4 (β := Unit) (fun y => [(21, .bool (decide ((x1_0 < 2) ∨ (10 < x1_0))))]) [(2, _), (3, _)] (fun y => G :: Fs) (fun y => []) [_, _] (fun y => []) [] (fun y => True) ⟨rfl, rfl, trivial⟩ [0, 1] rfl [] rfl ?_ ?_
    · rintro _ _
      refine Cov.prune [(21, .bool (decide ((x1_0 < 2) ∨ (10 < x1_0)))), (2, _), (3, _)] ⟨rfl, rfl, rfl, trivial⟩ ?_
      refine Cov.same (bl' := [_, _]) (sl' := []) (Fs' := G :: Fs) rfl rfl rfl ?_
      refine Cov.q .ro (.move rfl) rfl ?_
      refine Cov.cutR 6 (β := Unit) (fun y => [(28, .bool (decide (((x1_0 < 2) ∨ (10 < x1_0)) ∨ (x0_0 ≤ x1_0))))]) [(3, _)] (fun y => G :: Fs) (fun y => []) [_, _] (fun y => []) [] (fun y => True) ⟨rfl, trivial⟩ [0, 1] rfl [] rfl ?_ ?_
      · rintro _ _
        refine Cov.prune [(28, .bool (decide (((x1_0 < 2) ∨ (10 < x1_0)) ∨ (x0_0 ≤ x1_0)))), (3, _)] ⟨rfl, rfl, trivial⟩ ?_
        refine Cov.same (bl' := [_, _]) (sl' := []) (Fs' := G :: Fs) rfl rfl rfl ?_
        refine Cov.q .ro (.move rfl) rfl ?_
        refine Cov.cutR 4 (β := Unit) (fun y => [(33, .bool (decide ((((x1_0 < 2) ∨ (10 < x1_0)) ∨ (x0_0 ≤ x1_0)) ∨ (x1_1 < 1))))]) [(3, _)] (fun y => G :: Fs) (fun y => []) [_, _] (fun y => []) [] (fun y => True) ⟨rfl, trivial⟩ [0, 1] rfl [] rfl ?_ ?_
        · rintro _ _
          refine Cov.prune [(33, .bool (decide ((((x1_0 < 2) ∨ (10 < x1_0)) ∨ (x0_0 ≤ x1_0)) ∨ (x1_1 < 1)))), (3, _)] ⟨rfl, rfl, trivial⟩ ?_
          refine Cov.same (bl' := [_, _]) (sl' := []) (Fs' := G :: Fs) rfl rfl rfl ?_
          refine Cov.q .ro (.move rfl) rfl ?_
          refine Cov.cutR 4 (β := Unit) (fun y => [(38, .bool (decide (((((x1_0 < 2) ∨ (10 < x1_0)) ∨ (x0_0 ≤ x1_0)) ∨ (x1_1 < 1)) ∨ (x1_2 < 1))))]) [(3, _)] (fun y => G :: Fs) (fun y => []) [_, _] (fun y => []) [] (fun y => True) ⟨rfl, trivial⟩ [0, 1] rfl [] rfl ?_ ?_
          · rintro _ _
            refine Cov.prune [(38, .bool (decide (((((x1_0 < 2) ∨ (10 < x1_0)) ∨ (x0_0 ≤ x1_0)) ∨ (x1_1 < 1)) ∨ (x1_2 < 1)))), (3, _)] ⟨rfl, rfl, trivial⟩ ?_
            refine Cov.same (bl' := [_, _]) (sl' := []) (Fs' := G :: Fs) rfl rfl rfl ?_
            refine Cov.q .ro (.move rfl) rfl ?_
            refine Cov.cutR 6 (β := Unit) (fun y => [(45, .bool (decide ((((((x1_0 < 2) ∨ (10 < x1_0)) ∨ (x0_0 ≤ x1_0)) ∨ (x1_1 < 1)) ∨ (x1_2 < 1)) ∨ (x1_0 < x1_1))))]) [(3, _)] (fun y => G :: Fs) (fun y => []) [_, _] (fun y => []) [] (fun y => True) ⟨rfl, trivial⟩ [0, 1] rfl [] rfl ?_ ?_
            · rintro _ _
              refine Cov.prune [(45, .bool (decide ((((((x1_0 < 2) ∨ (10 < x1_0)) ∨ (x0_0 ≤ x1_0)) ∨ (x1_1 < 1)) ∨ (x1_2 < 1)) ∨ (x1_0 < x1_1)))), (3, _)] ⟨rfl, rfl, trivial⟩ ?_
              refine Cov.same (bl' := [_, _]) (sl' := []) (Fs' := G :: Fs) rfl rfl rfl ?_
              refine Cov.q .ro (.move rfl) rfl ?_
              refine Cov.cutR 6 (β := Unit) (fun y => [(52, .bool (decide (((((((x1_0 < 2) ∨ (10 < x1_0)) ∨ (x0_0 ≤ x1_0)) ∨ (x1_1 < 1)) ∨ (x1_2 < 1)) ∨ (x1_0 < x1_1)) ∨ (x1_0 < x1_2))))]) [(3, _)] (fun y => G :: Fs) (fun y => []) [_, _] (fun y => []) [] (fun y => True) ⟨rfl, trivial⟩ [0, 1] rfl [] rfl ?_ ?_
              · rintro _ _
                refine Cov.prune [(52, .bool (decide (((((((x1_0 < 2) ∨ (10 < x1_0)) ∨ (x0_0 ≤ x1_0)) ∨ (x1_1 < 1)) ∨ (x1_2 < 1)) ∨ (x1_0 < x1_1)) ∨ (x1_0 < x1_2)))), (3, _)] ⟨rfl, rfl, trivial⟩ ?_
                refine Cov.same (bl' := [_, _]) (sl' := []) (Fs' := G :: Fs) rfl rfl rfl ?_
                refine Cov.q .ro (.move rfl) rfl ?_
                refine Cov.cutR 11 (β := Unit) (fun y => [(64, .bool (decide ((((((((x1_0 < 2) ∨ (10 < x1_0)) ∨ (x0_0 ≤ x1_0)) ∨ (x1_1 < 1)) ∨ (x1_2 < 1)) ∨ (x1_0 < x1_1)) ∨ (x1_0 < x1_2)) ∨ (x1_0 < (w64 ((w64 ((w64 (2 * x1_2)) + x1_1)) - 1))))))]) [] (fun y => G :: Fs) (fun y => []) [_, _] (fun y => []) [] (fun y => True) trivial [0, 1] rfl [] rfl ?_ ?_
                · rintro _ _
                  refine Cov.prune [(64, .bool (decide ((((((((x1_0 < 2) ∨ (10 < x1_0)) ∨ (x0_0 ≤ x1_0)) ∨ (x1_1 < 1)) ∨ (x1_2 < 1)) ∨ (x1_0 < x1_1)) ∨ (x1_0 < x1_2)) ∨ (x1_0 < (w64 ((w64 ((w64 (2 * x1_2)) + x1_1)) - 1))))))] ⟨rfl, trivial⟩ ?_
                  refine Cov.same (bl' := [_, _]) (sl' := []) (Fs' := G :: Fs) rfl rfl rfl ?_
                  refine Cov.region_end ?_
                  refine Cov.cond_dec rfl (fun c38 => ?_) (fun c38 => ?_)
                  · have r39 := ifT r9 c38; clear r9
                    refine Cov.seq ?_
                    refine Cov.region rfl ?_
                    refine Cov.q .ro (.assign rfl) rfl ?_
                    refine Cov.region_end ?_
                    cases r39
                    refine Cov.drop 2 0 [] _ rfl rfl ?_
                    refine Cov.retS (c := ⟨91, none⟩) (.inr ⟨_, rfl⟩) [.tmp 4] [_] rfl Try.func91 Try.results91 ⟨RV.tmp rfl, trivial⟩ (fun _ h => List.mem_cons_of_mem _ h) ⟨rfl, rfl, rfl⟩
                  · have r40 := ifF r9 c38; clear r9
                    refine Cov.skip ?_
                    refine Cov.seq ?_
                    refine Cov.region rfl ?_
                    refine Cov.q .ro (.assign rfl) rfl ?_
                    refine Cov.region_end ?_
                    cases r40
                    refine Cov.drop 2 0 [] _ rfl rfl ?_
                    refine Cov.retS (c := ⟨91, none⟩) (.inr ⟨_, rfl⟩) [.tmp 4] [_] rfl Try.func91 Try.results91 ⟨RV.tmp rfl, trivial⟩ (fun _ h => List.mem_cons_of_mem _ h) ⟨rfl, rfl, rfl⟩
                · intro hb35
                  refine Cov.split 53 rfl (fun c34 => ?_) (fun c34 => ?_)
                  · refine Cov.g_off rfl rfl rfl ?_
                    refine Cov.g_off rfl rfl rfl ?_
                    refine Cov.g_off rfl rfl rfl ?_
                    refine Cov.g_off rfl rfl rfl ?_
                    refine Cov.g_off rfl rfl rfl ?_
                    refine Cov.g_off rfl rfl rfl ?_
                    refine Cov.g_off rfl rfl rfl ?_
                    refine Cov.g_off rfl rfl rfl ?_
                    refine Cov.g_off rfl rfl rfl ?_
                    refine Cov.g_off rfl rfl rfl ?_
                    refine Cov.q .ro (.pick_t rfl rfl) rfl ?_
                    refine Cov.prune _ ?_ (Cov.same rfl rfl rfl (hb35 () trivial))
                    exact ⟨dor_t c34, trivial⟩
                  · refine Cov.g_on rfl ?_
                    refine Cov.q .ro (.fieldAddr 2 rfl fl112_2 ty3.sz rfl) rfl ?_
                    refine Cov.g_on rfl ?_
                    refine Cov.q .ro (.load_own 0 rfl rfl ty3 rfl) rfl ?_
                    refine Cov.g_on rfl ?_
                    refine Cov.q .ro (.mulw rfl rfl) rfl ?_
                    refine Cov.g_on rfl ?_
                    refine Cov.q .ro (.fieldAddr 1 rfl fl112_1 ty3.sz rfl) rfl ?_
                    refine Cov.g_on rfl ?_
                    refine Cov.q .ro (.load_own 0 rfl rfl ty3 rfl) rfl ?_
                    refine Cov.g_on rfl ?_
                    refine Cov.q .ro (.addw rfl rfl) rfl ?_
                    refine Cov.g_on rfl ?_
                    refine Cov.q .ro (.subw rfl rfl) rfl ?_
                    refine Cov.g_on rfl ?_
                    refine Cov.q .ro (.fieldAddr 0 rfl fl112_0 ty3.sz rfl) rfl ?_
                    refine Cov.g_on rfl ?_
                    refine Cov.q .ro (.load_own 0 rfl rfl ty3 rfl) rfl ?_
                    refine Cov.g_on rfl ?_
                    refine Cov.q .ro (.gtr rfl rfl) rfl ?_
                    refine Cov.q .ro (.pick_f rfl rfl) rfl ?_
                    refine Cov.prune _ ?_ (Cov.same rfl rfl rfl (hb35 () trivial))
                    exact ⟨dor_f c34, trivial⟩
              · intro hb31
                refine Cov.split 46 rfl (fun c30 => ?_) (fun c30 => ?_)
                · refine Cov.g_off rfl rfl rfl ?_
                  refine Cov.g_off rfl rfl rfl ?_
                  refine Cov.g_off rfl rfl rfl ?_
                  refine Cov.g_off rfl rfl rfl ?_
                  refine Cov.g_off rfl rfl rfl ?_
                  refine Cov.q .ro (.pick_t rfl rfl) rfl ?_
                  refine Cov.prune _ ?_ (Cov.same rfl rfl rfl (hb31 () trivial))
                  exact ⟨dor_t c30, rfl, trivial⟩
                · refine Cov.g_on rfl ?_
                  refine Cov.q .ro (.fieldAddr 2 rfl fl112_2 ty3.sz rfl) rfl ?_
                  refine Cov.g_on rfl ?_
                  refine Cov.q .ro (.load_own 0 rfl rfl ty3 rfl) rfl ?_
                  refine Cov.g_on rfl ?_
                  refine Cov.q .ro (.fieldAddr 0 rfl fl112_0 ty3.sz rfl) rfl ?_
                  refine Cov.g_on rfl ?_
                  refine Cov.q .ro (.load_own 0 rfl rfl ty3 rfl) rfl ?_
                  refine Cov.g_on rfl ?_
                  refine Cov.q .ro (.gtr rfl rfl) rfl ?_
                  refine Cov.q .ro (.pick_f rfl rfl) rfl ?_
                  refine Cov.prune _ ?_ (Cov.same rfl rfl rfl (hb31 () trivial))
                  exact ⟨dor_f c30, rfl, trivial⟩
            · intro hb27
              refine Cov.split 39 rfl (fun c26 => ?_) (fun c26 => ?_)
              · refine Cov.g_off rfl rfl rfl ?_
                refine Cov.g_off rfl rfl rfl ?_
                refine Cov.g_off rfl rfl rfl ?_
                refine Cov.g_off rfl rfl rfl ?_
                refine Cov.g_off rfl rfl rfl ?_
                refine Cov.q .ro (.pick_t rfl rfl) rfl ?_
                refine Cov.prune _ ?_ (Cov.same rfl rfl rfl (hb27 () trivial))
                exact ⟨dor_t c26, rfl, trivial⟩
              · refine Cov.g_on rfl ?_
                refine Cov.q .ro (.fieldAddr 1 rfl fl112_1 ty3.sz rfl) rfl ?_
                refine Cov.g_on rfl ?_
                refine Cov.q .ro (.load_own 0 rfl rfl ty3 rfl) rfl ?_
                refine Cov.g_on rfl ?_
                refine Cov.q .ro (.fieldAddr 0 rfl fl112_0 ty3.sz rfl) rfl ?_
                refine Cov.g_on rfl ?_
                refine Cov.q .ro (.load_own 0 rfl rfl ty3 rfl) rfl ?_
                refine Cov.g_on rfl ?_
                refine Cov.q .ro (.gtr rfl rfl) rfl ?_
                refine Cov.q .ro (.pick_f rfl rfl) rfl ?_
                refine Cov.prune _ ?_ (Cov.same rfl rfl rfl (hb27 () trivial))
                exact ⟨dor_f c26, rfl, trivial⟩
          · intro hb23
            refine Cov.split 34 rfl (fun c22 => ?_) (fun c22 => ?_)
            · refine Cov.g_off rfl rfl rfl ?_
              refine Cov.g_off rfl rfl rfl ?_
              refine Cov.g_off rfl rfl rfl ?_
              refine Cov.q .ro (.pick_t rfl rfl) rfl ?_
              refine Cov.prune _ ?_ (Cov.same rfl rfl rfl (hb23 () trivial))
              exact ⟨dor_t c22, rfl, trivial⟩
            · refine Cov.g_on rfl ?_
              refine Cov.q .ro (.fieldAddr 2 rfl fl112_2 ty3.sz rfl) rfl ?_
              refine Cov.g_on rfl ?_
              refine Cov.q .ro (.load_own 0 rfl rfl ty3 rfl) rfl ?_
              refine Cov.g_on rfl ?_
              refine Cov.q .ro (.lss rfl rfl) rfl ?_
              refine Cov.q .ro (.pick_f rfl rfl) rfl ?_
              refine Cov.prune _ ?_ (Cov.same rfl rfl rfl (hb23 () trivial))
              exact ⟨dor_f c22, rfl, trivial⟩
        · intro hb19
          refine Cov.split 29 rfl (fun c18 => ?_) (fun c18 => ?_)
          · refine Cov.g_off rfl rfl rfl ?_
            refine Cov.g_off rfl rfl rfl ?_
            refine Cov.g_off rfl rfl rfl ?_
            refine Cov.q .ro (.pick_t rfl rfl) rfl ?_
            refine Cov.prune _ ?_ (Cov.same rfl rfl rfl (hb19 () trivial))
            exact ⟨dor_t c18, rfl, trivial⟩
          · refine Cov.g_on rfl ?_
            refine Cov.q .ro (.fieldAddr 1 rfl fl112_1 ty3.sz rfl) rfl ?_
            refine Cov.g_on rfl ?_
            refine Cov.q .ro (.load_own 0 rfl rfl ty3 rfl) rfl ?_
            refine Cov.g_on rfl ?_
            refine Cov.q .ro (.lss rfl rfl) rfl ?_
            refine Cov.q .ro (.pick_f rfl rfl) rfl ?_
            refine Cov.prune _ ?_ (Cov.same rfl rfl rfl (hb19 () trivial))
            exact ⟨dor_f c18, rfl, trivial⟩
      · intro hb15
        refine Cov.split 22 rfl (fun c14 => ?_) (fun c14 => ?_)
        · refine Cov.g_off rfl rfl rfl ?_
          refine Cov.g_off rfl rfl rfl ?_
          refine Cov.g_off rfl rfl rfl ?_
          refine Cov.g_off rfl rfl rfl ?_
          refine Cov.g_off rfl rfl rfl ?_
          refine Cov.q .ro (.pick_t rfl rfl) rfl ?_
          refine Cov.prune _ ?_ (Cov.same rfl rfl rfl (hb15 () trivial))
          exact ⟨dor_t c14, rfl, trivial⟩
        · refine Cov.g_on rfl ?_
          refine Cov.q .ro (.fieldAddr 0 rfl fl112_0 ty3.sz rfl) rfl ?_
          refine Cov.g_on rfl ?_
          refine Cov.q .ro (.load_own 0 rfl rfl ty3 rfl) rfl ?_
          refine Cov.g_on rfl ?_
          refine Cov.q .ro (.fieldAddr 0 rfl fl62_0 ty3.sz rfl) rfl ?_
          refine Cov.g_on rfl ?_
          refine Cov.q .ro (.load_own 1 rfl rfl ty3 rfl) rfl ?_
          refine Cov.g_on rfl ?_
          refine Cov.q .ro (.geq rfl rfl) rfl ?_
          refine Cov.q .ro (.pick_f rfl rfl) rfl ?_
          refine Cov.prune _ ?_ (Cov.same rfl rfl rfl (hb15 () trivial))
          exact ⟨dor_f c14, rfl, trivial⟩
    · intro hb11
      refine Cov.split 17 rfl (fun c10 => ?_) (fun c10 => ?_)
      · refine Cov.g_off rfl rfl rfl ?_
        refine Cov.g_off rfl rfl rfl ?_
        refine Cov.g_off rfl rfl rfl ?_
        refine Cov.q .ro (.pick_t rfl rfl) rfl ?_
        refine Cov.prune _ ?_ (Cov.same rfl rfl rfl (hb11 () trivial))
        exact ⟨dor_t c10, rfl, rfl, trivial⟩
      · refine Cov.g_on rfl ?_
        refine Cov.q .ro (.fieldAddr 0 rfl fl112_0 ty3.sz rfl) rfl ?_
        refine Cov.g_on rfl ?_
        refine Cov.q .ro (.load_own 0 rfl rfl ty3 rfl) rfl ?_
        refine Cov.g_on rfl ?_
        refine Cov.q .ro (.gtr rfl rfl) rfl ?_
        refine Cov.q .ro (.pick_f rfl rfl) rfl ?_
        refine Cov.prune _ ?_ (Cov.same rfl rfl rfl (hb11 () trivial))
        exact ⟨dor_f c10, rfl, rfl, trivial⟩
set_option maxHeartbeats 4000000 in
set_option maxRecDepth 100000 in
theorem coded_check_c {Fs : List Hp} {G : Hp} {x0_0 : Int} {x1_0 : Int} {x1_1 : Int} {x1_2 : Int} {x2 : Int} {r : Int} (hG : G ∈ Fs)  (h : coded_check x0_0 (x1_0, x1_1, x1_2) x2 = some r) : RetS Try.prog 90 #[.agg #[.int .i64 x0_0], .agg #[.int .i64 x1_0, .int .i64 x1_1, .int .i64 x1_2], .int .i64 x2] Fs [] [] (fun v bo so => v = .int .i64 r ∧ bo = [] ∧ so = []) := by
  unfold coded_check at h
  try dsimp only at h
  refine RetS.of (vs := [_, _, _]) Try.func90 rfl Try.ntmps90 [(0, _), (1, _), (2, _)] ⟨rfl, rfl, rfl, trivial⟩ rfl hG fun w0 S0 hS0 B0 => ?_
  refine Cov.seq ?_
  refine Cov.region rfl ?_
  refine Cov.box [_] .ro rfl rfl rfl (fun b1 hb1 => ?_)
  refine Cov.box [_, _, _] .ro rfl rfl rfl (fun b2 hb2 => ?_)
  refine Cov.q .ro (.assign rfl) rfl ?_
  refine Cov.region_end ?_
  refine Cov.seq ?_
  refine Cov.region rfl ?_
  refine Cov.q .ro (.load_own_a 1 [_] rfl rfl ty62 rfl) rfl ?_
  refine Cov.q .ro (.load_own_a 0 [_, _, _] rfl rfl ty112 rfl) rfl ?_
  obtain ⟨u3, hu3, r4⟩ := bind_some h; clear h
  refine Cov.callS (b1 := []) (b2 := [_, _]) (s1 := []) [_, _] [] .ro rfl rfl Try.call91 rfl rfl (coded_Check_c (G := G) List.mem_cons_self  hu3) rfl (fun v6 bo so h5 => ?_)
  obtain ⟨rfl, rfl, rfl⟩ := h5
  refine Cov.same (bl' := [_, _]) (sl' := []) rfl rfl rfl ?_
  refine Cov.q .ro (.assign rfl) rfl ?_
  refine Cov.region_end ?_
  refine Cov.seq ?_
  refine Cov.seq ?_
  refine Cov.region rfl ?_
  refine Cov.q .ro (.move rfl) rfl ?_
  refine Cov.q .ro (.eql rfl rfl) rfl ?_
  refine Cov.q .ro (.move rfl) rfl ?_
  refine Cov.cutR 7 (β := Unit) (fun y => [(20, .bool (decide ((u3 = 0) ∧ ((x2 < 1) ∨ (1024 < x2)))))]) [(7, _)] (fun y => G :: Fs) (fun y => []) [_, _] (fun y => []) [] (fun y => True) ⟨rfl, trivial⟩ [0, 1] rfl [] rfl ?_ ?_
  · rintro _ _
    refine Cov.prune [(20, .bool (decide ((u3 = 0) ∧ ((x2 < 1) ∨ (1024 < x2))))), (7, _)] ⟨rfl, rfl, trivial⟩ ?_
    refine Cov.same (bl' := [_, _]) (sl' := []) (Fs' := G :: Fs) rfl rfl rfl ?_
    refine Cov.region_end ?_
    refine Cov.cond_dec rfl (fun c15 => ?_) (fun c15 => ?_)
    · have r16 := ifT r4 c15; clear r4
      refine Cov.seq ?_
      refine Cov.region rfl ?_
      refine Cov.q .ro (.assign rfl) rfl ?_
      refine Cov.region_end ?_
      cases r16
      refine Cov.drop 2 0 [] _ rfl rfl ?_
      refine Cov.retS (c := ⟨90, none⟩) (.inr ⟨_, rfl⟩) [.tmp 6] [_] rfl Try.func90 Try.results90 ⟨RV.tmp rfl, trivial⟩ (fun _ h => List.mem_cons_of_mem _ h) ⟨rfl, rfl, rfl⟩
    · have r17 := ifF r4 c15; clear r4
      refine Cov.skip ?_
      refine Cov.seq ?_
      refine Cov.region rfl ?_
      refine Cov.q .ro (.move rfl) rfl ?_
      refine Cov.q .ro (.assign rfl) rfl ?_
      refine Cov.region_end ?_
      cases r17
      refine Cov.drop 2 0 [] _ rfl rfl ?_
      refine Cov.retS (c := ⟨90, none⟩) (.inr ⟨_, rfl⟩) [.tmp 6] [_] rfl Try.func90 Try.results90 ⟨RV.tmp rfl, trivial⟩ (fun _ h => List.mem_cons_of_mem _ h) ⟨rfl, rfl, rfl⟩
  · intro hb12
    refine Cov.split 13 rfl (fun c11 => ?_) (fun c11 => ?_)
    · refine Cov.g_on rfl ?_
      refine Cov.q .ro (.move rfl) rfl ?_
      refine Cov.g_on rfl ?_
      refine Cov.q .ro (.lss rfl rfl) rfl ?_
      refine Cov.g_on rfl ?_
      refine Cov.q .ro (.move rfl) rfl ?_
      refine Cov.cutR 3 (β := Unit) (fun y => [(19, .bool (decide ((x2 < 1) ∨ (1024 < x2))))]) [(7, _), (13, _)] (fun y => G :: Fs) (fun y => []) [_, _] (fun y => []) [] (fun y => True) ⟨rfl, rfl, trivial⟩ [0, 1] rfl [] rfl ?_ ?_
      · rintro _ _
        refine Cov.prune [(19, .bool (decide ((x2 < 1) ∨ (1024 < x2)))), (7, _), (13, _)] ⟨rfl, rfl, rfl, trivial⟩ ?_
        refine Cov.same (bl' := [_, _]) (sl' := []) (Fs' := G :: Fs) rfl rfl rfl ?_
        refine Cov.q .ro (.pick_t rfl rfl) rfl ?_
        refine Cov.prune _ ?_ (Cov.same rfl rfl rfl (hb12 () trivial))
        exact ⟨dand_t c11, rfl, trivial⟩
      · intro hb19
        refine Cov.split 16 rfl (fun c18 => ?_) (fun c18 => ?_)
        · refine Cov.g_off rfl rfl rfl ?_
          refine Cov.g_off rfl rfl rfl ?_
          refine Cov.g_on rfl ?_
          refine Cov.q .ro (.pick_t rfl rfl) rfl ?_
          refine Cov.prune _ ?_ (Cov.same rfl rfl rfl (hb19 () trivial))
          exact ⟨dor_t c18, rfl, rfl, trivial⟩
        · refine Cov.g_on rfl ?_
          refine Cov.q .ro (.move rfl) rfl ?_
          refine Cov.g_on rfl ?_
          refine Cov.q .ro (.gtr rfl rfl) rfl ?_
          refine Cov.g_on rfl ?_
          refine Cov.q .ro (.pick_f rfl rfl) rfl ?_
          refine Cov.prune _ ?_ (Cov.same rfl rfl rfl (hb19 () trivial))
          exact ⟨dor_f c18, rfl, rfl, trivial⟩
    · refine Cov.g_off rfl rfl rfl ?_
      refine Cov.g_off rfl rfl rfl ?_
      refine Cov.g_off rfl rfl rfl ?_
      refine Cov.gu_off rfl rfl ?_
      refine Cov.gu_off rfl rfl ?_
      refine Cov.g_off rfl rfl rfl ?_
      refine Cov.q .ro (.pick_f rfl rfl) rfl ?_
      refine Cov.prune _ ?_ (Cov.same rfl rfl rfl (hb12 () trivial))
      exact ⟨dand_f c11, rfl, trivial⟩
set_option maxHeartbeats 4000000 in
set_option maxRecDepth 100000 in
theorem coded_Limits_c {Fs : List Hp} {G : Hp} {x0_0 : Int} {x1_0 : Int} {x1_1 : Int} {x1_2 : Int} {x2 : Int} {r : ((List Int) × Int)} (hG : G ∈ Fs)  (h : coded_Limits x0_0 (x1_0, x1_1, x1_2) x2 = some r) : RetS Try.prog 89 #[.agg #[.int .i64 x0_0], .agg #[.int .i64 x1_0, .int .i64 x1_1, .int .i64 x1_2], .int .i64 x2] Fs [] [] (fun v bo so => ∃ (oa0 : Option Addr) (ok0 : Nat) (oc0 : List Value), v = .tuple #[.slice oa0 r.1.length ok0, .int .i64 r.2] ∧ bo = [] ∧ so = [.s (.slice oa0 r.1.length ok0) 3 1 r.1.length oc0] ∧ OL (Rep.int .i64) G oc0 r.1) := by
  unfold coded_Limits at h
  try dsimp only at h
  refine RetS.of (vs := [_, _, _]) Try.func89 rfl Try.ntmps89 [(0, _), (1, _), (2, _)] ⟨rfl, rfl, rfl, trivial⟩ rfl hG fun w0 S0 hS0 B0 => ?_
  refine Cov.seq ?_
  refine Cov.region rfl ?_
  refine Cov.box [_] .ro rfl rfl rfl (fun b1 hb1 => ?_)
  refine Cov.box [_, _, _] .ro rfl rfl rfl (fun b2 hb2 => ?_)
  refine Cov.q .ro (.assign rfl) rfl ?_
  refine Cov.q .ro (.assign rfl) rfl ?_
  refine Cov.region_end ?_
  refine Cov.seq ?_
  refine Cov.seq ?_
  refine Cov.region rfl ?_
  refine Cov.q .ro (.load_own_a 1 [_] rfl rfl ty62 rfl) rfl ?_
  refine Cov.q .ro (.load_own_a 0 [_, _, _] rfl rfl ty112 rfl) rfl ?_
  refine Cov.q .ro (.move rfl) rfl ?_
  obtain ⟨u3, hu3, r4⟩ := bind_some h; clear h
  refine Cov.callS (b1 := []) (b2 := [_, _]) (s1 := []) [_, _, _] [] .ro rfl rfl Try.call90 rfl rfl (coded_check_c (G := G) List.mem_cons_self  hu3) rfl (fun v6 bo so h5 => ?_)
  obtain ⟨rfl, rfl, rfl⟩ := h5
  refine Cov.same (bl' := [_, _]) (sl' := []) rfl rfl rfl ?_
  refine Cov.q .ro (.assign rfl) rfl ?_
  refine Cov.region_end ?_
  refine Cov.seq ?_
  refine Cov.region rfl ?_
  refine Cov.q .ro (.move rfl) rfl ?_
  refine Cov.q .ro (.neq rfl rfl) rfl ?_
  refine Cov.region_end ?_
  refine Cov.cond_dec rfl (fun c7 => ?_) (fun c7 => ?_)
  · have r8 := ifT r4 c7; clear r4
    refine Cov.seq ?_
    refine Cov.region rfl ?_
    refine Cov.q .ro (.move rfl) rfl ?_
    refine Cov.q .ro (.assign rfl) rfl ?_
    refine Cov.q .ro (.assign rfl) rfl ?_
    refine Cov.region_end ?_
    refine Cov.prune [(6, _), (7, _)] ⟨rfl, rfl, trivial⟩ ?_
    refine Cov.own_nil 3 1 ?_
    cases r8
    refine Cov.drop 2 0 [] _ rfl rfl ?_
    refine Cov.retS (c := ⟨89, none⟩) (.inr ⟨_, rfl⟩) [.tmp 6, .tmp 7] [_, _] rfl Try.func89 Try.results89 ⟨RV.tmp rfl, RV.tmp rfl, trivial⟩ (fun _ h => List.mem_cons_of_mem _ h) ⟨none, 0, [], rfl, rfl, rfl, (OL.nil (Rp' := (Rep.int .i64)))⟩
  · have r10 := ifF r4 c7; clear r4
    refine Cov.skip ?_
    refine Cov.seq ?_
    refine Cov.region rfl ?_
    refine Cov.q .ro (.assign rfl) rfl ?_
    refine Cov.region_end ?_
    refine Cov.seq ?_
    refine Cov.seq ?_
    refine Cov.region rfl ?_
    refine Cov.q .ro (.move rfl) rfl ?_
    refine Cov.q .ro (.fieldAddr 1 rfl fl112_1 ty3.sz rfl) rfl ?_
    refine Cov.q .ro (.load_own 0 rfl rfl ty3 rfl) rfl ?_
    refine Cov.q .ro (.mulw rfl rfl) rfl ?_
    refine Cov.q .ro (.move rfl) rfl ?_
    refine Cov.region_end ?_
    refine Cov.prune [(3, _), (9, _), (20, _), (21, _)] ⟨rfl, rfl, rfl, rfl, trivial⟩ ?_
    refine Cov.block ?_
    refine Cov.own_nil 3 1 ?_
    refine Cov.loop2 (α := Nat × List Int × Option Addr × Nat × List Value × Int) (fun y => [(9, .slice y.2.2.1 y.2.1.length y.2.2.2.1), (21, .int .i64 y.2.2.2.2.2)]) [(3, _), (20, _)] (fun y => []) (fun y => []) [_, _] (fun y => [.s (.slice y.2.2.1 y.2.1.length y.2.2.2.1) 3 1 y.2.1.length y.2.2.2.2.1]) [] (fun y => OL (Rep.int .i64) G y.2.2.2.2.1 y.2.1 ∧ coded_Limits_L1 (w64 (x2 * x1_1)) x0_0 y.1 y.2.1 y.2.2.2.2.2 = some r) (fun y => y.1) (big, ([] : List Int), none, 0, [], 0) ⟨(OL.nil (Rp' := (Rep.int .i64))), r10⟩ ⟨rfl, rfl, rfl, rfl, trivial⟩ rfl rfl rfl (fun y hI hb65 => ?_)
    obtain ⟨n55, v57, a58, k59, cs60, v63⟩ := y
    obtain ⟨o61, r64⟩ := hI
    try dsimp only at o61 r64
    refine Cov.prune [(9, .slice a58 v57.length k59), (21, .int .i64 v63), (3, _), (20, _)] ⟨rfl, rfl, rfl, rfl, trivial⟩ ?_
    refine Cov.same (bl' := [_, _]) (sl' := [.s (.slice a58 v57.length k59) 3 1 v57.length cs60]) (Fs' := G :: Fs) rfl rfl rfl ?_
    obtain ⟨m72, rfl⟩ : ∃ m, n55 = m + 1 := by cases n55 with | zero => exact absurd (show (none : Option _) = some _ from r64) (by simp) | succ m => exact ⟨m, rfl⟩
    have r71 : coded_Limits_B1 (w64 (x2 * x1_1)) x0_0 (coded_Limits_L1 (w64 (x2 * x1_1)) x0_0 m72) v57 v63 = some r := r64; clear r64; unfold coded_Limits_B1 at r71; try dsimp only at r71
    refine Cov.seq ?_
    refine Cov.region rfl ?_
    refine Cov.q .ro (.lss rfl rfl) rfl ?_
    refine Cov.region_end ?_
    refine Cov.seq ?_
    refine Cov.cond_dec rfl (fun c73 => ?_) (fun c73 => ?_)
    · have r74 := ifT r71 c73; clear r71
      refine Cov.skip ?_
      refine Cov.seq ?_
      refine Cov.block ?_
      refine Cov.region rfl ?_
      refine Cov.q .ro (.move rfl) rfl ?_
      refine Cov.q .ro (.fieldAddr 0 rfl fl62_0 ty3.sz rfl) rfl ?_
      refine Cov.q .ro (.load_own 1 rfl rfl ty3 rfl) rfl ?_
      refine Cov.lit [_] [(0, _)] .ro sl35 ty3 rfl rfl rfl rfl rfl rfl (fun b75 hb75 => ?_)
      have o76 : OL (Rep.int .i64) G [.int .i64 x0_0] ([x0_0] : List Int) := ((OL.cons rfl (Rep.intI .i64 x0_0) (OL.nil (Rp' := (Rep.int .i64)))) :)
      refine Cov.reval 26 (n' := ([x0_0] : List Int).length) rfl rfl ?_
      obtain ⟨u82, hu82, r83⟩ := bind_some r74; clear r74
      refine Cov.appO (Q := (Rep.int .i64)) 0 .ro sl35 ty3 rfl rfl rfl rfl rfl rfl o61 o76 rfl rfl rfl B0 hu82 rfl (fun a78 k79 cs80 o81 => ?_)
      refine Cov.q .ro (.assign rfl) rfl ?_
      refine Cov.region_end ?_
      refine Cov.inBlock ?_
      refine Cov.region rfl ?_
      refine Cov.q .ro (.addw rfl rfl) rfl ?_
      refine Cov.q .ro (.move rfl) rfl ?_
      refine Cov.region_end ?_
      refine Cov.prune _ ?_ (Cov.same rfl rfl rfl (hb65 (m72, u82, a78, k79, cs80, (w64 (v63 + 1))) ⟨o81, r83⟩ (Nat.lt_succ_self _)))
      exact ⟨rfl, rfl, rfl, rfl, trivial⟩
    · have r85 := ifF r71 c73; clear r71
      refine Cov.exit rfl ?_
      refine Cov.seq ?_
      refine Cov.region rfl ?_
      refine Cov.q .ro (.move rfl) rfl ?_
      refine Cov.q .ro (.assign rfl) rfl ?_
      refine Cov.q .ro (.assign rfl) rfl ?_
      refine Cov.region_end ?_
      cases r85
      refine Cov.drop 2 0 [] _ rfl rfl ?_
      refine Cov.retS (c := ⟨89, none⟩) (.inr ⟨_, rfl⟩) [.tmp 6, .tmp 7] [_, _] rfl Try.func89 Try.results89 ⟨RV.tmp rfl, RV.tmp rfl, trivial⟩ (fun _ h => List.mem_cons_of_mem _ h) ⟨a58, k59, cs60, rfl, rfl, rfl, o61⟩
set_option maxHeartbeats 4000000 in
set_option maxRecDepth 100000 in
theorem scheme_groups_limits_c {Fs : List Hp} {G : Hp} {x0_0 : Int} {x0_1 : Int} {x0_2 : Int} {x1_0 : Int} {x2 : Int} {r : ((List Int) × Int)} (hG : G ∈ Fs)  (h : scheme_groups_limits (x0_0, x0_1, x0_2) x1_0 x2 = some r) : RetS Try.prog 87 #[.agg #[.int .i64 x0_0, .int .i64 x0_1, .int .i64 x0_2], .agg #[.int .i64 x1_0], .int .i64 x2] Fs [] [] (fun v bo so => ∃ (oa0 : Option Addr) (ok0 : Nat) (oc0 : List Value), v = .tuple #[.slice oa0 r.1.length ok0, .int .i64 r.2] ∧ bo = [] ∧ so = [.s (.slice oa0 r.1.length ok0) 3 1 r.1.length oc0] ∧ OL (Rep.int .i64) G oc0 r.1) := by
  unfold scheme_groups_limits at h
  try dsimp only at h
  refine RetS.of (vs := [_, _, _]) Try.func87 rfl Try.ntmps87 [(0, _), (1, _), (2, _)] ⟨rfl, rfl, rfl, trivial⟩ rfl hG fun w0 S0 hS0 B0 => ?_
  refine Cov.seq ?_
  refine Cov.region rfl ?_
  refine Cov.box [_, _, _] .ro rfl rfl rfl (fun b1 hb1 => ?_)
  refine Cov.box [_] .ro rfl rfl rfl (fun b2 hb2 => ?_)
  refine Cov.q .ro (.assign rfl) rfl ?_
  refine Cov.q .ro (.assign rfl) rfl ?_
  refine Cov.region_end ?_
  refine Cov.seq ?_
  refine Cov.drawL (.q 0 (.q 1 (.q 2 (.q 3 (.e 4 1 (.e 5 1 (.q 6 (.q 7 (.q 8 (.q 9 .nil)))))))))) [_, _] (by kernel_rfl) (by kernel_rfl) (pick_mem [0, 1] rfl) ?_
  refine Cov.dq (.load_own_a 0 [_] rfl rfl ty62 rfl) rfl ?_
  refine Cov.dq (.load_own_a 1 [_, _, _] rfl rfl ty111 rfl) rfl ?_
  refine Cov.dq (.load_own_a 1 [_, _, _] rfl rfl ty111 rfl) rfl ?_
  refine Cov.dq (.move rfl) rfl ?_
  obtain ⟨u3, hu3, r4⟩ := bind_some h; clear h
  refine Cov.callS (b1 := []) (b2 := [_, _]) (s1 := []) [_, _] [] .d1 rfl rfl Try.call66 rfl rfl (scheme_groups_units_c (G := G) List.mem_cons_self  hu3) rfl (fun v6 bo so h5 => ?_)
  obtain ⟨rfl, rfl, rfl⟩ := h5
  refine Cov.same (bl' := [_, _]) (sl' := []) rfl rfl rfl ?_
  refine Cov.clsL (HpLe.refl _) (pick_mem [0, 1] rfl) ?_
  obtain ⟨u7, hu7, r8⟩ := bind_some r4; clear r4
  refine Cov.callS (b1 := []) (b2 := [_, _]) (s1 := []) [_, _, _] [] .d1 rfl rfl Try.call89 rfl rfl (coded_Limits_c (G := G) List.mem_cons_self  hu7) rfl (fun v10 bo so h9 => ?_)
  obtain ⟨a12, k13, cs14, rfl, rfl, rfl, o15⟩ := h9
  refine Cov.same (bl' := [_, _]) (sl' := [_]) rfl rfl rfl ?_
  refine Cov.clsL (HpLe.refl _) (pick_mem [0, 1] rfl) ?_
  refine Cov.dq (.extract rfl rfl) rfl ?_
  refine Cov.dq (.extract rfl rfl) rfl ?_
  refine Cov.dq (.assign rfl) rfl ?_
  refine Cov.dq (.assign rfl) rfl ?_
  refine Cov.draw_end ?_
  refine Cov.prune [(6, _), (7, _)] ⟨rfl, rfl, trivial⟩ ?_
  cases r8
  refine Cov.drop 2 0 [] _ rfl rfl ?_
  refine Cov.retS (c := ⟨87, none⟩) (.inr ⟨_, rfl⟩) [.tmp 6, .tmp 7] [_, _] rfl Try.func87 Try.results87 ⟨RV.tmp rfl, RV.tmp rfl, trivial⟩ (fun _ h => List.mem_cons_of_mem _ h) ⟨a12, k13, cs14, rfl, rfl, rfl, o15⟩
set_option maxHeartbeats 4000000 in
set_option maxRecDepth 100000 in
theorem parity_check_c {Fs : List Hp} {G : Hp} {x0_0 : Int} {x1 : Int} {x2 : Int} {r : Int} (hG : G ∈ Fs)  (h : parity_check x0_0 x1 x2 = some r) : RetS Try.prog 97 #[.agg #[.int .i64 x0_0], .int .i64 x1, .int .i64 x2] Fs [] [] (fun v bo so => v = .int .i64 r ∧ bo = [] ∧ so = []) := by
  unfold parity_check at h
  try dsimp only at h
  refine RetS.of (vs := [_, _, _]) Try.func97 rfl Try.ntmps97 [(0, _), (1, _), (2, _)] ⟨rfl, rfl, rfl, trivial⟩ rfl hG fun w0 S0 hS0 B0 => ?_
  refine Cov.seq ?_
  refine Cov.region rfl ?_
  refine Cov.box [_] .ro rfl rfl rfl (fun b1 hb1 => ?_)
  refine Cov.q .ro (.assign rfl) rfl ?_
  refine Cov.region_end ?_
  refine Cov.seq ?_
  refine Cov.seq ?_
  refine Cov.region rfl ?_
  refine Cov.q .ro (.load_own_a 0 [_] rfl rfl ty62 rfl) rfl ?_
  obtain ⟨u2, hu2, r3⟩ := bind_some h; clear h
  refine Cov.callS (b1 := []) (b2 := [_]) (s1 := []) [_] [] .ro rfl rfl Try.call67 rfl rfl (residue_Of_c (G := G) List.mem_cons_self  hu2) rfl (fun v5 bo so h4 => ?_)
  obtain ⟨rfl, rfl, rfl⟩ := h4
  refine Cov.same (bl' := [_]) (sl' := []) rfl rfl rfl ?_
  refine Cov.q .ro (.move rfl) rfl ?_
  refine Cov.q .ro (.extract rfl rfl) rfl ?_
  refine Cov.q .ro (.extract rfl rfl) rfl ?_
  refine Cov.q .ro (.assign rfl) rfl ?_
  refine Cov.q .ro (.assign rfl) rfl ?_
  refine Cov.region_end ?_
  refine Cov.seq ?_
  refine Cov.region rfl ?_
  refine Cov.q .ro (.move rfl) rfl ?_
  refine Cov.q .ro (.not rfl) rfl ?_
  refine Cov.region_end ?_
  refine Cov.cond rfl (fun c6 => ?_) (fun c6 => ?_)
  · have r7 := ifT r3 c6; clear r3
    refine Cov.seq ?_
    refine Cov.region rfl ?_
    refine Cov.q .ro (.assign rfl) rfl ?_
    refine Cov.region_end ?_
    refine Cov.prune [(6, _)] ⟨rfl, trivial⟩ ?_
    cases r7
    refine Cov.drop 1 0 [] _ rfl rfl ?_
    refine Cov.retS (c := ⟨97, none⟩) (.inr ⟨_, rfl⟩) [.tmp 6] [_] rfl Try.func97 Try.results97 ⟨RV.tmp rfl, trivial⟩ (fun _ h => List.mem_cons_of_mem _ h) ⟨rfl, rfl, rfl⟩
  · have r8 := ifBF r3 c6; clear r3
    refine Cov.skip ?_
    refine Cov.seq ?_
    refine Cov.seq ?_
    refine Cov.region rfl ?_
    refine Cov.q .ro (.move rfl) rfl ?_
    refine Cov.q .ro (.lss rfl rfl) rfl ?_
    refine Cov.q .ro (.move rfl) rfl ?_
    refine Cov.cutR 3 (β := Unit) (fun y => [(21, .bool (decide ((x2 < 2) ∨ (10 < x2))))]) [(1, _)] (fun y => G :: Fs) (fun y => []) [_] (fun y => []) [] (fun y => True) ⟨rfl, trivial⟩ [0] rfl [] rfl ?_ ?_
    · rintro _ _
      refine Cov.prune [(21, .bool (decide ((x2 < 2) ∨ (10 < x2)))), (1, _)] ⟨rfl, rfl, trivial⟩ ?_
      refine Cov.same (bl' := [_]) (sl' := []) (Fs' := G :: Fs) rfl rfl rfl ?_
      refine Cov.q .ro (.move rfl) rfl ?_
      refine Cov.cutR 3 (β := Unit) (fun y => [(25, .bool (decide (((x2 < 2) ∨ (10 < x2)) ∨ (x1 < 1))))]) [(1, _)] (fun y => G :: Fs) (fun y => []) [_] (fun y => []) [] (fun y => True) ⟨rfl, trivial⟩ [0] rfl [] rfl ?_ ?_
      · rintro _ _
        refine Cov.prune [(25, .bool (decide (((x2 < 2) ∨ (10 < x2)) ∨ (x1 < 1)))), (1, _)] ⟨rfl, rfl, trivial⟩ ?_
        refine Cov.same (bl' := [_]) (sl' := []) (Fs' := G :: Fs) rfl rfl rfl ?_
        refine Cov.q .ro (.move rfl) rfl ?_
        refine Cov.cutR 3 (β := Unit) (fun y => [(29, .bool (decide ((((x2 < 2) ∨ (10 < x2)) ∨ (x1 < 1)) ∨ (1024 < x1))))]) [] (fun y => G :: Fs) (fun y => []) [_] (fun y => []) [] (fun y => True) trivial [0] rfl [] rfl ?_ ?_
        · rintro _ _
          refine Cov.prune [(29, .bool (decide ((((x2 < 2) ∨ (10 < x2)) ∨ (x1 < 1)) ∨ (1024 < x1))))] ⟨rfl, trivial⟩ ?_
          refine Cov.same (bl' := [_]) (sl' := []) (Fs' := G :: Fs) rfl rfl rfl ?_
          refine Cov.region_end ?_
          refine Cov.cond_dec rfl (fun c21 => ?_) (fun c21 => ?_)
          · have r22 := ifT r8 c21; clear r8
            refine Cov.seq ?_
            refine Cov.region rfl ?_
            refine Cov.q .ro (.assign rfl) rfl ?_
            refine Cov.region_end ?_
            cases r22
            refine Cov.drop 1 0 [] _ rfl rfl ?_
            refine Cov.retS (c := ⟨97, none⟩) (.inr ⟨_, rfl⟩) [.tmp 6] [_] rfl Try.func97 Try.results97 ⟨RV.tmp rfl, trivial⟩ (fun _ h => List.mem_cons_of_mem _ h) ⟨rfl, rfl, rfl⟩
          · have r23 := ifF r8 c21; clear r8
            refine Cov.skip ?_
            refine Cov.seq ?_
            refine Cov.region rfl ?_
            refine Cov.q .ro (.assign rfl) rfl ?_
            refine Cov.region_end ?_
            cases r23
            refine Cov.drop 1 0 [] _ rfl rfl ?_
            refine Cov.retS (c := ⟨97, none⟩) (.inr ⟨_, rfl⟩) [.tmp 6] [_] rfl Try.func97 Try.results97 ⟨RV.tmp rfl, trivial⟩ (fun _ h => List.mem_cons_of_mem _ h) ⟨rfl, rfl, rfl⟩
        · intro hb18
          refine Cov.split 26 rfl (fun c17 => ?_) (fun c17 => ?_)
          · refine Cov.g_off rfl rfl rfl ?_
            refine Cov.g_off rfl rfl rfl ?_
            refine Cov.q .ro (.pick_t rfl rfl) rfl ?_
            refine Cov.prune _ ?_ (Cov.same rfl rfl rfl (hb18 () trivial))
            exact ⟨dor_t c17, trivial⟩
          · refine Cov.g_on rfl ?_
            refine Cov.q .ro (.move rfl) rfl ?_
            refine Cov.g_on rfl ?_
            refine Cov.q .ro (.gtr rfl rfl) rfl ?_
            refine Cov.q .ro (.pick_f rfl rfl) rfl ?_
            refine Cov.prune _ ?_ (Cov.same rfl rfl rfl (hb18 () trivial))
            exact ⟨dor_f c17, trivial⟩
      · intro hb14
        refine Cov.split 22 rfl (fun c13 => ?_) (fun c13 => ?_)
        · refine Cov.g_off rfl rfl rfl ?_
          refine Cov.g_off rfl rfl rfl ?_
          refine Cov.q .ro (.pick_t rfl rfl) rfl ?_
          refine Cov.prune _ ?_ (Cov.same rfl rfl rfl (hb14 () trivial))
          exact ⟨dor_t c13, rfl, trivial⟩
        · refine Cov.g_on rfl ?_
          refine Cov.q .ro (.move rfl) rfl ?_
          refine Cov.g_on rfl ?_
          refine Cov.q .ro (.lss rfl rfl) rfl ?_
          refine Cov.q .ro (.pick_f rfl rfl) rfl ?_
          refine Cov.prune _ ?_ (Cov.same rfl rfl rfl (hb14 () trivial))
          exact ⟨dor_f c13, rfl, trivial⟩
    · intro hb10
      refine Cov.split 18 rfl (fun c9 => ?_) (fun c9 => ?_)
      · refine Cov.g_off rfl rfl rfl ?_
        refine Cov.g_off rfl rfl rfl ?_
        refine Cov.q .ro (.pick_t rfl rfl) rfl ?_
        refine Cov.prune _ ?_ (Cov.same rfl rfl rfl (hb10 () trivial))
        exact ⟨dor_t c9, rfl, trivial⟩
      · refine Cov.g_on rfl ?_
        refine Cov.q .ro (.move rfl) rfl ?_
        refine Cov.g_on rfl ?_
        refine Cov.q .ro (.gtr rfl rfl) rfl ?_
        refine Cov.q .ro (.pick_f rfl rfl) rfl ?_
        refine Cov.prune _ ?_ (Cov.same rfl rfl rfl (hb10 () trivial))
        exact ⟨dor_f c9, rfl, trivial⟩
set_option maxHeartbeats 4000000 in
set_option maxRecDepth 100000 in
theorem parity_Limits_c {Fs : List Hp} {G : Hp} {x0_0 : Int} {x1 : Int} {x2 : Int} {r : ((List Int) × Int)} (hG : G ∈ Fs)  (h : parity_Limits x0_0 x1 x2 = some r) : RetS Try.prog 96 #[.agg #[.int .i64 x0_0], .int .i64 x1, .int .i64 x2] Fs [] [] (fun v bo so => ∃ (oa0 : Option Addr) (ok0 : Nat) (oc0 : List Value), v = .tuple #[.slice oa0 r.1.length ok0, .int .i64 r.2] ∧ bo = [] ∧ so = [.s (.slice oa0 r.1.length ok0) 3 1 r.1.length oc0] ∧ OL (Rep.int .i64) G oc0 r.1) := by
  unfold parity_Limits at h
  try dsimp only at h
  refine RetS.of (vs := [_, _, _]) Try.func96 rfl Try.ntmps96 [(0, _), (1, _), (2, _)] ⟨rfl, rfl, rfl, trivial⟩ rfl hG fun w0 S0 hS0 B0 => ?_
  refine Cov.seq ?_
  refine Cov.region rfl ?_
  refine Cov.box [_] .ro rfl rfl rfl (fun b1 hb1 => ?_)
  refine Cov.q .ro (.assign rfl) rfl ?_
  refine Cov.q .ro (.assign rfl) rfl ?_
  refine Cov.region_end ?_
  refine Cov.seq ?_
  refine Cov.seq ?_
  refine Cov.region rfl ?_
  refine Cov.q .ro (.load_own_a 0 [_] rfl rfl ty62 rfl) rfl ?_
  refine Cov.q .ro (.move rfl) rfl ?_
  refine Cov.q .ro (.move rfl) rfl ?_
  obtain ⟨u2, hu2, r3⟩ := bind_some h; clear h
  refine Cov.callS (b1 := []) (b2 := [_]) (s1 := []) [_, _, _] [] .ro rfl rfl Try.call97 rfl rfl (parity_check_c (G := G) List.mem_cons_self  hu2) rfl (fun v5 bo so h4 => ?_)
  obtain ⟨rfl, rfl, rfl⟩ := h4
  refine Cov.same (bl' := [_]) (sl' := []) rfl rfl rfl ?_
  refine Cov.q .ro (.assign rfl) rfl ?_
  refine Cov.region_end ?_
  refine Cov.seq ?_
  refine Cov.region rfl ?_
  refine Cov.q .ro (.move rfl) rfl ?_
  refine Cov.q .ro (.neq rfl rfl) rfl ?_
  refine Cov.region_end ?_
  refine Cov.cond_dec rfl (fun c6 => ?_) (fun c6 => ?_)
  · have r7 := ifT r3 c6; clear r3
    refine Cov.seq ?_
    refine Cov.region rfl ?_
    refine Cov.q .ro (.move rfl) rfl ?_
    refine Cov.q .ro (.assign rfl) rfl ?_
    refine Cov.q .ro (.assign rfl) rfl ?_
    refine Cov.region_end ?_
    refine Cov.own_nil 3 1 ?_
    cases r7
    refine Cov.drop 1 0 [] _ rfl rfl ?_
    refine Cov.retS (c := ⟨96, none⟩) (.inr ⟨_, rfl⟩) [.tmp 6, .tmp 7] [_, _] rfl Try.func96 Try.results96 ⟨RV.tmp rfl, RV.tmp rfl, trivial⟩ (fun _ h => List.mem_cons_of_mem _ h) ⟨none, 0, [], rfl, rfl, rfl, (OL.nil (Rp' := (Rep.int .i64)))⟩
  · have r9 := ifF r3 c6; clear r3
    refine Cov.skip ?_
    refine Cov.seq ?_
    refine Cov.region rfl ?_
    refine Cov.q .ro (.assign rfl) rfl ?_
    refine Cov.region_end ?_
    refine Cov.seq ?_
    refine Cov.seq ?_
    refine Cov.region rfl ?_
    refine Cov.q .ro (.move rfl) rfl ?_
    refine Cov.q .ro (.move rfl) rfl ?_
    refine Cov.q .ro (.subw rfl rfl) rfl ?_
    refine Cov.q .ro (.mulw rfl rfl) rfl ?_
    refine Cov.q .ro (.move rfl) rfl ?_
    refine Cov.region_end ?_
    refine Cov.prune [(3, _), (9, _), (20, _), (21, _)] ⟨rfl, rfl, rfl, rfl, trivial⟩ ?_
    refine Cov.block ?_
    refine Cov.own_nil 3 1 ?_
    refine Cov.loop2 (α := Nat × List Int × Option Addr × Nat × List Value × Int) (fun y => [(9, .slice y.2.2.1 y.2.1.length y.2.2.2.1), (21, .int .i64 y.2.2.2.2.2)]) [(3, _), (20, _)] (fun y => []) (fun y => []) [_] (fun y => [.s (.slice y.2.2.1 y.2.1.length y.2.2.2.1) 3 1 y.2.1.length y.2.2.2.2.1]) [] (fun y => OL (Rep.int .i64) G y.2.2.2.2.1 y.2.1 ∧ parity_Limits_L1 (w64 (x1 * (w64 (x2 - 1)))) x0_0 y.1 y.2.1 y.2.2.2.2.2 = some r) (fun y => y.1) (big, ([] : List Int), none, 0, [], 0) ⟨(OL.nil (Rp' := (Rep.int .i64))), r9⟩ ⟨rfl, rfl, rfl, rfl, trivial⟩ rfl rfl rfl (fun y hI hb58 => ?_)
    obtain ⟨n48, v50, a51, k52, cs53, v56⟩ := y
    obtain ⟨o54, r57⟩ := hI
    try dsimp only at o54 r57
    refine Cov.prune [(9, .slice a51 v50.length k52), (21, .int .i64 v56), (3, _), (20, _)] ⟨rfl, rfl, rfl, rfl, trivial⟩ ?_
    refine Cov.same (bl' := [_]) (sl' := [.s (.slice a51 v50.length k52) 3 1 v50.length cs53]) (Fs' := G :: Fs) rfl rfl rfl ?_
    obtain ⟨m62, rfl⟩ : ∃ m, n48 = m + 1 := by cases n48 with | zero => exact absurd (show (none : Option _) = some _ from r57) (by simp) | succ m => exact ⟨m, rfl⟩
    have r61 : parity_Limits_B1 (w64 (x1 * (w64 (x2 - 1)))) x0_0 (parity_Limits_L1 (w64 (x1 * (w64 (x2 - 1)))) x0_0 m62) v50 v56 = some r := r57; clear r57; unfold parity_Limits_B1 at r61; try dsimp only at r61
    refine Cov.seq ?_
    refine Cov.region rfl ?_
    refine Cov.q .ro (.lss rfl rfl) rfl ?_
    refine Cov.region_end ?_
    refine Cov.seq ?_
    refine Cov.cond_dec rfl (fun c63 => ?_) (fun c63 => ?_)
    · have r64 := ifT r61 c63; clear r61
      refine Cov.skip ?_
      refine Cov.seq ?_
      refine Cov.block ?_
      refine Cov.region rfl ?_
      refine Cov.q .ro (.move rfl) rfl ?_
      refine Cov.q .ro (.fieldAddr 0 rfl fl62_0 ty3.sz rfl) rfl ?_
      refine Cov.q .ro (.load_own 0 rfl rfl ty3 rfl) rfl ?_
      refine Cov.lit [_] [(0, _)] .ro sl35 ty3 rfl rfl rfl rfl rfl rfl (fun b65 hb65 => ?_)
      have o66 : OL (Rep.int .i64) G [.int .i64 x0_0] ([x0_0] : List Int) := ((OL.cons rfl (Rep.intI .i64 x0_0) (OL.nil (Rp' := (Rep.int .i64)))) :)
      refine Cov.reval 26 (n' := ([x0_0] : List Int).length) rfl rfl ?_
      obtain ⟨u72, hu72, r73⟩ := bind_some r64; clear r64
      refine Cov.appO (Q := (Rep.int .i64)) 0 .ro sl35 ty3 rfl rfl rfl rfl rfl rfl o54 o66 rfl rfl rfl B0 hu72 rfl (fun a68 k69 cs70 o71 => ?_)
      refine Cov.q .ro (.assign rfl) rfl ?_
      refine Cov.region_end ?_
      refine Cov.inBlock ?_
      refine Cov.region rfl ?_
      refine Cov.q .ro (.addw rfl rfl) rfl ?_
      refine Cov.q .ro (.move rfl) rfl ?_
      refine Cov.region_end ?_
      refine Cov.prune _ ?_ (Cov.same rfl rfl rfl (hb58 (m62, u72, a68, k69, cs70, (w64 (v56 + 1))) ⟨o71, r73⟩ (Nat.lt_succ_self _)))
      exact ⟨rfl, rfl, rfl, rfl, trivial⟩
    · have r75 := ifF r61 c63; clear r61
      refine Cov.exit rfl ?_
      refine Cov.seq ?_
      refine Cov.region rfl ?_
      refine Cov.q .ro (.move rfl) rfl ?_
      refine Cov.q .ro (.assign rfl) rfl ?_
      refine Cov.q .ro (.assign rfl) rfl ?_
      refine Cov.region_end ?_
      cases r75
      refine Cov.drop 1 0 [] _ rfl rfl ?_
      refine Cov.retS (c := ⟨96, none⟩) (.inr ⟨_, rfl⟩) [.tmp 6, .tmp 7] [_, _] rfl Try.func96 Try.results96 ⟨RV.tmp rfl, RV.tmp rfl, trivial⟩ (fun _ h => List.mem_cons_of_mem _ h) ⟨a51, k52, cs53, rfl, rfl, rfl, o54⟩
set_option maxHeartbeats 4000000 in
set_option maxRecDepth 100000 in
theorem scheme_sums_limits_c {Fs : List Hp} {G : Hp} {x0_0 : Int} {x1_0 : Int} {x2 : Int} {r : ((List Int) × Int)} (hG : G ∈ Fs)  (h : scheme_sums_limits x0_0 x1_0 x2 = some r) : RetS Try.prog 94 #[.agg #[.int .i64 x0_0], .agg #[.int .i64 x1_0], .int .i64 x2] Fs [] [] (fun v bo so => ∃ (oa0 : Option Addr) (ok0 : Nat) (oc0 : List Value), v = .tuple #[.slice oa0 r.1.length ok0, .int .i64 r.2] ∧ bo = [] ∧ so = [.s (.slice oa0 r.1.length ok0) 3 1 r.1.length oc0] ∧ OL (Rep.int .i64) G oc0 r.1) := by
  unfold scheme_sums_limits at h
  try dsimp only at h
  refine RetS.of (vs := [_, _, _]) Try.func94 rfl Try.ntmps94 [(0, _), (1, _), (2, _)] ⟨rfl, rfl, rfl, trivial⟩ rfl hG fun w0 S0 hS0 B0 => ?_
  refine Cov.seq ?_
  refine Cov.region rfl ?_
  refine Cov.box [_] .ro rfl rfl rfl (fun b1 hb1 => ?_)
  refine Cov.box [_] .ro rfl rfl rfl (fun b2 hb2 => ?_)
  refine Cov.q .ro (.assign rfl) rfl ?_
  refine Cov.q .ro (.assign rfl) rfl ?_
  refine Cov.region_end ?_
  refine Cov.seq ?_
  refine Cov.region rfl ?_
  refine Cov.q .ro (.load_own_a 0 [_] rfl rfl ty62 rfl) rfl ?_
  refine Cov.q .ro (.move rfl) rfl ?_
  refine Cov.q .ro (.fieldAddr 0 rfl fl118_0 ty3.sz rfl) rfl ?_
  refine Cov.q .ro (.load_own 1 rfl rfl ty3 rfl) rfl ?_
  obtain ⟨u3, hu3, r4⟩ := bind_some h; clear h
  refine Cov.callS (b1 := []) (b2 := [_, _]) (s1 := []) [_, _, _] [] .ro rfl rfl Try.call96 rfl rfl (parity_Limits_c (G := G) List.mem_cons_self  hu3) rfl (fun v6 bo so h5 => ?_)
  obtain ⟨a8, k9, cs10, rfl, rfl, rfl, o11⟩ := h5
  refine Cov.same (bl' := [_, _]) (sl' := [_]) rfl rfl rfl ?_
  refine Cov.q .ro (.extract rfl rfl) rfl ?_
  refine Cov.q .ro (.extract rfl rfl) rfl ?_
  refine Cov.q .ro (.assign rfl) rfl ?_
  refine Cov.q .ro (.assign rfl) rfl ?_
  refine Cov.region_end ?_
  cases r4
  refine Cov.drop 2 0 [] _ rfl rfl ?_
  refine Cov.retS (c := ⟨94, none⟩) (.inr ⟨_, rfl⟩) [.tmp 6, .tmp 7] [_, _] rfl Try.func94 Try.results94 ⟨RV.tmp rfl, RV.tmp rfl, trivial⟩ (fun _ h => List.mem_cons_of_mem _ h) ⟨a8, k9, cs10, rfl, rfl, rfl, o11⟩
set_option maxHeartbeats 4000000 in
set_option maxRecDepth 100000 in
theorem curve_valid_c {Fs : List Hp} {G : Hp} {x0_0 : Int} {x0_1 : Int} {r : Bool} (hG : G ∈ Fs)  (h : curve_valid (x0_0, x0_1) = some r) : RetS Try.prog 104 #[.agg #[.int .i64 x0_0, .int .i64 x0_1]] Fs [] [] (fun v bo so => v = .bool r ∧ bo = [] ∧ so = []) := by
  unfold curve_valid at h
  try dsimp only at h
  refine RetS.of (vs := [_]) Try.func104 rfl Try.ntmps104 [(0, _)] ⟨rfl, trivial⟩ rfl hG fun w0 S0 hS0 B0 => ?_
  refine Cov.seq ?_
  refine Cov.region rfl ?_
  refine Cov.box [_, _] .ro rfl rfl rfl (fun b1 hb1 => ?_)
  refine Cov.q .ro (.assign rfl) rfl ?_
  refine Cov.region_end ?_
  refine Cov.seq ?_
  refine Cov.region rfl ?_
  refine Cov.q .ro (.fieldAddr 0 rfl fl150_0 ty3.sz rfl) rfl ?_
  refine Cov.q .ro (.load_own 0 rfl rfl ty3 rfl) rfl ?_
  refine Cov.q .ro (.geq rfl rfl) rfl ?_
  refine Cov.q .ro (.move rfl) rfl ?_
  refine Cov.cutR 4 (β := Unit) (fun y => [(10, .bool (decide ((2 ≤ x0_0) ∧ (x0_0 ≤ 10))))]) [(1, _), (2, _)] (fun y => G :: Fs) (fun y => []) [_] (fun y => []) [] (fun y => True) ⟨rfl, rfl, trivial⟩ [0] rfl [] rfl ?_ ?_
  · rintro _ _
    refine Cov.prune [(10, .bool (decide ((2 ≤ x0_0) ∧ (x0_0 ≤ 10)))), (1, _), (2, _)] ⟨rfl, rfl, rfl, trivial⟩ ?_
    refine Cov.same (bl' := [_]) (sl' := []) (Fs' := G :: Fs) rfl rfl rfl ?_
    refine Cov.q .ro (.move rfl) rfl ?_
    refine Cov.cutR 4 (β := Unit) (fun y => [(15, .bool (decide (((2 ≤ x0_0) ∧ (x0_0 ≤ 10)) ∧ (1 ≤ x0_1))))]) [(1, _), (2, _)] (fun y => G :: Fs) (fun y => []) [_] (fun y => []) [] (fun y => True) ⟨rfl, rfl, trivial⟩ [0] rfl [] rfl ?_ ?_
    · rintro _ _
      refine Cov.prune [(15, .bool (decide (((2 ≤ x0_0) ∧ (x0_0 ≤ 10)) ∧ (1 ≤ x0_1)))), (1, _), (2, _)] ⟨rfl, rfl, rfl, trivial⟩ ?_
      refine Cov.same (bl' := [_]) (sl' := []) (Fs' := G :: Fs) rfl rfl rfl ?_
      refine Cov.q .ro (.move rfl) rfl ?_
      refine Cov.cutR 6 (β := Unit) (fun y => [(22, .bool (decide ((((2 ≤ x0_0) ∧ (x0_0 ≤ 10)) ∧ (1 ≤ x0_1)) ∧ (x0_1 < x0_0))))]) [(2, _)] (fun y => G :: Fs) (fun y => []) [_] (fun y => []) [] (fun y => True) ⟨rfl, trivial⟩ [0] rfl [] rfl ?_ ?_
      · rintro _ _
        refine Cov.prune [(22, .bool (decide ((((2 ≤ x0_0) ∧ (x0_0 ≤ 10)) ∧ (1 ≤ x0_1)) ∧ (x0_1 < x0_0)))), (2, _)] ⟨rfl, rfl, trivial⟩ ?_
        refine Cov.same (bl' := [_]) (sl' := []) (Fs' := G :: Fs) rfl rfl rfl ?_
        refine Cov.q .ro (.assign rfl) rfl ?_
        refine Cov.region_end ?_
        cases h
        refine Cov.drop 1 0 [] _ rfl rfl ?_
        refine Cov.retS (c := ⟨104, none⟩) (.inr ⟨_, rfl⟩) [.tmp 2] [_] rfl Try.func104 Try.results104 ⟨RV.tmp rfl, trivial⟩ (fun _ h => List.mem_cons_of_mem _ h) ⟨rfl, rfl, rfl⟩
      · intro hb11
        refine Cov.split 16 rfl (fun c10 => ?_) (fun c10 => ?_)
        · refine Cov.g_on rfl ?_
          refine Cov.q .ro (.fieldAddr 1 rfl fl150_1 ty3.sz rfl) rfl ?_
          refine Cov.g_on rfl ?_
          refine Cov.q .ro (.load_own 0 rfl rfl ty3 rfl) rfl ?_
          refine Cov.g_on rfl ?_
          refine Cov.q .ro (.fieldAddr 0 rfl fl150_0 ty3.sz rfl) rfl ?_
          refine Cov.g_on rfl ?_
          refine Cov.q .ro (.load_own 0 rfl rfl ty3 rfl) rfl ?_
          refine Cov.g_on rfl ?_
          refine Cov.q .ro (.lss rfl rfl) rfl ?_
          refine Cov.q .ro (.pick_t rfl rfl) rfl ?_
          refine Cov.prune _ ?_ (Cov.same rfl rfl rfl (hb11 () trivial))
          exact ⟨dand_t c10, rfl, trivial⟩
        · refine Cov.g_off rfl rfl rfl ?_
          refine Cov.g_off rfl rfl rfl ?_
          refine Cov.g_off rfl rfl rfl ?_
          refine Cov.g_off rfl rfl rfl ?_
          refine Cov.g_off rfl rfl rfl ?_
          refine Cov.q .ro (.pick_f rfl rfl) rfl ?_
          refine Cov.prune _ ?_ (Cov.same rfl rfl rfl (hb11 () trivial))
          exact ⟨dand_f c10, rfl, trivial⟩
    · intro hb7
      refine Cov.split 11 rfl (fun c6 => ?_) (fun c6 => ?_)
      · refine Cov.g_on rfl ?_
        refine Cov.q .ro (.fieldAddr 1 rfl fl150_1 ty3.sz rfl) rfl ?_
        refine Cov.g_on rfl ?_
        refine Cov.q .ro (.load_own 0 rfl rfl ty3 rfl) rfl ?_
        refine Cov.g_on rfl ?_
        refine Cov.q .ro (.geq rfl rfl) rfl ?_
        refine Cov.q .ro (.pick_t rfl rfl) rfl ?_
        refine Cov.prune _ ?_ (Cov.same rfl rfl rfl (hb7 () trivial))
        exact ⟨dand_t c6, rfl, rfl, trivial⟩
      · refine Cov.g_off rfl rfl rfl ?_
        refine Cov.g_off rfl rfl rfl ?_
        refine Cov.g_off rfl rfl rfl ?_
        refine Cov.q .ro (.pick_f rfl rfl) rfl ?_
        refine Cov.prune _ ?_ (Cov.same rfl rfl rfl (hb7 () trivial))
        exact ⟨dand_f c6, rfl, rfl, trivial⟩
  · intro hb3
    refine Cov.split 6 rfl (fun c2 => ?_) (fun c2 => ?_)
    · refine Cov.g_on rfl ?_
      refine Cov.q .ro (.fieldAddr 0 rfl fl150_0 ty3.sz rfl) rfl ?_
      refine Cov.g_on rfl ?_
      refine Cov.q .ro (.load_own 0 rfl rfl ty3 rfl) rfl ?_
      refine Cov.g_on rfl ?_
      refine Cov.q .ro (.leq rfl rfl) rfl ?_
      refine Cov.q .ro (.pick_t rfl rfl) rfl ?_
      refine Cov.prune _ ?_ (Cov.same rfl rfl rfl (hb3 () trivial))
      exact ⟨dand_t c2, rfl, rfl, trivial⟩
    · refine Cov.g_off rfl rfl rfl ?_
      refine Cov.g_off rfl rfl rfl ?_
      refine Cov.g_off rfl rfl rfl ?_
      refine Cov.q .ro (.pick_f rfl rfl) rfl ?_
      refine Cov.prune _ ?_ (Cov.same rfl rfl rfl (hb3 () trivial))
      exact ⟨dand_f c2, rfl, rfl, trivial⟩
set_option maxHeartbeats 4000000 in
set_option maxRecDepth 100000 in
theorem curve_Check_c {Fs : List Hp} {G : Hp} {x0_0 : Int} {x1_0 : Int} {x1_1 : Int} {r : Int} (hG : G ∈ Fs)  (h : curve_Check x0_0 (x1_0, x1_1) = some r) : RetS Try.prog 103 #[.agg #[.int .i64 x0_0], .agg #[.int .i64 x1_0, .int .i64 x1_1]] Fs [] [] (fun v bo so => v = .int .i64 r ∧ bo = [] ∧ so = []) := by
  unfold curve_Check at h
  try dsimp only at h
  refine RetS.of (vs := [_, _]) Try.func103 rfl Try.ntmps103 [(0, _), (1, _)] ⟨rfl, rfl, trivial⟩ rfl hG fun w0 S0 hS0 B0 => ?_
  refine Cov.seq ?_
  refine Cov.region rfl ?_
  refine Cov.box [_] .ro rfl rfl rfl (fun b1 hb1 => ?_)
  refine Cov.box [_, _] .ro rfl rfl rfl (fun b2 hb2 => ?_)
  refine Cov.q .ro (.assign rfl) rfl ?_
  refine Cov.region_end ?_
  refine Cov.seq ?_
  refine Cov.seq ?_
  refine Cov.region rfl ?_
  refine Cov.q .ro (.load_own_a 1 [_] rfl rfl ty62 rfl) rfl ?_
  obtain ⟨u3, hu3, r4⟩ := bind_some h; clear h
  refine Cov.callS (b1 := []) (b2 := [_, _]) (s1 := []) [_] [] .ro rfl rfl Try.call67 rfl rfl (residue_Of_c (G := G) List.mem_cons_self  hu3) rfl (fun v6 bo so h5 => ?_)
  obtain ⟨rfl, rfl, rfl⟩ := h5
  refine Cov.same (bl' := [_, _]) (sl' := []) rfl rfl rfl ?_
  refine Cov.q .ro (.move rfl) rfl ?_
  refine Cov.q .ro (.extract rfl rfl) rfl ?_
  refine Cov.q .ro (.extract rfl rfl) rfl ?_
  refine Cov.q .ro (.assign rfl) rfl ?_
  refine Cov.q .ro (.assign rfl) rfl ?_
  refine Cov.region_end ?_
  refine Cov.seq ?_
  refine Cov.region rfl ?_
  refine Cov.q .ro (.move rfl) rfl ?_
  refine Cov.q .ro (.not rfl) rfl ?_
  refine Cov.region_end ?_
  refine Cov.cond rfl (fun c7 => ?_) (fun c7 => ?_)
  · have r8 := ifT r4 c7; clear r4
    refine Cov.seq ?_
    refine Cov.region rfl ?_
    refine Cov.q .ro (.assign rfl) rfl ?_
    refine Cov.region_end ?_
    refine Cov.prune [(4, _)] ⟨rfl, trivial⟩ ?_
    cases r8
    refine Cov.drop 2 0 [] _ rfl rfl ?_
    refine Cov.retS (c := ⟨103, none⟩) (.inr ⟨_, rfl⟩) [.tmp 4] [_] rfl Try.func103 Try.results103 ⟨RV.tmp rfl, trivial⟩ (fun _ h => List.mem_cons_of_mem _ h) ⟨rfl, rfl, rfl⟩
  · have r9 := ifBF r4 c7; clear r4
    refine Cov.skip ?_
    refine Cov.seq ?_
    refine Cov.seq ?_
    refine Cov.region rfl ?_
    refine Cov.q .ro (.load_own_a 0 [_, _] rfl rfl ty150 rfl) rfl ?_
    obtain ⟨u10, hu10, r11⟩ := bind_some r9; clear r9
    refine Cov.callS (b1 := []) (b2 := [_, _]) (s1 := []) [_] [] .ro rfl rfl Try.call104 rfl rfl (curve_valid_c (G := G) List.mem_cons_self  hu10) rfl (fun v13 bo so h12 => ?_)
    obtain ⟨rfl, rfl, rfl⟩ := h12
    refine Cov.same (bl' := [_, _]) (sl' := []) rfl rfl rfl ?_
    refine Cov.q .ro (.not rfl) rfl ?_
    refine Cov.q .ro (.move rfl) rfl ?_
    refine Cov.cutR 6 (β := Unit) (fun y => [(23, .bool (decide (((!u10) = true) ∨ (x0_0 ≤ x1_0))))]) [] (fun y => G :: Fs) (fun y => []) [_, _] (fun y => []) [] (fun y => True) trivial [0, 1] rfl [] rfl ?_ ?_
    · rintro _ _
      refine Cov.prune [(23, .bool (decide (((!u10) = true) ∨ (x0_0 ≤ x1_0))))] ⟨rfl, trivial⟩ ?_
      refine Cov.same (bl' := [_, _]) (sl' := []) (Fs' := G :: Fs) rfl rfl rfl ?_
      refine Cov.region_end ?_
      refine Cov.cond_dec rfl (fun c18 => ?_) (fun c18 => ?_)
      · have r19 := ifT r11 c18; clear r11
        refine Cov.seq ?_
        refine Cov.region rfl ?_
        refine Cov.q .ro (.assign rfl) rfl ?_
        refine Cov.region_end ?_
        cases r19
        refine Cov.drop 2 0 [] _ rfl rfl ?_
        refine Cov.retS (c := ⟨103, none⟩) (.inr ⟨_, rfl⟩) [.tmp 4] [_] rfl Try.func103 Try.results103 ⟨RV.tmp rfl, trivial⟩ (fun _ h => List.mem_cons_of_mem _ h) ⟨rfl, rfl, rfl⟩
      · have r20 := ifF r11 c18; clear r11
        refine Cov.skip ?_
        refine Cov.seq ?_
        refine Cov.region rfl ?_
        refine Cov.q .ro (.assign rfl) rfl ?_
        refine Cov.region_end ?_
        cases r20
        refine Cov.drop 2 0 [] _ rfl rfl ?_
        refine Cov.retS (c := ⟨103, none⟩) (.inr ⟨_, rfl⟩) [.tmp 4] [_] rfl Try.func103 Try.results103 ⟨RV.tmp rfl, trivial⟩ (fun _ h => List.mem_cons_of_mem _ h) ⟨rfl, rfl, rfl⟩
    · intro hb15
      refine Cov.split_b 17 rfl (fun c14 => ?_) (fun c14 => ?_)
      · refine Cov.g_off rfl rfl rfl ?_
        refine Cov.g_off rfl rfl rfl ?_
        refine Cov.g_off rfl rfl rfl ?_
        refine Cov.g_off rfl rfl rfl ?_
        refine Cov.g_off rfl rfl rfl ?_
        refine Cov.q .ro (.pick_t rfl rfl) rfl ?_
        refine Cov.prune _ ?_ (Cov.same rfl rfl rfl (hb15 () trivial))
        exact ⟨dor_t c14, trivial⟩
      · refine Cov.g_on rfl ?_
        refine Cov.q .ro (.fieldAddr 0 rfl fl150_0 ty3.sz rfl) rfl ?_
        refine Cov.g_on rfl ?_
        refine Cov.q .ro (.load_own 0 rfl rfl ty3 rfl) rfl ?_
        refine Cov.g_on rfl ?_
        refine Cov.q .ro (.fieldAddr 0 rfl fl62_0 ty3.sz rfl) rfl ?_
        refine Cov.g_on rfl ?_
        refine Cov.q .ro (.load_own 1 rfl rfl ty3 rfl) rfl ?_
        refine Cov.g_on rfl ?_
        refine Cov.q .ro (.geq rfl rfl) rfl ?_
        refine Cov.q .ro (.pick_f rfl rfl) rfl ?_
        refine Cov.prune _ ?_ (Cov.same rfl rfl rfl (hb15 () trivial))
        exact ⟨dor_f (bne_of c14), trivial⟩
set_option maxHeartbeats 4000000 in
set_option maxRecDepth 100000 in
theorem curve_check_c {Fs : List Hp} {G : Hp} {x0_0 : Int} {x1_0 : Int} {x1_1 : Int} {x2 : Int} {r : Int} (hG : G ∈ Fs)  (h : curve_check x0_0 (x1_0, x1_1) x2 = some r) : RetS Try.prog 102 #[.agg #[.int .i64 x0_0], .agg #[.int .i64 x1_0, .int .i64 x1_1], .int .i64 x2] Fs [] [] (fun v bo so => v = .int .i64 r ∧ bo = [] ∧ so = []) := by
  unfold curve_check at h
  try dsimp only at h
  refine RetS.of (vs := [_, _, _]) Try.func102 rfl Try.ntmps102 [(0, _), (1, _), (2, _)] ⟨rfl, rfl, rfl, trivial⟩ rfl hG fun w0 S0 hS0 B0 => ?_
  refine Cov.seq ?_
  refine Cov.region rfl ?_
  refine Cov.box [_] .ro rfl rfl rfl (fun b1 hb1 => ?_)
  refine Cov.box [_, _] .ro rfl rfl rfl (fun b2 hb2 => ?_)
  refine Cov.q .ro (.assign rfl) rfl ?_
  refine Cov.region_end ?_
  refine Cov.seq ?_
  refine Cov.region rfl ?_
  refine Cov.q .ro (.load_own_a 1 [_] rfl rfl ty62 rfl) rfl ?_
  refine Cov.q .ro (.load_own_a 0 [_, _] rfl rfl ty150 rfl) rfl ?_
  obtain ⟨u3, hu3, r4⟩ := bind_some h; clear h
  refine Cov.callS (b1 := []) (b2 := [_, _]) (s1 := []) [_, _] [] .ro rfl rfl Try.call103 rfl rfl (curve_Check_c (G := G) List.mem_cons_self  hu3) rfl (fun v6 bo so h5 => ?_)
  obtain ⟨rfl, rfl, rfl⟩ := h5
  refine Cov.same (bl' := [_, _]) (sl' := []) rfl rfl rfl ?_
  refine Cov.q .ro (.assign rfl) rfl ?_
  refine Cov.region_end ?_
  refine Cov.seq ?_
  refine Cov.seq ?_
  refine Cov.region rfl ?_
  refine Cov.q .ro (.move rfl) rfl ?_
  refine Cov.q .ro (.eql rfl rfl) rfl ?_
  refine Cov.q .ro (.move rfl) rfl ?_
  refine Cov.cutR 7 (β := Unit) (fun y => [(20, .bool (decide ((u3 = 0) ∧ ((x2 < 1) ∨ (1024 < x2)))))]) [(7, _)] (fun y => G :: Fs) (fun y => []) [_, _] (fun y => []) [] (fun y => True) ⟨rfl, trivial⟩ [0, 1] rfl [] rfl ?_ ?_
  · rintro _ _
    refine Cov.prune [(20, .bool (decide ((u3 = 0) ∧ ((x2 < 1) ∨ (1024 < x2))))), (7, _)] ⟨rfl, rfl, trivial⟩ ?_
    refine Cov.same (bl' := [_, _]) (sl' := []) (Fs' := G :: Fs) rfl rfl rfl ?_
    refine Cov.region_end ?_
    refine Cov.cond_dec rfl (fun c15 => ?_) (fun c15 => ?_)
    · have r16 := ifT r4 c15; clear r4
      refine Cov.seq ?_
      refine Cov.region rfl ?_
      refine Cov.q .ro (.assign rfl) rfl ?_
      refine Cov.region_end ?_
      cases r16
      refine Cov.drop 2 0 [] _ rfl rfl ?_
      refine Cov.retS (c := ⟨102, none⟩) (.inr ⟨_, rfl⟩) [.tmp 6] [_] rfl Try.func102 Try.results102 ⟨RV.tmp rfl, trivial⟩ (fun _ h => List.mem_cons_of_mem _ h) ⟨rfl, rfl, rfl⟩
    · have r17 := ifF r4 c15; clear r4
      refine Cov.skip ?_
      refine Cov.seq ?_
      refine Cov.region rfl ?_
      refine Cov.q .ro (.move rfl) rfl ?_
      refine Cov.q .ro (.assign rfl) rfl ?_
      refine Cov.region_end ?_
      cases r17
      refine Cov.drop 2 0 [] _ rfl rfl ?_
      refine Cov.retS (c := ⟨102, none⟩) (.inr ⟨_, rfl⟩) [.tmp 6] [_] rfl Try.func102 Try.results102 ⟨RV.tmp rfl, trivial⟩ (fun _ h => List.mem_cons_of_mem _ h) ⟨rfl, rfl, rfl⟩
  · intro hb12
    refine Cov.split 13 rfl (fun c11 => ?_) (fun c11 => ?_)
    · refine Cov.g_on rfl ?_
      refine Cov.q .ro (.move rfl) rfl ?_
      refine Cov.g_on rfl ?_
      refine Cov.q .ro (.lss rfl rfl) rfl ?_
      refine Cov.g_on rfl ?_
      refine Cov.q .ro (.move rfl) rfl ?_
      refine Cov.cutR 3 (β := Unit) (fun y => [(19, .bool (decide ((x2 < 1) ∨ (1024 < x2))))]) [(7, _), (13, _)] (fun y => G :: Fs) (fun y => []) [_, _] (fun y => []) [] (fun y => True) ⟨rfl, rfl, trivial⟩ [0, 1] rfl [] rfl ?_ ?_
      · rintro _ _
        refine Cov.prune [(19, .bool (decide ((x2 < 1) ∨ (1024 < x2)))), (7, _), (13, _)] ⟨rfl, rfl, rfl, trivial⟩ ?_
        refine Cov.same (bl' := [_, _]) (sl' := []) (Fs' := G :: Fs) rfl rfl rfl ?_
        refine Cov.q .ro (.pick_t rfl rfl) rfl ?_
        refine Cov.prune _ ?_ (Cov.same rfl rfl rfl (hb12 () trivial))
        exact ⟨dand_t c11, rfl, trivial⟩
      · intro hb19
        refine Cov.split 16 rfl (fun c18 => ?_) (fun c18 => ?_)
        · refine Cov.g_off rfl rfl rfl ?_
          refine Cov.g_off rfl rfl rfl ?_
          refine Cov.g_on rfl ?_
          refine Cov.q .ro (.pick_t rfl rfl) rfl ?_
          refine Cov.prune _ ?_ (Cov.same rfl rfl rfl (hb19 () trivial))
          exact ⟨dor_t c18, rfl, rfl, trivial⟩
        · refine Cov.g_on rfl ?_
          refine Cov.q .ro (.move rfl) rfl ?_
          refine Cov.g_on rfl ?_
          refine Cov.q .ro (.gtr rfl rfl) rfl ?_
          refine Cov.g_on rfl ?_
          refine Cov.q .ro (.pick_f rfl rfl) rfl ?_
          refine Cov.prune _ ?_ (Cov.same rfl rfl rfl (hb19 () trivial))
          exact ⟨dor_f c18, rfl, rfl, trivial⟩
    · refine Cov.g_off rfl rfl rfl ?_
      refine Cov.g_off rfl rfl rfl ?_
      refine Cov.g_off rfl rfl rfl ?_
      refine Cov.gu_off rfl rfl ?_
      refine Cov.gu_off rfl rfl ?_
      refine Cov.g_off rfl rfl rfl ?_
      refine Cov.q .ro (.pick_f rfl rfl) rfl ?_
      refine Cov.prune _ ?_ (Cov.same rfl rfl rfl (hb12 () trivial))
      exact ⟨dand_f c11, rfl, trivial⟩
set_option maxHeartbeats 4000000 in
set_option maxRecDepth 100000 in
theorem curve_Limits_c {Fs : List Hp} {G : Hp} {x0_0 : Int} {x1_0 : Int} {x1_1 : Int} {x2 : Int} {r : ((List Int) × Int)} (hG : G ∈ Fs)  (h : curve_Limits x0_0 (x1_0, x1_1) x2 = some r) : RetS Try.prog 101 #[.agg #[.int .i64 x0_0], .agg #[.int .i64 x1_0, .int .i64 x1_1], .int .i64 x2] Fs [] [] (fun v bo so => ∃ (oa0 : Option Addr) (ok0 : Nat) (oc0 : List Value), v = .tuple #[.slice oa0 r.1.length ok0, .int .i64 r.2] ∧ bo = [] ∧ so = [.s (.slice oa0 r.1.length ok0) 3 1 r.1.length oc0] ∧ OL (Rep.int .i64) G oc0 r.1) := by
  unfold curve_Limits at h
  try dsimp only at h
  refine RetS.of (vs := [_, _, _]) Try.func101 rfl Try.ntmps101 [(0, _), (1, _), (2, _)] ⟨rfl, rfl, rfl, trivial⟩ rfl hG fun w0 S0 hS0 B0 => ?_
  refine Cov.seq ?_
  refine Cov.region rfl ?_
  refine Cov.box [_] .ro rfl rfl rfl (fun b1 hb1 => ?_)
  refine Cov.box [_, _] .ro rfl rfl rfl (fun b2 hb2 => ?_)
  refine Cov.q .ro (.assign rfl) rfl ?_
  refine Cov.q .ro (.assign rfl) rfl ?_
  refine Cov.region_end ?_
  refine Cov.seq ?_
  refine Cov.seq ?_
  refine Cov.region rfl ?_
  refine Cov.q .ro (.load_own_a 1 [_] rfl rfl ty62 rfl) rfl ?_
  refine Cov.q .ro (.load_own_a 0 [_, _] rfl rfl ty150 rfl) rfl ?_
  refine Cov.q .ro (.move rfl) rfl ?_
  obtain ⟨u3, hu3, r4⟩ := bind_some h; clear h
  refine Cov.callS (b1 := []) (b2 := [_, _]) (s1 := []) [_, _, _] [] .ro rfl rfl Try.call102 rfl rfl (curve_check_c (G := G) List.mem_cons_self  hu3) rfl (fun v6 bo so h5 => ?_)
  obtain ⟨rfl, rfl, rfl⟩ := h5
  refine Cov.same (bl' := [_, _]) (sl' := []) rfl rfl rfl ?_
  refine Cov.q .ro (.assign rfl) rfl ?_
  refine Cov.region_end ?_
  refine Cov.seq ?_
  refine Cov.region rfl ?_
  refine Cov.q .ro (.move rfl) rfl ?_
  refine Cov.q .ro (.neq rfl rfl) rfl ?_
  refine Cov.region_end ?_
  refine Cov.cond_dec rfl (fun c7 => ?_) (fun c7 => ?_)
  · have r8 := ifT r4 c7; clear r4
    refine Cov.seq ?_
    refine Cov.region rfl ?_
    refine Cov.q .ro (.move rfl) rfl ?_
    refine Cov.q .ro (.assign rfl) rfl ?_
    refine Cov.q .ro (.assign rfl) rfl ?_
    refine Cov.region_end ?_
    refine Cov.prune [(6, _), (7, _)] ⟨rfl, rfl, trivial⟩ ?_
    refine Cov.own_nil 3 1 ?_
    cases r8
    refine Cov.drop 2 0 [] _ rfl rfl ?_
    refine Cov.retS (c := ⟨101, none⟩) (.inr ⟨_, rfl⟩) [.tmp 6, .tmp 7] [_, _] rfl Try.func101 Try.results101 ⟨RV.tmp rfl, RV.tmp rfl, trivial⟩ (fun _ h => List.mem_cons_of_mem _ h) ⟨none, 0, [], rfl, rfl, rfl, (OL.nil (Rp' := (Rep.int .i64)))⟩
  · have r10 := ifF r4 c7; clear r4
    refine Cov.skip ?_
    refine Cov.seq ?_
    refine Cov.region rfl ?_
    refine Cov.q .ro (.assign rfl) rfl ?_
    refine Cov.region_end ?_
    refine Cov.seq ?_
    refine Cov.seq ?_
    refine Cov.region rfl ?_
    refine Cov.q .ro (.move rfl) rfl ?_
    refine Cov.q .ro (.fieldAddr 1 rfl fl150_1 ty3.sz rfl) rfl ?_
    refine Cov.q .ro (.load_own 0 rfl rfl ty3 rfl) rfl ?_
    refine Cov.q .ro (.mulw rfl rfl) rfl ?_
    refine Cov.q .ro (.move rfl) rfl ?_
    refine Cov.region_end ?_
    refine Cov.prune [(3, _), (9, _), (20, _), (21, _)] ⟨rfl, rfl, rfl, rfl, trivial⟩ ?_
    refine Cov.block ?_
    refine Cov.own_nil 3 1 ?_
    refine Cov.loop2 (α := Nat × List Int × Option Addr × Nat × List Value × Int) (fun y => [(9, .slice y.2.2.1 y.2.1.length y.2.2.2.1), (21, .int .i64 y.2.2.2.2.2)]) [(3, _), (20, _)] (fun y => []) (fun y => []) [_, _] (fun y => [.s (.slice y.2.2.1 y.2.1.length y.2.2.2.1) 3 1 y.2.1.length y.2.2.2.2.1]) [] (fun y => OL (Rep.int .i64) G y.2.2.2.2.1 y.2.1 ∧ curve_Limits_L1 (w64 (x2 * x1_1)) x0_0 y.1 y.2.1 y.2.2.2.2.2 = some r) (fun y => y.1) (big, ([] : List Int), none, 0, [], 0) ⟨(OL.nil (Rp' := (Rep.int .i64))), r10⟩ ⟨rfl, rfl, rfl, rfl, trivial⟩ rfl rfl rfl (fun y hI hb63 => ?_)
    obtain ⟨n53, v55, a56, k57, cs58, v61⟩ := y
    obtain ⟨o59, r62⟩ := hI
    try dsimp only at o59 r62
    refine Cov.prune [(9, .slice a56 v55.length k57), (21, .int .i64 v61), (3, _), (20, _)] ⟨rfl, rfl, rfl, rfl, trivial⟩ ?_
    refine Cov.same (bl' := [_, _]) (sl' := [.s (.slice a56 v55.length k57) 3 1 v55.length cs58]) (Fs' := G :: Fs) rfl rfl rfl ?_
    obtain ⟨m69, rfl⟩ : ∃ m, n53 = m + 1 := by cases n53 with | zero => exact absurd (show (none : Option _) = some _ from r62) (by simp) | succ m => exact ⟨m, rfl⟩
    have r68 : curve_Limits_B1 (w64 (x2 * x1_1)) x0_0 (curve_Limits_L1 (w64 (x2 * x1_1)) x0_0 m69) v55 v61 = some r := r62; clear r62; unfold curve_Limits_B1 at r68; try dsimp only at r68
    refine Cov.seq ?_
    refine Cov.region rfl ?_
    refine Cov.q .ro (.lss rfl rfl) rfl ?_
    refine Cov.region_end ?_
    refine Cov.seq ?_
    refine Cov.cond_dec rfl (fun c70 => ?_) (fun c70 => ?_)
    · have r71 := ifT r68 c70; clear r68
      refine Cov.skip ?_
      refine Cov.seq ?_
      refine Cov.block ?_
      refine Cov.region rfl ?_
      refine Cov.q .ro (.move rfl) rfl ?_
      refine Cov.q .ro (.fieldAddr 0 rfl fl62_0 ty3.sz rfl) rfl ?_
      refine Cov.q .ro (.load_own 1 rfl rfl ty3 rfl) rfl ?_
      refine Cov.lit [_] [(0, _)] .ro sl35 ty3 rfl rfl rfl rfl rfl rfl (fun b72 hb72 => ?_)
      have o73 : OL (Rep.int .i64) G [.int .i64 x0_0] ([x0_0] : List Int) := ((OL.cons rfl (Rep.intI .i64 x0_0) (OL.nil (Rp' := (Rep.int .i64)))) :)
      refine Cov.reval 26 (n' := ([x0_0] : List Int).length) rfl rfl ?_
      obtain ⟨u79, hu79, r80⟩ := bind_some r71; clear r71
      refine Cov.appO (Q := (Rep.int .i64)) 0 .ro sl35 ty3 rfl rfl rfl rfl rfl rfl o59 o73 rfl rfl rfl B0 hu79 rfl (fun a75 k76 cs77 o78 => ?_)
      refine Cov.q .ro (.assign rfl) rfl ?_
      refine Cov.region_end ?_
      refine Cov.inBlock ?_
      refine Cov.region rfl ?_
      refine Cov.q .ro (.addw rfl rfl) rfl ?_
      refine Cov.q .ro (.move rfl) rfl ?_
      refine Cov.region_end ?_
      refine Cov.prune _ ?_ (Cov.same rfl rfl rfl (hb63 (m69, u79, a75, k76, cs77, (w64 (v61 + 1))) ⟨o78, r80⟩ (Nat.lt_succ_self _)))
      exact ⟨rfl, rfl, rfl, rfl, trivial⟩
    · have r82 := ifF r68 c70; clear r68
      refine Cov.exit rfl ?_
      refine Cov.seq ?_
      refine Cov.region rfl ?_
      refine Cov.q .ro (.move rfl) rfl ?_
      refine Cov.q .ro (.assign rfl) rfl ?_
      refine Cov.q .ro (.assign rfl) rfl ?_
      refine Cov.region_end ?_
      cases r82
      refine Cov.drop 2 0 [] _ rfl rfl ?_
      refine Cov.retS (c := ⟨101, none⟩) (.inr ⟨_, rfl⟩) [.tmp 6, .tmp 7] [_, _] rfl Try.func101 Try.results101 ⟨RV.tmp rfl, RV.tmp rfl, trivial⟩ (fun _ h => List.mem_cons_of_mem _ h) ⟨a56, k57, cs58, rfl, rfl, rfl, o59⟩
set_option maxHeartbeats 4000000 in
set_option maxRecDepth 100000 in
theorem scheme_curves_limits_c {Fs : List Hp} {G : Hp} {x0_0 : Int} {x0_1 : Int} {x1_0 : Int} {x2 : Int} {r : ((List Int) × Int)} (hG : G ∈ Fs)  (h : scheme_curves_limits (x0_0, x0_1) x1_0 x2 = some r) : RetS Try.prog 99 #[.agg #[.int .i64 x0_0, .int .i64 x0_1], .agg #[.int .i64 x1_0], .int .i64 x2] Fs [] [] (fun v bo so => ∃ (oa0 : Option Addr) (ok0 : Nat) (oc0 : List Value), v = .tuple #[.slice oa0 r.1.length ok0, .int .i64 r.2] ∧ bo = [] ∧ so = [.s (.slice oa0 r.1.length ok0) 3 1 r.1.length oc0] ∧ OL (Rep.int .i64) G oc0 r.1) := by
  unfold scheme_curves_limits at h
  try dsimp only at h
  refine RetS.of (vs := [_, _, _]) Try.func99 rfl Try.ntmps99 [(0, _), (1, _), (2, _)] ⟨rfl, rfl, rfl, trivial⟩ rfl hG fun w0 S0 hS0 B0 => ?_
  refine Cov.seq ?_
  refine Cov.region rfl ?_
  refine Cov.box [_, _] .ro rfl rfl rfl (fun b1 hb1 => ?_)
  refine Cov.box [_] .ro rfl rfl rfl (fun b2 hb2 => ?_)
  refine Cov.q .ro (.assign rfl) rfl ?_
  refine Cov.q .ro (.assign rfl) rfl ?_
  refine Cov.region_end ?_
  refine Cov.seq ?_
  refine Cov.region rfl ?_
  refine Cov.q .ro (.load_own_a 0 [_] rfl rfl ty62 rfl) rfl ?_
  refine Cov.q .ro (.load_own_a 1 [_, _] rfl rfl ty120 rfl) rfl ?_
  refine Cov.q .ro (.move rfl) rfl ?_
  obtain ⟨u3, hu3, r4⟩ := bind_some h; clear h
  refine Cov.callS (b1 := []) (b2 := [_, _]) (s1 := []) [_, _, _] [] .ro rfl rfl Try.call101 rfl rfl (curve_Limits_c (G := G) List.mem_cons_self  hu3) rfl (fun v6 bo so h5 => ?_)
  obtain ⟨a8, k9, cs10, rfl, rfl, rfl, o11⟩ := h5
  refine Cov.same (bl' := [_, _]) (sl' := [_]) rfl rfl rfl ?_
  refine Cov.q .ro (.extract rfl rfl) rfl ?_
  refine Cov.q .ro (.extract rfl rfl) rfl ?_
  refine Cov.q .ro (.assign rfl) rfl ?_
  refine Cov.q .ro (.assign rfl) rfl ?_
  refine Cov.region_end ?_
  cases r4
  refine Cov.drop 2 0 [] _ rfl rfl ?_
  refine Cov.retS (c := ⟨99, none⟩) (.inr ⟨_, rfl⟩) [.tmp 6, .tmp 7] [_, _] rfl Try.func99 Try.results99 ⟨RV.tmp rfl, RV.tmp rfl, trivial⟩ (fun _ h => List.mem_cons_of_mem _ h) ⟨a8, k9, cs10, rfl, rfl, rfl, o11⟩
set_option maxHeartbeats 4000000 in
set_option maxRecDepth 100000 in
theorem scheme_Limits_c {Fs : List Hp} {G : Hp} {x0_0 : Int} {x0_1 : Int} {x0_2 : Int} {x0_3 : Int} {x1_0 : Int} {x2 : Int} {r : ((List Int) × Int)} (hG : G ∈ Fs)  (h : scheme_Limits (x0_0, x0_1, x0_2, x0_3) x1_0 x2 = some r) : RetS Try.prog 53 #[.agg #[.int .i64 x0_0, .int .i64 x0_1, .int .i64 x0_2, .int .i64 x0_3], .agg #[.int .i64 x1_0], .int .i64 x2] Fs [] [] (fun v bo so => ∃ (oa0 : Option Addr) (ok0 : Nat) (oc0 : List Value), v = .tuple #[.slice oa0 r.1.length ok0, .int .i64 r.2] ∧ bo = [] ∧ so = [.s (.slice oa0 r.1.length ok0) 3 1 r.1.length oc0] ∧ OL (Rep.int .i64) G oc0 r.1) := by
  unfold scheme_Limits at h
  try dsimp only at h
  refine RetS.of (vs := [_, _, _]) Try.func53 rfl Try.ntmps53 [(0, _), (1, _), (2, _)] ⟨rfl, rfl, rfl, trivial⟩ rfl hG fun w0 S0 hS0 B0 => ?_
  refine Cov.seq ?_
  refine Cov.region rfl ?_
  refine Cov.box [_, _, _, _] .ro rfl rfl rfl (fun b1 hb1 => ?_)
  refine Cov.box [_] .ro rfl rfl rfl (fun b2 hb2 => ?_)
  refine Cov.q .ro (.assign rfl) rfl ?_
  refine Cov.q .ro (.assign rfl) rfl ?_
  refine Cov.region_end ?_
  refine Cov.seq ?_
  refine Cov.seq ?_
  refine Cov.region rfl ?_
  refine Cov.q .ro (.load_own_a 1 [_, _, _, _] rfl rfl ty46 rfl) rfl ?_
  refine Cov.q .ro (.load_own_a 0 [_] rfl rfl ty62 rfl) rfl ?_
  refine Cov.q .ro (.move rfl) rfl ?_
  obtain ⟨u3, hu3, r4⟩ := bind_some h; clear h
  refine Cov.callS (b1 := []) (b2 := [_, _]) (s1 := []) [_, _, _] [] .ro rfl rfl Try.call61 rfl rfl (scheme_look_c (G := G) List.mem_cons_self  hu3) rfl (fun v6 bo so h5 => ?_)
  obtain ⟨rfl, rfl, rfl⟩ := h5
  refine Cov.same (bl' := [_, _]) (sl' := []) rfl rfl rfl ?_
  refine Cov.q .ro (.assign rfl) rfl ?_
  refine Cov.region_end ?_
  refine Cov.seq ?_
  refine Cov.region rfl ?_
  refine Cov.q .ro (.move rfl) rfl ?_
  refine Cov.q .ro (.neq rfl rfl) rfl ?_
  refine Cov.region_end ?_
  refine Cov.cond_dec rfl (fun c7 => ?_) (fun c7 => ?_)
  · have r8 := ifT r4 c7; clear r4
    refine Cov.seq ?_
    refine Cov.region rfl ?_
    refine Cov.q .ro (.move rfl) rfl ?_
    refine Cov.q .ro (.assign rfl) rfl ?_
    refine Cov.q .ro (.assign rfl) rfl ?_
    refine Cov.region_end ?_
    refine Cov.prune [(6, _), (7, _)] ⟨rfl, rfl, trivial⟩ ?_
    refine Cov.own_nil 3 1 ?_
    cases r8
    refine Cov.drop 2 0 [] _ rfl rfl ?_
    refine Cov.retS (c := ⟨53, none⟩) (.inr ⟨_, rfl⟩) [.tmp 6, .tmp 7] [_, _] rfl Try.func53 Try.results53 ⟨RV.tmp rfl, RV.tmp rfl, trivial⟩ (fun _ h => List.mem_cons_of_mem _ h) ⟨none, 0, [], rfl, rfl, rfl, (OL.nil (Rp' := (Rep.int .i64)))⟩
  · have r10 := ifF r4 c7; clear r4
    refine Cov.skip ?_
    refine Cov.seq ?_
    refine Cov.drawL (.q 0 (.q 2 (.q 3 (.e 1 1 (.e 4 1 (.q 5 (.q 6 (.q 7 (.q 8 .nil))))))))) [_, _] (by kernel_rfl) (by kernel_rfl) (pick_mem [0, 1] rfl) ?_
    refine Cov.dq (.load_own_a 1 [_, _, _, _] rfl rfl ty46 rfl) rfl ?_
    refine Cov.dq (.load_own_a 0 [_] rfl rfl ty62 rfl) rfl ?_
    refine Cov.dq (.move rfl) rfl ?_
    obtain ⟨u11, hu11, r12⟩ := bind_some r10; clear r10
    refine Cov.callS (b1 := []) (b2 := [_, _]) (s1 := []) [_] [] .d1 rfl rfl Try.call62 rfl rfl (scheme_kindOf_c (G := G) List.mem_cons_self  hu11) rfl (fun v14 bo so h13 => ?_)
    obtain ⟨rfl, rfl, rfl⟩ := h13
    refine Cov.same (bl' := [_, _]) (sl' := []) rfl rfl rfl ?_
    refine Cov.clsL (HpLe.refl _) (pick_mem [0, 1] rfl) ?_
    cases u11 with
    | inl w15 =>
      try dsimp only at r12
      refine Cov.viaI (F := 94) (t := 118) (v := .agg #[.int .i64 w15]) .d1 rfl (fun w => by kernel_rfl) (fun K17 hs18 => ?_)
      obtain ⟨u19, hu19, r20⟩ := bind_some r12; clear r12
      refine Cov.callS (b1 := []) (b2 := [_, _]) (s1 := []) [_, _, _] [] hs18 rfl rfl Try.call94 rfl rfl (scheme_sums_limits_c (G := G) List.mem_cons_self  hu19) rfl (fun v22 bo so h21 => ?_)
      obtain ⟨a24, k25, cs26, rfl, rfl, rfl, o27⟩ := h21
      refine Cov.same (bl' := [_, _]) (sl' := [_]) rfl rfl rfl ?_
      refine Cov.clsL (HpLe.refl _) (pick_mem [0, 1] rfl) ?_
      refine Cov.dq (.extract rfl rfl) rfl ?_
      refine Cov.dq (.extract rfl rfl) rfl ?_
      refine Cov.dq (.assign rfl) rfl ?_
      refine Cov.dq (.assign rfl) rfl ?_
      refine Cov.draw_end ?_
      refine Cov.prune [(6, _), (7, _)] ⟨rfl, rfl, trivial⟩ ?_
      cases r20
      refine Cov.drop 2 0 [] _ rfl rfl ?_
      refine Cov.retS (c := ⟨53, none⟩) (.inr ⟨_, rfl⟩) [.tmp 6, .tmp 7] [_, _] rfl Try.func53 Try.results53 ⟨RV.tmp rfl, RV.tmp rfl, trivial⟩ (fun _ h => List.mem_cons_of_mem _ h) ⟨a24, k25, cs26, rfl, rfl, rfl, o27⟩
    | inr w16 =>
      cases w16 with
      | inl w28 =>
        try dsimp only at r12
        refine Cov.viaI (F := 99) (t := 120) (v := .agg #[.int .i64 w28.1, .int .i64 w28.2]) .d1 rfl (fun w => by kernel_rfl) (fun K30 hs31 => ?_)
        obtain ⟨u32, hu32, r33⟩ := bind_some r12; clear r12
        refine Cov.callS (b1 := []) (b2 := [_, _]) (s1 := []) [_, _, _] [] hs31 rfl rfl Try.call99 rfl rfl (scheme_curves_limits_c (G := G) List.mem_cons_self  hu32) rfl (fun v35 bo so h34 => ?_)
        obtain ⟨a37, k38, cs39, rfl, rfl, rfl, o40⟩ := h34
        refine Cov.same (bl' := [_, _]) (sl' := [_]) rfl rfl rfl ?_
        refine Cov.clsL (HpLe.refl _) (pick_mem [0, 1] rfl) ?_
        refine Cov.dq (.extract rfl rfl) rfl ?_
        refine Cov.dq (.extract rfl rfl) rfl ?_
        refine Cov.dq (.assign rfl) rfl ?_
        refine Cov.dq (.assign rfl) rfl ?_
        refine Cov.draw_end ?_
        refine Cov.prune [(6, _), (7, _)] ⟨rfl, rfl, trivial⟩ ?_
        cases r33
        refine Cov.drop 2 0 [] _ rfl rfl ?_
        refine Cov.retS (c := ⟨53, none⟩) (.inr ⟨_, rfl⟩) [.tmp 6, .tmp 7] [_, _] rfl Try.func53 Try.results53 ⟨RV.tmp rfl, RV.tmp rfl, trivial⟩ (fun _ h => List.mem_cons_of_mem _ h) ⟨a37, k38, cs39, rfl, rfl, rfl, o40⟩
      | inr w29 =>
        try dsimp only at r12
        refine Cov.viaI (F := 87) (t := 111) (v := .agg #[.int .i64 w29.1, .int .i64 w29.2.1, .int .i64 w29.2.2]) .d1 rfl (fun w => by kernel_rfl) (fun K43 hs44 => ?_)
        obtain ⟨u45, hu45, r46⟩ := bind_some r12; clear r12
        refine Cov.callS (b1 := []) (b2 := [_, _]) (s1 := []) [_, _, _] [] hs44 rfl rfl Try.call87 rfl rfl (scheme_groups_limits_c (G := G) List.mem_cons_self  hu45) rfl (fun v48 bo so h47 => ?_)
        obtain ⟨a50, k51, cs52, rfl, rfl, rfl, o53⟩ := h47
        refine Cov.same (bl' := [_, _]) (sl' := [_]) rfl rfl rfl ?_
        refine Cov.clsL (HpLe.refl _) (pick_mem [0, 1] rfl) ?_
        refine Cov.dq (.extract rfl rfl) rfl ?_
        refine Cov.dq (.extract rfl rfl) rfl ?_
        refine Cov.dq (.assign rfl) rfl ?_
        refine Cov.dq (.assign rfl) rfl ?_
        refine Cov.draw_end ?_
        refine Cov.prune [(6, _), (7, _)] ⟨rfl, rfl, trivial⟩ ?_
        cases r46
        refine Cov.drop 2 0 [] _ rfl rfl ?_
        refine Cov.retS (c := ⟨53, none⟩) (.inr ⟨_, rfl⟩) [.tmp 6, .tmp 7] [_, _] rfl Try.func53 Try.results53 ⟨RV.tmp rfl, RV.tmp rfl, trivial⟩ (fun _ h => List.mem_cons_of_mem _ h) ⟨a50, k51, cs52, rfl, rfl, rfl, o53⟩
set_option maxHeartbeats 4000000 in
set_option maxRecDepth 100000 in
theorem math_bits_Mul64_c {Fs : List Hp} {G : Hp} {x0 : Int} {x1 : Int} {r : (Int × Int)} (hG : G ∈ Fs)  (h : math_bits_Mul64 x0 x1 = some r) : RetS Try.prog 69 #[.int .u64 x0, .int .u64 x1] Fs [] [] (fun v bo so => v = .tuple #[.int .u64 r.1, .int .u64 r.2] ∧ bo = [] ∧ so = []) := by
  unfold math_bits_Mul64 at h
  try dsimp only at h
  refine RetS.of (vs := [_, _]) Try.func69 rfl Try.ntmps69 [(0, _), (1, _)] ⟨rfl, rfl, trivial⟩ rfl hG fun w0 S0 hS0 B0 => ?_
  refine Cov.seq ?_
  refine Cov.region rfl ?_
  refine Cov.q .ro (.assign rfl) rfl ?_
  refine Cov.q .ro (.assign rfl) rfl ?_
  refine Cov.region_end ?_
  refine Cov.seq ?_
  refine Cov.region rfl ?_
  refine Cov.q .ro (.move rfl) rfl ?_
  refine Cov.q .ro (.andw rfl rfl) rfl ?_
  refine Cov.q .ro (.assign rfl) rfl ?_
  refine Cov.region_end ?_
  refine Cov.seq ?_
  refine Cov.region rfl ?_
  refine Cov.q .ro (.move rfl) rfl ?_
  refine Cov.q .ro (.shrw rfl rfl (by decide)) rfl ?_
  refine Cov.q .ro (.assign rfl) rfl ?_
  refine Cov.region_end ?_
  refine Cov.seq ?_
  refine Cov.region rfl ?_
  refine Cov.q .ro (.move rfl) rfl ?_
  refine Cov.q .ro (.andw rfl rfl) rfl ?_
  refine Cov.q .ro (.assign rfl) rfl ?_
  refine Cov.region_end ?_
  refine Cov.seq ?_
  refine Cov.region rfl ?_
  refine Cov.q .ro (.move rfl) rfl ?_
  refine Cov.q .ro (.shrw rfl rfl (by decide)) rfl ?_
  refine Cov.q .ro (.assign rfl) rfl ?_
  refine Cov.region_end ?_
  refine Cov.seq ?_
  refine Cov.region rfl ?_
  refine Cov.q .ro (.move rfl) rfl ?_
  refine Cov.q .ro (.move rfl) rfl ?_
  refine Cov.q .ro (.mulw rfl rfl) rfl ?_
  refine Cov.q .ro (.assign rfl) rfl ?_
  refine Cov.region_end ?_
  refine Cov.prune [(0, _), (1, _), (6, _), (7, _), (8, _), (9, _), (10, _)] ⟨rfl, rfl, rfl, rfl, rfl, rfl, rfl, trivial⟩ ?_
  refine Cov.seq ?_
  refine Cov.region rfl ?_
  refine Cov.q .ro (.move rfl) rfl ?_
  refine Cov.q .ro (.move rfl) rfl ?_
  refine Cov.q .ro (.mulw rfl rfl) rfl ?_
  refine Cov.q .ro (.move rfl) rfl ?_
  refine Cov.q .ro (.shrw rfl rfl (by decide)) rfl ?_
  refine Cov.q .ro (.addw rfl rfl) rfl ?_
  refine Cov.q .ro (.assign rfl) rfl ?_
  refine Cov.region_end ?_
  refine Cov.seq ?_
  refine Cov.region rfl ?_
  refine Cov.q .ro (.move rfl) rfl ?_
  refine Cov.q .ro (.andw rfl rfl) rfl ?_
  refine Cov.q .ro (.assign rfl) rfl ?_
  refine Cov.region_end ?_
  refine Cov.seq ?_
  refine Cov.region rfl ?_
  refine Cov.q .ro (.move rfl) rfl ?_
  refine Cov.q .ro (.shrw rfl rfl (by decide)) rfl ?_
  refine Cov.q .ro (.assign rfl) rfl ?_
  refine Cov.region_end ?_
  refine Cov.prune [(0, _), (1, _), (6, _), (7, _), (9, _), (12, _), (13, _)] ⟨rfl, rfl, rfl, rfl, rfl, rfl, rfl, trivial⟩ ?_
  refine Cov.seq ?_
  refine Cov.region rfl ?_
  refine Cov.q .ro (.move rfl) rfl ?_
  refine Cov.q .ro (.move rfl) rfl ?_
  refine Cov.q .ro (.move rfl) rfl ?_
  refine Cov.q .ro (.mulw rfl rfl) rfl ?_
  refine Cov.q .ro (.addw rfl rfl) rfl ?_
  refine Cov.q .ro (.assign rfl) rfl ?_
  refine Cov.region_end ?_
  refine Cov.seq ?_
  refine Cov.region rfl ?_
  refine Cov.q .ro (.move rfl) rfl ?_
  refine Cov.q .ro (.move rfl) rfl ?_
  refine Cov.q .ro (.mulw rfl rfl) rfl ?_
  refine Cov.q .ro (.move rfl) rfl ?_
  refine Cov.q .ro (.addw rfl rfl) rfl ?_
  refine Cov.q .ro (.move rfl) rfl ?_
  refine Cov.q .ro (.shrw rfl rfl (by decide)) rfl ?_
  refine Cov.q .ro (.addw rfl rfl) rfl ?_
  refine Cov.q .ro (.assign rfl) rfl ?_
  refine Cov.region_end ?_
  refine Cov.prune [(0, _), (1, _), (4, _)] ⟨rfl, rfl, rfl, trivial⟩ ?_
  refine Cov.seq ?_
  refine Cov.region rfl ?_
  refine Cov.q .ro (.move rfl) rfl ?_
  refine Cov.q .ro (.move rfl) rfl ?_
  refine Cov.q .ro (.mulw rfl rfl) rfl ?_
  refine Cov.q .ro (.assign rfl) rfl ?_
  refine Cov.region_end ?_
  cases h
  refine Cov.retS (c := ⟨69, none⟩) (.inr ⟨_, rfl⟩) [.tmp 4, .tmp 5] [_, _] rfl Try.func69 Try.results69 ⟨RV.tmp rfl, RV.tmp rfl, trivial⟩ (fun _ h => List.mem_cons_of_mem _ h) ⟨rfl, rfl, rfl⟩
set_option maxHeartbeats 4000000 in
set_option maxRecDepth 100000 in
theorem math_bits_Mul_c {Fs : List Hp} {G : Hp} {x0 : Int} {x1 : Int} {r : (Int × Int)} (hG : G ∈ Fs)  (h : math_bits_Mul x0 x1 = some r) : RetS Try.prog 63 #[.int .u64 x0, .int .u64 x1] Fs [] [] (fun v bo so => v = .tuple #[.int .u64 r.1, .int .u64 r.2] ∧ bo = [] ∧ so = []) := by
  unfold math_bits_Mul at h
  try dsimp only at h
  refine RetS.of (vs := [_, _]) Try.func63 rfl Try.ntmps63 [(0, _), (1, _)] ⟨rfl, rfl, trivial⟩ rfl hG fun w0 S0 hS0 B0 => ?_
  refine Cov.seq ?_
  refine Cov.region rfl ?_
  refine Cov.q .ro (.assign rfl) rfl ?_
  refine Cov.q .ro (.assign rfl) rfl ?_
  refine Cov.region_end ?_
  refine Cov.seq ?_
  refine Cov.cond_false rfl ?_
  refine Cov.skip ?_
  refine Cov.seq ?_
  refine Cov.region rfl ?_
  refine Cov.q .ro (.move rfl) rfl ?_
  refine Cov.q .ro (.move rfl) rfl ?_
  obtain ⟨u1, hu1, r2⟩ := bind_some h; clear h
  refine Cov.callS (b1 := []) (b2 := []) (s1 := []) [_, _] [] .ro rfl rfl Try.call69 rfl rfl (math_bits_Mul64_c (G := G) List.mem_cons_self  hu1) rfl (fun v4 bo so h3 => ?_)
  obtain ⟨rfl, rfl, rfl⟩ := h3
  refine Cov.same (bl' := []) (sl' := []) rfl rfl rfl ?_
  refine Cov.q .ro (.move rfl) rfl ?_
  refine Cov.q .ro (.extract rfl rfl) rfl ?_
  refine Cov.q .ro (.extract rfl rfl) rfl ?_
  refine Cov.q .ro (.assign rfl) rfl ?_
  refine Cov.q .ro (.assign rfl) rfl ?_
  refine Cov.region_end ?_
  refine Cov.seq ?_
  refine Cov.region rfl ?_
  refine Cov.q .ro (.move rfl) rfl ?_
  refine Cov.q .ro (.move rfl) rfl ?_
  refine Cov.q .ro (.assign rfl) rfl ?_
  refine Cov.q .ro (.assign rfl) rfl ?_
  refine Cov.region_end ?_
  cases r2
  refine Cov.retS (c := ⟨63, none⟩) (.inr ⟨_, rfl⟩) [.tmp 4, .tmp 5] [_, _] rfl Try.func63 Try.results63 ⟨RV.tmp rfl, RV.tmp rfl, trivial⟩ (fun _ h => List.mem_cons_of_mem _ h) ⟨rfl, rfl, rfl⟩
set_option maxHeartbeats 4000000 in
set_option maxRecDepth 100000 in
theorem slices_Repeat_Lintint_c {Fs : List Hp} {G : Hp} {a0 : Option Addr} {k0 : Nat} {x0 : List Int} {x1 : Int} {r : (List Int)} (hG : G ∈ Fs) (s0 : SlR (Rep.int .i64) G a0 k0 x0) (h : slices_Repeat_Lintint x0 x1 = some r) : RetS Try.prog 54 #[.slice a0 x0.length k0, .int .i64 x1] Fs [] [] (fun v bo so => ∃ (oa0 : Option Addr) (ok0 : Nat) (oc0 : List Value), v = .slice oa0 r.length ok0 ∧ bo = [] ∧ so = [.s (.slice oa0 r.length ok0) 3 1 r.length oc0] ∧ OL (Rep.int .i64) G oc0 r) := by
  unfold slices_Repeat_Lintint at h
  try dsimp only at h
  refine RetS.of (vs := [_, _]) Try.func54 rfl Try.ntmps54 [(0, _), (1, _)] ⟨rfl, rfl, trivial⟩ rfl hG fun w0 S0 hS0 B0 => ?_
  refine Cov.seq ?_
  refine Cov.region rfl ?_
  refine Cov.q .ro (.assign rfl) rfl ?_
  refine Cov.region_end ?_
  refine Cov.seq ?_
  refine Cov.seq ?_
  refine Cov.region rfl ?_
  refine Cov.q .ro (.move rfl) rfl ?_
  refine Cov.q .ro (.lss rfl rfl) rfl ?_
  refine Cov.region_end ?_
  refine Cov.cutI (β := Unit) (fun y => []) [(0, _), (1, _)] (fun y => G :: Fs) (fun y => []) [] (fun y => []) [] (fun y => (slices_Repeat_Lintint_J3 x0 x1)  = some r) ⟨rfl, rfl, trivial⟩ [] rfl [] rfl ?_ ?_
  · intro _ hI
    have r6 := hI; clear hI
    refine Cov.prune [(0, _), (1, _)] ⟨rfl, rfl, trivial⟩ ?_
    refine Cov.same (bl' := []) (sl' := []) (Fs' := G :: Fs) rfl rfl rfl ?_
    unfold slices_Repeat_Lintint_J3 at r6
    try dsimp only at r6
    refine Cov.seq ?_
    refine Cov.region rfl ?_
    refine Cov.q .ro (.move rfl) rfl ?_
    refine Cov.q .ro (.len_sl rfl rfl sl35) rfl ?_
    refine Cov.q .ro (.convw Try.underlying3 Try.underlying107 rfl) rfl ?_
    refine Cov.q .ro (.move rfl) rfl ?_
    refine Cov.q .ro (.convw Try.underlying3 Try.underlying107 rfl) rfl ?_
    obtain ⟨u9, hu9, r10⟩ := bind_some r6; clear r6
    refine Cov.callS (b1 := []) (b2 := []) (s1 := []) [_, _] [] .ro rfl rfl Try.call63 rfl rfl (math_bits_Mul_c (G := G) List.mem_cons_self  hu9) rfl (fun v12 bo so h11 => ?_)
    obtain ⟨rfl, rfl, rfl⟩ := h11
    refine Cov.same (bl' := []) (sl' := []) rfl rfl rfl ?_
    refine Cov.q .ro (.move rfl) rfl ?_
    refine Cov.q .ro (.extract rfl rfl) rfl ?_
    refine Cov.q .ro (.extract rfl rfl) rfl ?_
    refine Cov.q .ro (.assign rfl) rfl ?_
    refine Cov.q .ro (.assign rfl) rfl ?_
    refine Cov.region_end ?_
    refine Cov.seq ?_
    refine Cov.seq ?_
    refine Cov.region rfl ?_
    refine Cov.q .ro (.move rfl) rfl ?_
    refine Cov.q .ro (.gtr rfl rfl) rfl ?_
    refine Cov.q .ro (.move rfl) rfl ?_
    refine Cov.cutR 3 (β := Unit) (fun y => [(26, .bool (decide ((0 < u9.1) ∨ (9223372036854775807 < u9.2))))]) [(0, _), (6, _)] (fun y => G :: Fs) (fun y => []) [] (fun y => []) [] (fun y => True) ⟨rfl, rfl, trivial⟩ [] rfl [] rfl ?_ ?_
    · rintro _ _
      refine Cov.prune [(26, .bool (decide ((0 < u9.1) ∨ (9223372036854775807 < u9.2)))), (0, _), (6, _)] ⟨rfl, rfl, rfl, trivial⟩ ?_
      refine Cov.same (bl' := []) (sl' := []) (Fs' := G :: Fs) rfl rfl rfl ?_
      refine Cov.region_end ?_
      refine Cov.cutI (β := Unit) (fun y => []) [(0, _), (6, _)] (fun y => G :: Fs) (fun y => []) [] (fun y => []) [] (fun y => (slices_Repeat_Lintint_J2 x0 u9.2)  = some r) ⟨rfl, rfl, trivial⟩ [] rfl [] rfl ?_ ?_
      · intro _ hI
        have r22 := hI; clear hI
        refine Cov.prune [(0, _), (6, _)] ⟨rfl, rfl, trivial⟩ ?_
        refine Cov.same (bl' := []) (sl' := []) (Fs' := G :: Fs) rfl rfl rfl ?_
        unfold slices_Repeat_Lintint_J2 at r22
        try dsimp only at r22
        refine Cov.seq ?_
        refine Cov.region rfl ?_
        refine Cov.q .ro (.move rfl) rfl ?_
        refine Cov.q .ro (.convw Try.underlying107 Try.underlying3 rfl) rfl ?_
        obtain ⟨u25, hu25, r26⟩ := bind_some r22; clear r22
        refine Cov.makeR (G := G) (Q := (Rep.int .i64)) .ro sl35 ty3 rfl rfl rfl ((Rep.intI .i64 0) :) rfl rfl hu25 rfl rfl (fun b27 cs28 hb27 o29 => ?_)
        refine Cov.q .ro (.assign rfl) rfl ?_
        refine Cov.region_end ?_
        refine Cov.seq ?_
        refine Cov.region rfl ?_
        refine Cov.q .ro (.move rfl) rfl ?_
        refine Cov.q .ro (.move rfl) rfl ?_
        refine Cov.owncap 0 rfl (fun h31 => ?_)
        obtain ⟨u32, hu32, r33⟩ := bind_some r26; clear r26
        refine Cov.copyG 0 (Q := (Rep.int .i64)) .ro sl35 ty3.sz rfl o29 hu32 rfl (PartV.all h31) rfl (SrcV.rd s0 List.mem_cons_self) rfl (fun cs34 hlcs34 o35 => ?_)
        refine Cov.reval 30 hlcs34 rfl ?_
        refine Cov.reval 7 hlcs34 rfl ?_
        refine Cov.reval 31 hlcs34 rfl ?_
        refine Cov.q .ro (.assign rfl) rfl ?_
        refine Cov.region_end ?_
        refine Cov.seq ?_
        refine Cov.block ?_
        refine Cov.loop2 (α := Nat × Int × List Int × Option Addr × Nat × List Value) (fun y => [(8, .int .i64 y.2.1), (7, .slice y.2.2.2.1 y.2.2.1.length y.2.2.2.2.1)]) [] (fun y => []) (fun y => []) [] (fun y => [.s (.slice y.2.2.2.1 y.2.2.1.length y.2.2.2.2.1) 3 1 y.2.2.1.length y.2.2.2.2.2]) [] (fun y => OL (Rep.int .i64) G y.2.2.2.2.2 y.2.2.1 ∧ slices_Repeat_Lintint_L1 y.1 y.2.1 y.2.2.1 = some r) (fun y => y.1) (big, ((min x0.length u32.length : Nat) : Int), (lcpy u25 0 u32.length x0), (some ⟨b27, 0, none⟩), u25.length, cs34) ⟨o35, r33⟩ ⟨rfl, rfl, trivial⟩ rfl rfl rfl (fun y hI hb65 => ?_)
        obtain ⟨n55, v57, v58, a59, k60, cs61⟩ := y
        obtain ⟨o62, r64⟩ := hI
        try dsimp only at o62 r64
        refine Cov.prune [(8, .int .i64 v57), (7, .slice a59 v58.length k60)] ⟨rfl, rfl, trivial⟩ ?_
        refine Cov.same (bl' := []) (sl' := [.s (.slice a59 v58.length k60) 3 1 v58.length cs61]) (Fs' := G :: Fs) rfl rfl rfl ?_
        obtain ⟨m67, rfl⟩ : ∃ m, n55 = m + 1 := by cases n55 with | zero => exact absurd (show (none : Option _) = some _ from r64) (by simp) | succ m => exact ⟨m, rfl⟩
        have r66 : slices_Repeat_Lintint_B1 (slices_Repeat_Lintint_L1 m67) v57 v58 = some r := r64; clear r64; unfold slices_Repeat_Lintint_B1 at r66; try dsimp only at r66
        refine Cov.seq ?_
        refine Cov.seq ?_
        refine Cov.region rfl ?_
        refine Cov.q .ro (.move rfl) rfl ?_
        refine Cov.q .ro (.move rfl) rfl ?_
        refine Cov.q .ro (.len_sl rfl rfl sl35) rfl ?_
        refine Cov.q .ro (.lss rfl rfl) rfl ?_
        refine Cov.region_end ?_
        refine Cov.cond_dec rfl (fun c68 => ?_) (fun c68 => ?_)
        · have r69 := ifT r66 c68; clear r66
          refine Cov.skip ?_
          refine Cov.block ?_
          refine Cov.drawL (.q 0 (.q 1 (.q 2 (.q 3 (.q 4 (.q 5 (.q 6 (.e 7 1 (.q 8 (.q 9 .nil)))))))))) [] (by kernel_rfl) (by kernel_rfl) (pick_mem [] rfl) ?_
          refine Cov.dq (.move rfl) rfl ?_
          refine Cov.dq (.move rfl) rfl ?_
          refine Cov.dq (.move rfl) rfl ?_
          refine Cov.owncap 0 rfl (fun h70 => ?_)
          obtain ⟨u71, hu71, r72⟩ := bind_some r69; clear r69
          refine Cov.dq (.sliceP rfl (PartV.all h70) hu71 sl35 ty3.sz (fun h => .yes' rfl h) (fun _ => .no)) rfl ?_
          refine Cov.dq (.move rfl) rfl ?_
          refine Cov.dq (.move rfl) rfl ?_
          refine Cov.owncap 0 rfl (fun h73 => ?_)
          obtain ⟨u74, hu74, r75⟩ := bind_some r72; clear r72
          refine Cov.dq (.sliceP rfl (PartV.all h73) hu74 sl35 ty3.sz (fun _ => .no) (fun h => .yes' rfl h)) rfl ?_
          obtain ⟨u76, hu76, r77⟩ := bind_some r75; clear r75
          obtain ⟨u78, hu78, r79⟩ := bind_some r77; clear r77
          refine Cov.copyG 0 (Q := (Rep.int .i64)) .d1 sl35 ty3.sz rfl o62 hu76 rfl (PartV.psub (PartV.all h70) hu71) rfl (SrcV.osub 0 rfl o62 (PartV.psub (PartV.all h73) hu74) hu78) rfl (fun cs80 hlcs80 o81 => ?_)
          refine Cov.reval 7 hlcs80 rfl ?_
          refine Cov.reval 35 hlcs80 rfl ?_
          refine Cov.reval 39 hlcs80 rfl ?_
          refine Cov.reval 42 hlcs80 rfl ?_
          refine Cov.clsL (HpLe.refl _) (pick_mem [] rfl) ?_
          refine Cov.dq (.addw rfl rfl) rfl ?_
          refine Cov.dq (.assign rfl) rfl ?_
          refine Cov.draw_end ?_
          refine Cov.prune [(8, _), (7, _)] ⟨rfl, rfl, trivial⟩ ?_
          refine Cov.inBlock ?_
          refine Cov.prune _ ?_ (Cov.same rfl rfl rfl (hb65 (m67, (w64 (v57 + ((min u78.length u76.length : Nat) : Int))), (lcpy v58 u71.1 u76.length u78), a59, k60, cs80) ⟨o81, r79⟩ (Nat.lt_succ_self _)))
          exact ⟨rfl, rfl, trivial⟩
        · have r83 := ifF r66 c68; clear r66
          refine Cov.exit rfl ?_
          refine Cov.seq ?_
          refine Cov.region rfl ?_
          refine Cov.q .ro (.move rfl) rfl ?_
          refine Cov.q .ro (.assign rfl) rfl ?_
          refine Cov.region_end ?_
          cases r83
          refine Cov.retS (c := ⟨54, none⟩) (.inr ⟨_, rfl⟩) [.tmp 4] [_] rfl Try.func54 Try.results54 ⟨RV.tmp rfl, trivial⟩ (fun _ h => List.mem_cons_of_mem _ h) ⟨a59, k60, cs61, rfl, rfl, rfl, o62⟩
      · intro hb84
        refine Cov.cond_dec rfl (fun c85 => ?_) (fun c85 => ?_)
        · have r86 := ifT r10 c85; clear r10
          refine Cov.region rfl ?_
          exact absurd r86 (by simp)
        · have r87 := ifF r10 c85; clear r10
          refine Cov.skip ?_
          refine Cov.prune _ ?_ (Cov.same rfl rfl rfl (hb84 () r87))
          exact ⟨rfl, rfl, trivial⟩
    · intro hb14
      refine Cov.split 23 rfl (fun c13 => ?_) (fun c13 => ?_)
      · refine Cov.g_off rfl rfl rfl ?_
        refine Cov.g_off rfl rfl rfl ?_
        refine Cov.q .ro (.pick_t rfl rfl) rfl ?_
        refine Cov.prune _ ?_ (Cov.same rfl rfl rfl (hb14 () trivial))
        exact ⟨dor_t c13, rfl, rfl, trivial⟩
      · refine Cov.g_on rfl ?_
        refine Cov.q .ro (.move rfl) rfl ?_
        refine Cov.g_on rfl ?_
        refine Cov.q .ro (.gtr rfl rfl) rfl ?_
        refine Cov.q .ro (.pick_f rfl rfl) rfl ?_
        refine Cov.prune _ ?_ (Cov.same rfl rfl rfl (hb14 () trivial))
        exact ⟨dor_f c13, rfl, rfl, trivial⟩
  · intro hb88
    refine Cov.cond_dec rfl (fun c89 => ?_) (fun c89 => ?_)
    · have r90 := ifT h c89; clear h
      refine Cov.region rfl ?_
      exact absurd r90 (by simp)
    · have r91 := ifF h c89; clear h
      refine Cov.skip ?_
      refine Cov.prune _ ?_ (Cov.same rfl rfl rfl (hb88 () r91))
      exact ⟨rfl, rfl, trivial⟩
set_option maxHeartbeats 4000000 in
set_option maxRecDepth 100000 in
theorem wish_Limits_c {Fs : List Hp} {G : Hp} {x0_0 : Int} {x0_1 : Int} {x0_2 : Int} {x0_3 : Int} {x1_0 : Int} {x2 : Int} {x3 : Int} {r : ((List Int) × Int)} (hG : G ∈ Fs)  (h : wish_Limits (x0_0, x0_1, x0_2, x0_3) x1_0 x2 x3 = some r) : RetS Try.prog 33 #[.agg #[.int .i64 x0_0, .int .i64 x0_1, .int .i64 x0_2, .int .i64 x0_3], .agg #[.int .i64 x1_0], .int .i64 x2, .int .i64 x3] Fs [] [] (fun v bo so => ∃ (oa0 : Option Addr) (ok0 : Nat) (oc0 : List Value), v = .tuple #[.slice oa0 r.1.length ok0, .int .i64 r.2] ∧ bo = [] ∧ so = [.s (.slice oa0 r.1.length ok0) 3 1 r.1.length oc0] ∧ OL (Rep.int .i64) G oc0 r.1) := by
  unfold wish_Limits at h
  try dsimp only at h
  refine RetS.of (vs := [_, _, _, _]) Try.func33 rfl Try.ntmps33 [(0, _), (1, _), (2, _), (3, _)] ⟨rfl, rfl, rfl, rfl, trivial⟩ rfl hG fun w0 S0 hS0 B0 => ?_
  refine Cov.seq ?_
  refine Cov.region rfl ?_
  refine Cov.box [_, _, _, _] .ro rfl rfl rfl (fun b1 hb1 => ?_)
  refine Cov.box [_] .ro rfl rfl rfl (fun b2 hb2 => ?_)
  refine Cov.q .ro (.assign rfl) rfl ?_
  refine Cov.q .ro (.assign rfl) rfl ?_
  refine Cov.region_end ?_
  refine Cov.seq ?_
  refine Cov.block ?_
  refine Cov.seq ?_
  refine Cov.region rfl ?_
  refine Cov.q .ro (.load_own_a 1 [_, _, _, _] rfl rfl ty46 rfl) rfl ?_
  refine Cov.q .ro (.load_own_a 0 [_] rfl rfl ty62 rfl) rfl ?_
  obtain ⟨u3, hu3, r4⟩ := bind_some h; clear h
  refine Cov.callS (b1 := []) (b2 := [_, _]) (s1 := []) [_, _] [] .ro rfl rfl Try.call51 rfl rfl (scheme_Valid_c (G := G) List.mem_cons_self  hu3) rfl (fun v6 bo so h5 => ?_)
  obtain ⟨rfl, rfl, rfl⟩ := h5
  refine Cov.same (bl' := [_, _]) (sl' := []) rfl rfl rfl ?_
  refine Cov.q .ro (.not rfl) rfl ?_
  refine Cov.q .ro (.assign rfl) rfl ?_
  refine Cov.region_end ?_
  refine Cov.cond rfl (fun c7 => ?_) (fun c7 => ?_)
  · have r8 := ifT r4 c7; clear r4
    refine Cov.seq ?_
    refine Cov.region rfl ?_
    refine Cov.q .ro (.assign rfl) rfl ?_
    refine Cov.q .ro (.assign rfl) rfl ?_
    refine Cov.region_end ?_
    refine Cov.own_nil 3 1 ?_
    cases r8
    refine Cov.drop 2 0 [] _ rfl rfl ?_
    refine Cov.retS (c := ⟨33, none⟩) (.inr ⟨_, rfl⟩) [.tmp 8, .tmp 9] [_, _] rfl Try.func33 Try.results33 ⟨RV.tmp rfl, RV.tmp rfl, trivial⟩ (fun _ h => List.mem_cons_of_mem _ h) ⟨none, 0, [], rfl, rfl, rfl, (OL.nil (Rp' := (Rep.int .i64)))⟩
  · have r10 := ifBF r4 c7; clear r4
    refine Cov.seq ?_
    refine Cov.region rfl ?_
    refine Cov.q .ro (.move rfl) rfl ?_
    obtain ⟨u11, hu11, r12⟩ := bind_some r10; clear r10
    refine Cov.callS (b1 := []) (b2 := [_, _]) (s1 := []) [_, _, _] [] .ro rfl rfl Try.call52 rfl rfl (wish_within_c (G := G) List.mem_cons_self  hu11) rfl (fun v14 bo so h13 => ?_)
    obtain ⟨rfl, rfl, rfl⟩ := h13
    refine Cov.same (bl' := [_, _]) (sl' := []) rfl rfl rfl ?_
    refine Cov.q .ro (.not rfl) rfl ?_
    refine Cov.q .ro (.move rfl) rfl ?_
    obtain ⟨u21, h22, r23⟩ := bind_some r12; clear r12
    refine Cov.cutR 4 (β := Unit) (fun y => [(25, .bool u21)]) [(2, _), (3, _), (4, _), (5, _)] (fun y => G :: Fs) (fun y => []) [_, _] (fun y => []) [] (fun y => True) ⟨rfl, rfl, rfl, rfl, trivial⟩ [0, 1] rfl [] rfl ?_ ?_
    · rintro _ _
      refine Cov.prune [(25, .bool u21), (2, _), (3, _), (4, _), (5, _)] ⟨rfl, rfl, rfl, rfl, rfl, trivial⟩ ?_
      refine Cov.same (bl' := [_, _]) (sl' := []) (Fs' := G :: Fs) rfl rfl rfl ?_
      refine Cov.q .ro (.assign rfl) rfl ?_
      refine Cov.region_end ?_
      refine Cov.cond rfl (fun c26 => ?_) (fun c26 => ?_)
      · have r27 := ifT r23 c26; clear r23
        refine Cov.seq ?_
        refine Cov.region rfl ?_
        refine Cov.q .ro (.assign rfl) rfl ?_
        refine Cov.q .ro (.assign rfl) rfl ?_
        refine Cov.region_end ?_
        refine Cov.own_nil 3 1 ?_
        cases r27
        refine Cov.drop 2 0 [] _ rfl rfl ?_
        refine Cov.retS (c := ⟨33, none⟩) (.inr ⟨_, rfl⟩) [.tmp 8, .tmp 9] [_, _] rfl Try.func33 Try.results33 ⟨RV.tmp rfl, RV.tmp rfl, trivial⟩ (fun _ h => List.mem_cons_of_mem _ h) ⟨none, 0, [], rfl, rfl, rfl, (OL.nil (Rp' := (Rep.int .i64)))⟩
      · have r29 := ifBF r23 c26; clear r23
        refine Cov.skip ?_
        refine Cov.inBlock ?_
        refine Cov.seq ?_
        refine Cov.region rfl ?_
        refine Cov.q .ro (.load_own_a 1 [_, _, _, _] rfl rfl ty46 rfl) rfl ?_
        refine Cov.q .ro (.load_own_a 0 [_] rfl rfl ty62 rfl) rfl ?_
        refine Cov.q .ro (.move rfl) rfl ?_
        obtain ⟨u30, hu30, r31⟩ := bind_some r29; clear r29
        refine Cov.callS (b1 := []) (b2 := [_, _]) (s1 := []) [_, _, _] [] .ro rfl rfl Try.call53 rfl rfl (scheme_Limits_c (G := G) List.mem_cons_self  hu30) rfl (fun v33 bo so h32 => ?_)
        obtain ⟨a35, k36, cs37, rfl, rfl, rfl, o38⟩ := h32
        refine Cov.same (bl' := [_, _]) (sl' := [_]) rfl rfl rfl ?_
        refine Cov.q .ro (.move rfl) rfl ?_
        refine Cov.q .ro (.extract rfl rfl) rfl ?_
        refine Cov.q .ro (.extract rfl rfl) rfl ?_
        refine Cov.q .ro (.assign rfl) rfl ?_
        refine Cov.q .ro (.assign rfl) rfl ?_
        refine Cov.region_end ?_
        refine Cov.seq ?_
        refine Cov.seq ?_
        refine Cov.region rfl ?_
        refine Cov.q .ro (.move rfl) rfl ?_
        refine Cov.q .ro (.neq rfl rfl) rfl ?_
        refine Cov.region_end ?_
        refine Cov.prune [(3, _), (10, _), (11, _), (34, _)] ⟨rfl, rfl, rfl, rfl, trivial⟩ ?_
        refine Cov.cond_dec rfl (fun c39 => ?_) (fun c39 => ?_)
        · have r40 := ifT r31 c39; clear r31
          refine Cov.seq ?_
          refine Cov.region rfl ?_
          refine Cov.q .ro (.move rfl) rfl ?_
          refine Cov.q .ro (.assign rfl) rfl ?_
          refine Cov.q .ro (.assign rfl) rfl ?_
          refine Cov.region_end ?_
          refine Cov.own_nil 3 1 ?_
          cases r40
          refine Cov.drop 2 0 [] _ rfl rfl ?_
          refine Cov.pullS 1 rfl [_, _] rfl ?_
          refine Cov.drop 0 1 _ [_] rfl rfl ?_
          refine Cov.retS (c := ⟨33, none⟩) (.inr ⟨_, rfl⟩) [.tmp 8, .tmp 9] [_, _] rfl Try.func33 Try.results33 ⟨RV.tmp rfl, RV.tmp rfl, trivial⟩ (fun _ h => List.mem_cons_of_mem _ h) ⟨none, 0, [], rfl, rfl, rfl, (OL.nil (Rp' := (Rep.int .i64)))⟩
        · have r42 := ifF r31 c39; clear r31
          refine Cov.skip ?_
          refine Cov.seq ?_
          refine Cov.region rfl ?_
          refine Cov.q .ro (.move rfl) rfl ?_
          refine Cov.q .ro (.move rfl) rfl ?_
          refine Cov.freezeR 0 rfl rfl o38 [] rfl B0 (fun G43 e44 B45 s46 => ?_)
          obtain ⟨u48, hu48, r49⟩ := bind_some r42; clear r42
          refine Cov.callS (b1 := []) (b2 := [_, _]) (s1 := []) [_, _] [] .ro rfl rfl Try.call54 rfl rfl (slices_Repeat_Lintint_c (G := G43) List.mem_cons_self s46 hu48) rfl (fun v51 bo so h50 => ?_)
          obtain ⟨a53, k54, cs55, rfl, rfl, rfl, o56⟩ := h50
          refine Cov.same (bl' := [_, _]) (sl' := [_]) rfl rfl rfl ?_
          refine Cov.q .ro (.assign rfl) rfl ?_
          refine Cov.q .ro (.assign rfl) rfl ?_
          refine Cov.region_end ?_
          cases r49
          refine Cov.drop 2 0 [] _ rfl rfl ?_
          refine Cov.retS (c := ⟨33, none⟩) (.inr ⟨_, rfl⟩) [.tmp 8, .tmp 9] [_, _] rfl Try.func33 Try.results33 ⟨RV.tmp rfl, RV.tmp rfl, trivial⟩ (fun _ h => List.mem_cons_of_mem _ h) ⟨a53, k54, cs55, rfl, rfl, rfl, o56⟩
    · intro hb20
      refine Cov.split_b 21 rfl (fun c19 => ?_) (fun c19 => ?_)
      · have r57 := ifT h22 c19
        refine Cov.g_off rfl rfl rfl ?_
        refine Cov.g_off rfl rfl rfl ?_
        refine Cov.g_off rfl rfl rfl ?_
        refine Cov.q .ro (.pick_t rfl rfl) rfl ?_
        refine Cov.prune _ ?_ (Cov.same rfl rfl rfl (hb20 () trivial))
        exact ⟨sval r57, rfl, rfl, rfl, rfl, trivial⟩
      · have r58 := ifBF h22 c19
        refine Cov.g_on rfl ?_
        refine Cov.q .ro (.move rfl) rfl ?_
        refine Cov.g_on rfl ?_
        obtain ⟨u59, hu59, r60⟩ := bind_some r58; clear r58
        refine Cov.callS (b1 := []) (b2 := [_, _]) (s1 := []) [_, _, _] [] .ro rfl rfl Try.call52 rfl rfl (wish_within_c (G := G) List.mem_cons_self  hu59) rfl (fun v62 bo so h61 => ?_)
        obtain ⟨rfl, rfl, rfl⟩ := h61
        refine Cov.same (bl' := [_, _]) (sl' := []) rfl rfl rfl ?_
        refine Cov.g_on rfl ?_
        refine Cov.q .ro (.not rfl) rfl ?_
        refine Cov.q .ro (.pick_f rfl rfl) rfl ?_
        refine Cov.prune _ ?_ (Cov.same rfl rfl rfl (hb20 () trivial))
        exact ⟨sval r60, rfl, rfl, rfl, rfl, trivial⟩
set_option maxHeartbeats 4000000 in
set_option maxRecDepth 100000 in
theorem bounds_Draws_c {Fs : List Hp} {G : Hp} {x0_0 : Int} {x0_1 : Int} {x0_2 : Int} {x0_3 : Int} {x1_0 : Int} {x2 : Int} {x3 : Int} {r : (Int × Int)} (hG : G ∈ Fs)  (h : bounds_Draws (x0_0, x0_1, x0_2, x0_3) x1_0 x2 x3 = some r) : RetS Try.prog 18 #[.agg #[.int .i64 x0_0, .int .i64 x0_1, .int .i64 x0_2, .int .i64 x0_3], .agg #[.int .i64 x1_0], .int .i64 x2, .int .i64 x3] Fs [] [] (fun v bo so => v = .tuple #[.int .i64 r.1, .int .i64 r.2] ∧ bo = [] ∧ so = []) := by
  unfold bounds_Draws at h
  try dsimp only at h
  refine RetS.of (vs := [_, _, _, _]) Try.func18 rfl Try.ntmps18 [(0, _), (1, _), (2, _), (3, _)] ⟨rfl, rfl, rfl, rfl, trivial⟩ rfl hG fun w0 S0 hS0 B0 => ?_
  refine Cov.seq ?_
  refine Cov.region rfl ?_
  refine Cov.box [_, _, _, _] .ro rfl rfl rfl (fun b1 hb1 => ?_)
  refine Cov.box [_] .ro rfl rfl rfl (fun b2 hb2 => ?_)
  refine Cov.q .ro (.assign rfl) rfl ?_
  refine Cov.q .ro (.assign rfl) rfl ?_
  refine Cov.region_end ?_
  refine Cov.seq ?_
  refine Cov.region rfl ?_
  refine Cov.q .ro (.load_own_a 1 [_, _, _, _] rfl rfl ty46 rfl) rfl ?_
  refine Cov.q .ro (.load_own_a 0 [_] rfl rfl ty62 rfl) rfl ?_
  refine Cov.q .ro (.move rfl) rfl ?_
  refine Cov.q .ro (.move rfl) rfl ?_
  obtain ⟨u3, hu3, r4⟩ := bind_some h; clear h
  refine Cov.callS (b1 := []) (b2 := [_, _]) (s1 := []) [_, _, _, _] [] .ro rfl rfl Try.call33 rfl rfl (wish_Limits_c (G := G) List.mem_cons_self  hu3) rfl (fun v6 bo so h5 => ?_)
  obtain ⟨a8, k9, cs10, rfl, rfl, rfl, o11⟩ := h5
  refine Cov.same (bl' := [_, _]) (sl' := [_]) rfl rfl rfl ?_
  refine Cov.q .ro (.move rfl) rfl ?_
  refine Cov.q .ro (.extract rfl rfl) rfl ?_
  refine Cov.q .ro (.extract rfl rfl) rfl ?_
  refine Cov.q .ro (.assign rfl) rfl ?_
  refine Cov.q .ro (.assign rfl) rfl ?_
  refine Cov.region_end ?_
  refine Cov.prune [(10, _), (11, _)] ⟨rfl, rfl, trivial⟩ ?_
  refine Cov.seq ?_
  refine Cov.region rfl ?_
  refine Cov.q .ro (.move rfl) rfl ?_
  refine Cov.q .ro (.len_sl rfl rfl sl35) rfl ?_
  refine Cov.q .ro (.move rfl) rfl ?_
  refine Cov.q .ro (.assign rfl) rfl ?_
  refine Cov.q .ro (.assign rfl) rfl ?_
  refine Cov.region_end ?_
  cases r4
  refine Cov.drop 2 0 [] _ rfl rfl ?_
  refine Cov.drop 0 1 _ [] rfl rfl ?_
  refine Cov.retS (c := ⟨18, none⟩) (.inr ⟨_, rfl⟩) [.tmp 8, .tmp 9] [_, _] rfl Try.func18 Try.results18 ⟨RV.tmp rfl, RV.tmp rfl, trivial⟩ (fun _ h => List.mem_cons_of_mem _ h) ⟨rfl, rfl, rfl⟩
set_option maxHeartbeats 4000000 in
set_option maxRecDepth 100000 in
theorem bounds_asked_c {Fs : List Hp} {G : Hp} {x0_0 : Int} {x0_1 : Int} {x0_2 : Int} {x0_3 : Int} {x1 : Int} {r : Int} (hG : G ∈ Fs)  (h : bounds_asked (x0_0, x0_1, x0_2, x0_3) x1 = some r) : RetS Try.prog 34 #[.agg #[.int .i64 x0_0, .int .i64 x0_1, .int .i64 x0_2, .int .i64 x0_3], .int .i64 x1] Fs [] [] (fun v bo so => v = .int .i64 r ∧ bo = [] ∧ so = []) := by
  unfold bounds_asked at h
  try dsimp only at h
  refine RetS.of (vs := [_, _]) Try.func34 rfl Try.ntmps34 [(0, _), (1, _)] ⟨rfl, rfl, trivial⟩ rfl hG fun w0 S0 hS0 B0 => ?_
  refine Cov.seq ?_
  refine Cov.region rfl ?_
  refine Cov.box [_, _, _, _] .ro rfl rfl rfl (fun b1 hb1 => ?_)
  refine Cov.q .ro (.assign rfl) rfl ?_
  refine Cov.region_end ?_
  refine Cov.seq ?_
  refine Cov.region rfl ?_
  refine Cov.q .ro (.move rfl) rfl ?_
  refine Cov.q .ro (.fieldAddr 1 rfl fl46_1 ty3.sz rfl) rfl ?_
  refine Cov.q .ro (.load_own 0 rfl rfl ty3 rfl) rfl ?_
  refine Cov.q .ro (.mulw rfl rfl) rfl ?_
  refine Cov.q .ro (.assign rfl) rfl ?_
  refine Cov.region_end ?_
  cases h
  refine Cov.drop 1 0 [] _ rfl rfl ?_
  refine Cov.retS (c := ⟨34, none⟩) (.inr ⟨_, rfl⟩) [.tmp 4] [_] rfl Try.func34 Try.results34 ⟨RV.tmp rfl, trivial⟩ (fun _ h => List.mem_cons_of_mem _ h) ⟨rfl, rfl, rfl⟩
set_option maxHeartbeats 4000000 in
set_option maxRecDepth 100000 in
theorem bounds_Notes_c {Fs : List Hp} {G : Hp} {x0_0 : Int} {x0_1 : Int} {x0_2 : Int} {x0_3 : Int} {x1 : Int} {r : Int} (hG : G ∈ Fs)  (h : bounds_Notes (x0_0, x0_1, x0_2, x0_3) x1 = some r) : RetS Try.prog 19 #[.agg #[.int .i64 x0_0, .int .i64 x0_1, .int .i64 x0_2, .int .i64 x0_3], .int .i64 x1] Fs [] [] (fun v bo so => v = .int .i64 r ∧ bo = [] ∧ so = []) := by
  unfold bounds_Notes at h
  try dsimp only at h
  refine RetS.of (vs := [_, _]) Try.func19 rfl Try.ntmps19 [(0, _), (1, _)] ⟨rfl, rfl, trivial⟩ rfl hG fun w0 S0 hS0 B0 => ?_
  refine Cov.seq ?_
  refine Cov.region rfl ?_
  refine Cov.box [_, _, _, _] .ro rfl rfl rfl (fun b1 hb1 => ?_)
  refine Cov.q .ro (.assign rfl) rfl ?_
  refine Cov.region_end ?_
  refine Cov.seq ?_
  refine Cov.region rfl ?_
  refine Cov.q .ro (.load_own_a 0 [_, _, _, _] rfl rfl ty46 rfl) rfl ?_
  refine Cov.q .ro (.move rfl) rfl ?_
  obtain ⟨u2, hu2, r3⟩ := bind_some h; clear h
  refine Cov.callS (b1 := []) (b2 := [_]) (s1 := []) [_, _] [] .ro rfl rfl Try.call34 rfl rfl (bounds_asked_c (G := G) List.mem_cons_self  hu2) rfl (fun v5 bo so h4 => ?_)
  obtain ⟨rfl, rfl, rfl⟩ := h4
  refine Cov.same (bl' := [_]) (sl' := []) rfl rfl rfl ?_
  refine Cov.q .ro (.mulw rfl rfl) rfl ?_
  refine Cov.q .ro (.assign rfl) rfl ?_
  refine Cov.region_end ?_
  cases r3
  refine Cov.drop 1 0 [] _ rfl rfl ?_
  refine Cov.retS (c := ⟨19, none⟩) (.inr ⟨_, rfl⟩) [.tmp 4] [_] rfl Try.func19 Try.results19 ⟨RV.tmp rfl, trivial⟩ (fun _ h => List.mem_cons_of_mem _ h) ⟨rfl, rfl, rfl⟩
set_option maxHeartbeats 4000000 in
set_option maxRecDepth 100000 in
theorem bounds_Words_c {Fs : List Hp} {G : Hp} {x0_0 : Int} {x0_1 : Int} {x0_2 : Int} {x0_3 : Int} {x1 : Int} {x2 : Int} {r : Int} (hG : G ∈ Fs)  (h : bounds_Words (x0_0, x0_1, x0_2, x0_3) x1 x2 = some r) : RetS Try.prog 20 #[.agg #[.int .i64 x0_0, .int .i64 x0_1, .int .i64 x0_2, .int .i64 x0_3], .int .i64 x1, .int .i64 x2] Fs [] [] (fun v bo so => v = .int .i64 r ∧ bo = [] ∧ so = []) := by
  unfold bounds_Words at h
  try dsimp only at h
  refine RetS.of (vs := [_, _, _]) Try.func20 rfl Try.ntmps20 [(0, _), (1, _), (2, _)] ⟨rfl, rfl, rfl, trivial⟩ rfl hG fun w0 S0 hS0 B0 => ?_
  refine Cov.seq ?_
  refine Cov.region rfl ?_
  refine Cov.box [_, _, _, _] .ro rfl rfl rfl (fun b1 hb1 => ?_)
  refine Cov.q .ro (.assign rfl) rfl ?_
  refine Cov.region_end ?_
  refine Cov.seq ?_
  refine Cov.region rfl ?_
  refine Cov.q .ro (.load_own_a 0 [_, _, _, _] rfl rfl ty46 rfl) rfl ?_
  refine Cov.q .ro (.move rfl) rfl ?_
  obtain ⟨u2, hu2, r3⟩ := bind_some h; clear h
  refine Cov.callS (b1 := []) (b2 := [_]) (s1 := []) [_, _] [] .ro rfl rfl Try.call34 rfl rfl (bounds_asked_c (G := G) List.mem_cons_self  hu2) rfl (fun v5 bo so h4 => ?_)
  obtain ⟨rfl, rfl, rfl⟩ := h4
  refine Cov.same (bl' := [_]) (sl' := []) rfl rfl rfl ?_
  refine Cov.q .ro (.move rfl) rfl ?_
  refine Cov.q .ro (.mulw rfl rfl) rfl ?_
  refine Cov.q .ro (.assign rfl) rfl ?_
  refine Cov.region_end ?_
  cases r3
  refine Cov.drop 1 0 [] _ rfl rfl ?_
  refine Cov.retS (c := ⟨20, none⟩) (.inr ⟨_, rfl⟩) [.tmp 6] [_] rfl Try.func20 Try.results20 ⟨RV.tmp rfl, trivial⟩ (fun _ h => List.mem_cons_of_mem _ h) ⟨rfl, rfl, rfl⟩
set_option maxHeartbeats 4000000 in
set_option maxRecDepth 100000 in
theorem bounds_Steps_c {Fs : List Hp} {G : Hp} {x0_0 : Int} {x0_1 : Int} {x0_2 : Int} {x0_3 : Int} {x1 : Int} {x2 : Int} {r : Int} (hG : G ∈ Fs)  (h : bounds_Steps (x0_0, x0_1, x0_2, x0_3) x1 x2 = some r) : RetS Try.prog 21 #[.agg #[.int .i64 x0_0, .int .i64 x0_1, .int .i64 x0_2, .int .i64 x0_3], .int .i64 x1, .int .i64 x2] Fs [] [] (fun v bo so => v = .int .i64 r ∧ bo = [] ∧ so = []) := by
  unfold bounds_Steps at h
  try dsimp only at h
  refine RetS.of (vs := [_, _, _]) Try.func21 rfl Try.ntmps21 [(0, _), (1, _), (2, _)] ⟨rfl, rfl, rfl, trivial⟩ rfl hG fun w0 S0 hS0 B0 => ?_
  refine Cov.seq ?_
  refine Cov.region rfl ?_
  refine Cov.box [_, _, _, _] .ro rfl rfl rfl (fun b1 hb1 => ?_)
  refine Cov.q .ro (.assign rfl) rfl ?_
  refine Cov.region_end ?_
  refine Cov.seq ?_
  refine Cov.drawL (.q 0 (.q 1 (.q 3 (.q 4 (.q 5 (.e 2 1 (.e 6 1 (.q 7 (.q 8 .nil))))))))) [_] (by kernel_rfl) (by kernel_rfl) (pick_mem [0] rfl) ?_
  refine Cov.dq (.load_own_a 0 [_, _, _, _] rfl rfl ty46 rfl) rfl ?_
  refine Cov.dq (.move rfl) rfl ?_
  refine Cov.dq (.load_own_a 0 [_, _, _, _] rfl rfl ty46 rfl) rfl ?_
  refine Cov.dq (.move rfl) rfl ?_
  refine Cov.dq (.move rfl) rfl ?_
  obtain ⟨u2, hu2, r3⟩ := bind_some h; clear h
  refine Cov.callS (b1 := []) (b2 := [_]) (s1 := []) [_, _] [] .d1 rfl rfl Try.call19 rfl rfl (bounds_Notes_c (G := G) List.mem_cons_self  hu2) rfl (fun v5 bo so h4 => ?_)
  obtain ⟨rfl, rfl, rfl⟩ := h4
  refine Cov.same (bl' := [_]) (sl' := []) rfl rfl rfl ?_
  refine Cov.clsL (HpLe.refl _) (pick_mem [0] rfl) ?_
  obtain ⟨u6, hu6, r7⟩ := bind_some r3; clear r3
  refine Cov.callS (b1 := []) (b2 := [_]) (s1 := []) [_, _, _] [] .d1 rfl rfl Try.call20 rfl rfl (bounds_Words_c (G := G) List.mem_cons_self  hu6) rfl (fun v9 bo so h8 => ?_)
  obtain ⟨rfl, rfl, rfl⟩ := h8
  refine Cov.same (bl' := [_]) (sl' := []) rfl rfl rfl ?_
  refine Cov.clsL (HpLe.refl _) (pick_mem [0] rfl) ?_
  refine Cov.dq (.addw rfl rfl) rfl ?_
  refine Cov.dq (.assign rfl) rfl ?_
  refine Cov.draw_end ?_
  cases r7
  refine Cov.drop 1 0 [] _ rfl rfl ?_
  refine Cov.retS (c := ⟨21, none⟩) (.inr ⟨_, rfl⟩) [.tmp 6] [_] rfl Try.func21 Try.results21 ⟨RV.tmp rfl, trivial⟩ (fun _ h => List.mem_cons_of_mem _ h) ⟨rfl, rfl, rfl⟩
set_option maxHeartbeats 4000000 in
set_option maxRecDepth 100000 in
theorem law43_sane_c {Fs : List Hp} {G : Hp}  {r : Bool} (hG : G ∈ Fs)  (h : law43_sane = some r) : RetS Try.prog 5 #[] Fs [] [] (fun v bo so => v = .bool r ∧ bo = [] ∧ so = []) := by
  unfold law43_sane at h
  try dsimp only at h
  refine RetS.of (vs := []) Try.func5 rfl Try.ntmps5 [] trivial rfl hG fun w0 S0 hS0 B0 => ?_
  refine Cov.seq ?_
  refine Cov.region rfl ?_
  refine Cov.q .ro (.assign rfl) rfl ?_
  refine Cov.region_end ?_
  refine Cov.seq ?_
  refine Cov.region rfl ?_
  refine Cov.q .ro (.build [_, _, _, _] [(0, _), (1, _)] ty46 pl46 rfl rfl) rfl ?_
  refine Cov.alloc .ro ty46 rfl (fun b1 hb1 => ?_)
  refine Cov.store 0 [_, _, _, _] [_] .ro rfl rfl rfl ty46 rfl rfl rfl rfl ?_
  refine Cov.region_end ?_
  refine Cov.seq ?_
  refine Cov.region rfl ?_
  refine Cov.q .ro (.load_own_a 0 [_, _, _, _] rfl rfl ty46 rfl) rfl ?_
  refine Cov.q .ro (.build [_] [(0, _)] ty62 pl62 rfl rfl) rfl ?_
  obtain ⟨u2, hu2, r3⟩ := bind_some h; clear h
  refine Cov.callS (b1 := []) (b2 := [_]) (s1 := []) [_, _, _, _] [] .ro rfl rfl Try.call18 rfl rfl (bounds_Draws_c (G := G) List.mem_cons_self  hu2) rfl (fun v5 bo so h4 => ?_)
  obtain ⟨rfl, rfl, rfl⟩ := h4
  refine Cov.same (bl' := [_]) (sl' := []) rfl rfl rfl ?_
  refine Cov.q .ro (.move rfl) rfl ?_
  refine Cov.q .ro (.extract rfl rfl) rfl ?_
  refine Cov.q .ro (.extract rfl rfl) rfl ?_
  refine Cov.q .ro (.assign rfl) rfl ?_
  refine Cov.q .ro (.assign rfl) rfl ?_
  refine Cov.region_end ?_
  refine Cov.seq ?_
  refine Cov.region rfl ?_
  refine Cov.q .ro (.load_own_a 0 [_, _, _, _] rfl rfl ty46 rfl) rfl ?_
  obtain ⟨u6, hu6, r7⟩ := bind_some r3; clear r3
  refine Cov.callS (b1 := []) (b2 := [_]) (s1 := []) [_, _] [] .ro rfl rfl Try.call19 rfl rfl (bounds_Notes_c (G := G) List.mem_cons_self  hu6) rfl (fun v9 bo so h8 => ?_)
  obtain ⟨rfl, rfl, rfl⟩ := h8
  refine Cov.same (bl' := [_]) (sl' := []) rfl rfl rfl ?_
  refine Cov.q .ro (.eql rfl rfl) rfl ?_
  refine Cov.q .ro (.move rfl) rfl ?_
  obtain ⟨u16, h17, r18⟩ := bind_some r7; clear r7
  refine Cov.cutR 4 (β := Unit) (fun y => [(18, .bool u16)]) [(0, _), (1, _), (2, _), (3, _)] (fun y => G :: Fs) (fun y => []) [_] (fun y => []) [] (fun y => True) ⟨rfl, rfl, rfl, rfl, trivial⟩ [0] rfl [] rfl ?_ ?_
  · rintro _ _
    refine Cov.prune [(18, .bool u16), (0, _), (1, _), (2, _), (3, _)] ⟨rfl, rfl, rfl, rfl, rfl, trivial⟩ ?_
    refine Cov.same (bl' := [_]) (sl' := []) (Fs' := G :: Fs) rfl rfl rfl ?_
    refine Cov.q .ro (.move rfl) rfl ?_
    obtain ⟨u27, h28, r29⟩ := bind_some r18; clear r18
    refine Cov.cutR 4 (β := Unit) (fun y => [(23, .bool u27)]) [(0, _), (2, _), (3, _)] (fun y => G :: Fs) (fun y => []) [_] (fun y => []) [] (fun y => True) ⟨rfl, rfl, rfl, trivial⟩ [0] rfl [] rfl ?_ ?_
    · rintro _ _
      refine Cov.prune [(23, .bool u27), (0, _), (2, _), (3, _)] ⟨rfl, rfl, rfl, rfl, trivial⟩ ?_
      refine Cov.same (bl' := [_]) (sl' := []) (Fs' := G :: Fs) rfl rfl rfl ?_
      refine Cov.q .ro (.move rfl) rfl ?_
      refine Cov.cutR 3 (β := Unit) (fun y => [(27, .bool (decide ((u27 = true) ∧ (u2.2 = 0))))]) [(0, _), (2, _)] (fun y => G :: Fs) (fun y => []) [_] (fun y => []) [] (fun y => True) ⟨rfl, rfl, trivial⟩ [0] rfl [] rfl ?_ ?_
      · rintro _ _
        refine Cov.prune [(27, .bool (decide ((u27 = true) ∧ (u2.2 = 0)))), (0, _), (2, _)] ⟨rfl, rfl, rfl, trivial⟩ ?_
        refine Cov.same (bl' := [_]) (sl' := []) (Fs' := G :: Fs) rfl rfl rfl ?_
        refine Cov.q .ro (.move rfl) rfl ?_
        refine Cov.cutR 3 (β := Unit) (fun y => [(31, .bool (decide (((u27 = true) ∧ (u2.2 = 0)) ∧ (u2.1 = 16))))]) [(0, _)] (fun y => G :: Fs) (fun y => []) [_] (fun y => []) [] (fun y => True) ⟨rfl, trivial⟩ [0] rfl [] rfl ?_ ?_
        · rintro _ _
          refine Cov.prune [(31, .bool (decide (((u27 = true) ∧ (u2.2 = 0)) ∧ (u2.1 = 16)))), (0, _)] ⟨rfl, rfl, trivial⟩ ?_
          refine Cov.same (bl' := [_]) (sl' := []) (Fs' := G :: Fs) rfl rfl rfl ?_
          refine Cov.q .ro (.assign rfl) rfl ?_
          refine Cov.region_end ?_
          cases r29
          refine Cov.drop 1 0 [] _ rfl rfl ?_
          refine Cov.retS (c := ⟨5, none⟩) (.inr ⟨_, rfl⟩) [.tmp 0] [_] rfl Try.func5 Try.results5 ⟨RV.tmp rfl, trivial⟩ (fun _ h => List.mem_cons_of_mem _ h) ⟨rfl, rfl, rfl⟩
        · intro hb37
          refine Cov.split 28 rfl (fun c36 => ?_) (fun c36 => ?_)
          · refine Cov.g_on rfl ?_
            refine Cov.q .ro (.move rfl) rfl ?_
            refine Cov.g_on rfl ?_
            refine Cov.q .ro (.eql rfl rfl) rfl ?_
            refine Cov.q .ro (.pick_t rfl rfl) rfl ?_
            refine Cov.prune _ ?_ (Cov.same rfl rfl rfl (hb37 () trivial))
            exact ⟨dand_t c36, rfl, trivial⟩
          · refine Cov.g_off rfl rfl rfl ?_
            refine Cov.g_off rfl rfl rfl ?_
            refine Cov.q .ro (.pick_f rfl rfl) rfl ?_
            refine Cov.prune _ ?_ (Cov.same rfl rfl rfl (hb37 () trivial))
            exact ⟨dand_f c36, rfl, trivial⟩
      · intro hb33
        refine Cov.split_b 24 rfl (fun c32 => ?_) (fun c32 => ?_)
        · refine Cov.g_on rfl ?_
          refine Cov.q .ro (.move rfl) rfl ?_
          refine Cov.g_on rfl ?_
          refine Cov.q .ro (.eql rfl rfl) rfl ?_
          refine Cov.q .ro (.pick_t rfl rfl) rfl ?_
          refine Cov.prune _ ?_ (Cov.same rfl rfl rfl (hb33 () trivial))
          exact ⟨dand_t c32, rfl, rfl, trivial⟩
        · refine Cov.g_off rfl rfl rfl ?_
          refine Cov.g_off rfl rfl rfl ?_
          refine Cov.q .ro (.pick_f rfl rfl) rfl ?_
          refine Cov.prune _ ?_ (Cov.same rfl rfl rfl (hb33 () trivial))
          exact ⟨dand_f (bne_of c32), rfl, rfl, trivial⟩
    · intro hb26
      refine Cov.split_b 19 rfl (fun c25 => ?_) (fun c25 => ?_)
      · have r40 := ifT h28 c25
        refine Cov.g_on rfl ?_
        refine Cov.q .ro (.load_own_a 0 [_, _, _, _] rfl rfl ty46 rfl) rfl ?_
        refine Cov.g_on rfl ?_
        obtain ⟨u41, hu41, r42⟩ := bind_some r40; clear r40
        refine Cov.callS (b1 := []) (b2 := [_]) (s1 := []) [_, _, _] [] .ro rfl rfl Try.call21 rfl rfl (bounds_Steps_c (G := G) List.mem_cons_self  hu41) rfl (fun v44 bo so h43 => ?_)
        obtain ⟨rfl, rfl, rfl⟩ := h43
        refine Cov.same (bl' := [_]) (sl' := []) rfl rfl rfl ?_
        refine Cov.g_on rfl ?_
        refine Cov.q .ro (.eql rfl rfl) rfl ?_
        refine Cov.q .ro (.pick_t rfl rfl) rfl ?_
        refine Cov.prune _ ?_ (Cov.same rfl rfl rfl (hb26 () trivial))
        exact ⟨sval r42, rfl, rfl, rfl, trivial⟩
      · have r45 := ifBF h28 c25
        refine Cov.g_off rfl rfl rfl ?_
        refine Cov.g_off rfl rfl rfl ?_
        refine Cov.g_off rfl rfl rfl ?_
        refine Cov.q .ro (.pick_f rfl rfl) rfl ?_
        refine Cov.prune _ ?_ (Cov.same rfl rfl rfl (hb26 () trivial))
        exact ⟨sval r45, rfl, rfl, rfl, trivial⟩
  · intro hb15
    refine Cov.split 14 rfl (fun c14 => ?_) (fun c14 => ?_)
    · have r46 := ifT h17 c14
      refine Cov.g_on rfl ?_
      refine Cov.q .ro (.load_own_a 0 [_, _, _, _] rfl rfl ty46 rfl) rfl ?_
      refine Cov.g_on rfl ?_
      obtain ⟨u47, hu47, r48⟩ := bind_some r46; clear r46
      refine Cov.callS (b1 := []) (b2 := [_]) (s1 := []) [_, _, _] [] .ro rfl rfl Try.call20 rfl rfl (bounds_Words_c (G := G) List.mem_cons_self  hu47) rfl (fun v50 bo so h49 => ?_)
      obtain ⟨rfl, rfl, rfl⟩ := h49
      refine Cov.same (bl' := [_]) (sl' := []) rfl rfl rfl ?_
      refine Cov.g_on rfl ?_
      refine Cov.q .ro (.eql rfl rfl) rfl ?_
      refine Cov.q .ro (.pick_t rfl rfl) rfl ?_
      refine Cov.prune _ ?_ (Cov.same rfl rfl rfl (hb15 () trivial))
      exact ⟨sval r48, rfl, rfl, rfl, rfl, trivial⟩
    · have r51 := ifF h17 c14
      refine Cov.g_off rfl rfl rfl ?_
      refine Cov.g_off rfl rfl rfl ?_
      refine Cov.g_off rfl rfl rfl ?_
      refine Cov.q .ro (.pick_f rfl rfl) rfl ?_
      refine Cov.prune _ ?_ (Cov.same rfl rfl rfl (hb15 () trivial))
      exact ⟨sval r51, rfl, rfl, rfl, rfl, trivial⟩
set_option maxHeartbeats 4000000 in
set_option maxRecDepth 100000 in
theorem play_New_c {Fs : List Hp} {G : Hp} {a0 : Option Addr} {k0 : Nat} {x0 : List Int} {r : ((List Int) × Int)} (hG : G ∈ Fs) (s0 : SlR (Rep.int .u8) G a0 k0 x0) (h : play_New x0 = some r) : RetS Try.prog 6 #[.slice a0 x0.length k0] Fs [] [] (fun v bo so => ∃ a0 : Option Addr, ∃ k0 : Nat, ∃ b0 : Nat, v = .pointer (some ⟨b0, 0, none⟩) ∧ bo = [(b0, .cells #[.slice a0 r.1.length k0, .int .i64 r.2] 66 (0, 0))] ∧ so = [] ∧ SlR (Rep.int .u8) G a0 k0 r.1) := by
  unfold play_New at h
  try dsimp only at h
  refine RetS.of (vs := [_]) Try.func6 rfl Try.ntmps6 [(0, _)] ⟨rfl, trivial⟩ rfl hG fun w0 S0 hS0 B0 => ?_
  refine Cov.seq ?_
  refine Cov.region rfl ?_
  refine Cov.q .ro (.assign rfl) rfl ?_
  refine Cov.region_end ?_
  refine Cov.seq ?_
  refine Cov.seq ?_
  refine Cov.region rfl ?_
  refine Cov.q .ro (.move rfl) rfl ?_
  refine Cov.q .ro (.len_sl rfl rfl sl22) rfl ?_
  refine Cov.q .ro (.gtr rfl rfl) rfl ?_
  refine Cov.region_end ?_
  refine Cov.cutI (β := List Int × Option Addr × Nat) (fun y => [(0, .slice y.2.1 y.1.length y.2.2)]) [] (fun y => G :: Fs) (fun y => []) [] (fun y => []) [] (fun y => SlR (Rep.int .u8) G y.2.1 y.2.2 y.1 ∧ play_New_J1 y.1 = some r) trivial [] rfl [] rfl ?_ ?_
  · intro y hI
    obtain ⟨v11, a12, k13⟩ := y
    obtain ⟨s14, r16⟩ := hI
    try dsimp only at s14 r16
    refine Cov.prune [(0, .slice a12 v11.length k13)] ⟨rfl, trivial⟩ ?_
    refine Cov.same (bl' := []) (sl' := []) (Fs' := G :: Fs) rfl rfl rfl ?_
    unfold play_New_J1 at r16
    try dsimp only at r16
    refine Cov.seq ?_
    refine Cov.region rfl ?_
    refine Cov.q .ro (.move rfl) rfl ?_
    refine Cov.q .ro (.build [_, _] [(0, _)] ty66 pl66 rfl rfl) rfl ?_
    refine Cov.box [_, _] .ro rfl rfl rfl (fun b17 hb17 => ?_)
    refine Cov.q .ro (.assign rfl) rfl ?_
    refine Cov.region_end ?_
    cases r16
    refine Cov.retS (c := ⟨6, none⟩) (.inr ⟨_, rfl⟩) [.tmp 2] [_] rfl Try.func6 Try.results6 ⟨RV.tmp rfl, trivial⟩ (fun _ h => List.mem_cons_of_mem _ h) ⟨a12, k13, _, rfl, rfl, rfl, s14⟩
  · intro hb18
    refine Cov.cond_dec rfl (fun c19 => ?_) (fun c19 => ?_)
    · have r20 := ifT h c19; clear h
      refine Cov.region rfl ?_
      refine Cov.q .ro (.move rfl) rfl ?_
      obtain ⟨u21, hu21, r22⟩ := bind_some r20; clear r20
      obtain ⟨a23, k24, h25, s26⟩ := SlR.sub s0 hu21
      refine Cov.q .ro (.sliceR s0 rfl hu21 sl22 ty5.sz (fun _ => .no) (fun h => .yes' rfl h) h25) rfl ?_
      refine Cov.q .ro (.assign rfl) rfl ?_
      refine Cov.region_end ?_
      refine Cov.prune _ ?_ (Cov.same rfl rfl rfl (hb18 (u21, a23, k24) ⟨s26, r22⟩))
      exact ⟨rfl, trivial⟩
    · have r27 := ifF h c19; clear h
      refine Cov.skip ?_
      refine Cov.prune _ ?_ (Cov.same rfl rfl rfl (hb18 (x0, a0, k0) ⟨s0, r27⟩))
      exact ⟨rfl, trivial⟩
set_option maxHeartbeats 4000000 in
set_option maxRecDepth 100000 in
theorem play_Dice_Pick_c {Fs : List Hp} {G : Hp} {p0 : Nat} {a0_0 : Option Addr} {k0_0 : Nat} {x0_0 : List Int} {x0_1 : Int} {x1 : Int} {r : (Int × ((List Int) × Int))} (hG : G ∈ Fs) (s0_0 : SlR (Rep.int .u8) G a0_0 k0_0 x0_0) (h : play_Dice_Pick (x0_0, x0_1) x1 = some r) : RetS Try.prog 8 #[.pointer (some ⟨p0, 0, none⟩), .int .i64 x1] Fs [(p0, .cells #[.slice a0_0 x0_0.length k0_0, .int .i64 x0_1] 66 (0, 0))] [] (fun v bo so => ∃ a0 : Option Addr, ∃ k0 : Nat, v = .int .i64 r.1 ∧ bo = [(p0, .cells #[.slice a0 r.2.1.length k0, .int .i64 r.2.2] 66 (0, 0))] ∧ so = [] ∧ SlR (Rep.int .u8) G a0 k0 r.2.1) := by
  unfold play_Dice_Pick at h
  try dsimp only at h
  refine RetS.of (vs := [_, _]) Try.func8 rfl Try.ntmps8 [(0, _), (1, _)] ⟨rfl, rfl, trivial⟩ rfl hG fun w0 S0 hS0 B0 => ?_
  refine Cov.seq ?_
  refine Cov.region rfl ?_
  refine Cov.q .ro (.assign rfl) rfl ?_
  refine Cov.region_end ?_
  refine Cov.seq ?_
  refine Cov.seq ?_
  refine Cov.drawL (.q 0 (.q 1 (.q 2 (.q 3 (.q 4 (.q 5 (.q 6 (.q 7 (.q 8 (.q 9 .nil)))))))))) [_] (by kernel_rfl) (by kernel_rfl) (pick_mem [0] rfl) ?_
  refine Cov.dq (.move rfl) rfl ?_
  refine Cov.dq (.nilCheck rfl rfl) rfl ?_
  refine Cov.dq (.fieldAddr 1 rfl fl66_1 ty3.sz rfl) rfl ?_
  refine Cov.dq (.load_own 0 rfl rfl ty3 rfl) rfl ?_
  refine Cov.dq (.move rfl) rfl ?_
  refine Cov.dq (.nilCheck rfl rfl) rfl ?_
  refine Cov.dq (.fieldAddr 0 rfl fl66_0 ty22.sz rfl) rfl ?_
  refine Cov.dq (.load_own 0 rfl rfl ty22 rfl) rfl ?_
  refine Cov.dq (.len_sl rfl rfl sl22) rfl ?_
  refine Cov.dq (.geq rfl rfl) rfl ?_
  refine Cov.draw_end ?_
  refine Cov.cond_dec rfl (fun c1 => ?_) (fun c1 => ?_)
  · have r2 := ifT h c1; clear h
    refine Cov.seq ?_
    refine Cov.region rfl ?_
    refine Cov.q .ro (.assign rfl) rfl ?_
    refine Cov.region_end ?_
    cases r2
    refine Cov.retS (c := ⟨8, none⟩) (.inr ⟨_, rfl⟩) [.tmp 4] [_] rfl Try.func8 Try.results8 ⟨RV.tmp rfl, trivial⟩ (fun _ h => List.mem_cons_of_mem _ h) ⟨a0_0, k0_0, rfl, rfl, rfl, s0_0⟩
  · have r3 := ifF h c1; clear h
    refine Cov.skip ?_
    refine Cov.seq ?_
    refine Cov.region rfl ?_
    refine Cov.q .ro (.move rfl) rfl ?_
    refine Cov.q .ro (.nilCheck rfl rfl) rfl ?_
    refine Cov.q .ro (.fieldAddr 1 rfl fl66_1 ty3.sz rfl) rfl ?_
    refine Cov.q .ro (.load_own 0 rfl rfl ty3 rfl) rfl ?_
    refine Cov.q .ro (.addw rfl rfl) rfl ?_
    refine Cov.q .ro (.nilCheck rfl rfl) rfl ?_
    refine Cov.q .ro (.fieldAddr 1 rfl fl66_1 ty3.sz rfl) rfl ?_
    refine Cov.store 0 [_, _] [_] .ro rfl rfl rfl ty3 rfl rfl rfl rfl ?_
    refine Cov.region_end ?_
    refine Cov.prune [(0, _), (1, _)] ⟨rfl, rfl, trivial⟩ ?_
    refine Cov.seq ?_
    refine Cov.drawL (.q 0 (.q 1 (.q 2 (.q 3 (.q 4 (.q 5 (.q 6 (.q 7 (.q 8 (.q 9 (.q 10 (.q 11 (.q 12 (.q 13 (.q 14 .nil))))))))))))))) [_] (by kernel_rfl) (by kernel_rfl) (pick_mem [0] rfl) ?_
    refine Cov.dq (.move rfl) rfl ?_
    refine Cov.dq (.nilCheck rfl rfl) rfl ?_
    refine Cov.dq (.fieldAddr 0 rfl fl66_0 ty22.sz rfl) rfl ?_
    refine Cov.dq (.load_own 0 rfl rfl ty22 rfl) rfl ?_
    refine Cov.dq (.move rfl) rfl ?_
    refine Cov.dq (.nilCheck rfl rfl) rfl ?_
    refine Cov.dq (.fieldAddr 1 rfl fl66_1 ty3.sz rfl) rfl ?_
    refine Cov.dq (.load_own 0 rfl rfl ty3 rfl) rfl ?_
    refine Cov.dq (.subw rfl rfl) rfl ?_
    obtain ⟨u4, hu4, r5⟩ := bind_some r3; clear r3
    obtain ⟨c6, p7, h8⟩ := SlR.get s0_0 hu4
    obtain rfl := h8
    refine Cov.dq (.idxR s0_0 rfl rfl hu4 sl22 ty5.sz) rfl ?_
    refine Cov.dq (.load_rp p7 List.mem_cons_self rfl ty5 rfl) rfl ?_
    refine Cov.dq (.convw Try.underlying5 Try.underlying3 rfl) rfl ?_
    refine Cov.dq (.move rfl) rfl ?_
    obtain ⟨u9, hu9, r10⟩ := bind_some r5; clear r5
    refine Cov.dq (.remt rfl rfl (nz_some hu9)) rfl ?_
    refine Cov.dq (.assign rfl) rfl ?_
    refine Cov.draw_end ?_
    refine Cov.prune [(4, _)] ⟨rfl, trivial⟩ ?_
    cases r10
    refine Cov.retS (c := ⟨8, none⟩) (.inr ⟨_, rfl⟩) [.tmp 4] [_] rfl Try.func8 Try.results8 ⟨RV.tmp rfl, trivial⟩ (fun _ h => List.mem_cons_of_mem _ h) ⟨a0_0, k0_0, rfl, rfl, rfl, s0_0⟩
set_option maxHeartbeats 4000000 in
set_option maxRecDepth 100000 in
theorem play_Dice_Hashing_c {Fs : List Hp} {G : Hp} {p0 : Nat} {a0_0 : Option Addr} {k0_0 : Nat} {x0_0 : List Int} {x0_1 : Int} {r : ((Int × (List (Int × Int))) × ((List Int) × Int))} (hG : G ∈ Fs) (s0_0 : SlR (Rep.int .u8) G a0_0 k0_0 x0_0) (h : play_Dice_Hashing (x0_0, x0_1) = some r) : RetW Try.prog 7 #[.pointer (some ⟨p0, 0, none⟩)] Fs [(p0, .cells #[.slice a0_0 x0_0.length k0_0, .int .i64 x0_1] 66 (0, 0))] [] (fun v bo so G => ∃ a0 : Option Addr, ∃ k0 : Nat, ∃ a1 : Option Addr, ∃ k1 : Nat, v = .agg #[.int .i64 r.1.1, .slice a0 r.1.2.length k0] ∧ bo = [(p0, .cells #[.slice a1 r.2.1.length k1, .int .i64 r.2.2] 66 (0, 0))] ∧ so = [] ∧ SlR (Rep.pair (Rep.int .i64) (Rep.int .i64)) G a0 k0 r.1.2 ∧ SlR (Rep.int .u8) G a1 k1 r.2.1) := by
  unfold play_Dice_Hashing at h
  try dsimp only at h
  refine RetW.of (vs := [_]) Try.func7 rfl Try.ntmps7 [(0, _)] ⟨rfl, trivial⟩ rfl hG fun w0 S0 hS0 B0 => ?_
  refine Cov.seq ?_
  refine Cov.region rfl ?_
  refine Cov.alloc .ro ty28 rfl (fun b1 hb1 => ?_)
  refine Cov.region_end ?_
  refine Cov.seq ?_
  refine Cov.region rfl ?_
  refine Cov.q .ro (.move rfl) rfl ?_
  obtain ⟨u2, hu2, r3⟩ := bind_some h; clear h
  refine Cov.pull 1 rfl [_, _] rfl ?_
  refine Cov.callS (b1 := [_]) (b2 := [_]) (s1 := []) [_, _] [] .ro rfl rfl Try.call8 rfl rfl (play_Dice_Pick_c (G := G) List.mem_cons_self s0_0 hu2) rfl (fun v5 bo so h4 => ?_)
  obtain ⟨a6, k7, rfl, rfl, rfl, s8⟩ := h4
  refine Cov.same (bl' := [_, _]) (sl' := []) rfl rfl rfl ?_
  refine Cov.q .ro (.addw rfl rfl) rfl ?_
  refine Cov.q .ro (.build [_, _] [(0, _)] ty28 pl28 rfl rfl) rfl ?_
  refine Cov.alloc .ro ty28 rfl (fun b9 hb9 => ?_)
  refine Cov.store 0 [_, _] [_, _, _] .ro rfl rfl rfl ty28 rfl rfl rfl rfl ?_
  refine Cov.region_end ?_
  refine Cov.seq ?_
  refine Cov.seq ?_
  refine Cov.region rfl ?_
  refine Cov.q .ro (.move rfl) rfl ?_
  obtain ⟨u10, hu10, r11⟩ := bind_some r3; clear r3
  refine Cov.pull 1 rfl [_, _, _] rfl ?_
  refine Cov.callS (b1 := [_]) (b2 := [_, _]) (s1 := []) [_, _] [] .ro rfl rfl Try.call8 rfl rfl (play_Dice_Pick_c (G := G) List.mem_cons_self s8 hu10) rfl (fun v13 bo so h12 => ?_)
  obtain ⟨a14, k15, rfl, rfl, rfl, s16⟩ := h12
  refine Cov.same (bl' := [_, _, _]) (sl' := []) rfl rfl rfl ?_
  refine Cov.q .ro (.addw rfl rfl) rfl ?_
  refine Cov.q .ro (.assign rfl) rfl ?_
  refine Cov.region_end ?_
  refine Cov.cutB (β := List Int × Option Addr × Nat × Int × Int × (List (Int × Int)) × Option Addr × Nat × List Value × Int) (fun y => []) [(2, _), (3, _)] (fun y => G :: Fs) (fun y => [(p0, .cells #[.slice y.2.1 y.1.length y.2.2.1, .int .i64 y.2.2.2.1] 66 (0, 0)), (b9, .cells #[.int .i64 y.2.2.2.2.1, .slice y.2.2.2.2.2.2.1 y.2.2.2.2.2.1.length y.2.2.2.2.2.2.2.1] 28 (0, 0)), (b1, .cells #[.int .i64 y.2.2.2.2.2.2.2.2.2, .slice none 0 0] 28 (0, 0))]) [] (fun y => [.s (.slice y.2.2.2.2.2.2.1 y.2.2.2.2.2.1.length y.2.2.2.2.2.2.2.1) 68 2 y.2.2.2.2.2.1.length y.2.2.2.2.2.2.2.2.1]) [] (fun y => SlR (Rep.int .u8) G y.2.1 y.2.2.1 y.1 ∧ OL (Rep.pair (Rep.int .i64) (Rep.int .i64)) G y.2.2.2.2.2.2.2.2.1 y.2.2.2.2.2.1 ∧ play_Dice_Hashing_J1 y.1 y.2.2.2.1 y.2.2.2.2.1 y.2.2.2.2.2.1 y.2.2.2.2.2.2.2.2.2 = some r) ⟨rfl, rfl, trivial⟩ [] rfl [] rfl ?_ ?_
  · intro y hI
    obtain ⟨v128, a129, k130, v132, v133, v134, a135, k136, cs137, v140⟩ := y
    obtain ⟨s131, o138, r142⟩ := hI
    try dsimp only at s131 o138 r142
    refine Cov.prune [(2, _), (3, _)] ⟨rfl, rfl, trivial⟩ ?_
    refine Cov.same (bl' := [(p0, .cells #[.slice a129 v128.length k130, .int .i64 v132] 66 (0, 0)), (b9, .cells #[.int .i64 v133, .slice a135 v134.length k136] 28 (0, 0)), (b1, .cells #[.int .i64 v140, .slice none 0 0] 28 (0, 0))]) (sl' := [.s (.slice a135 v134.length k136) 68 2 v134.length cs137]) (Fs' := G :: Fs) rfl rfl rfl ?_
    unfold play_Dice_Hashing_J1 at r142
    try dsimp only at r142
    refine Cov.seq ?_
    refine Cov.region rfl ?_
    refine Cov.q .ro (.load_own_a 1 [_, _] rfl rfl ty28 rfl) rfl ?_
    refine Cov.store 2 [_, _] [_, _, _] .ro rfl rfl rfl ty28 rfl rfl rfl rfl ?_
    refine Cov.region_end ?_
    refine Cov.freezeR 0 rfl rfl o138 [] rfl B0 (fun G143 e144 B145 s146 => ?_)
    cases r142
    refine Cov.pull 2 rfl [_, _, _] rfl ?_
    refine Cov.pull 2 rfl [_, _, _] rfl ?_
    refine Cov.retWD 2 (c := ⟨7, none⟩) (.inr ⟨_, rfl⟩) [.cell 2 28] [_] rfl Try.func7 Try.results7 ⟨RV.cell_a 1 [_, _] rfl rfl ty28 rfl, trivial⟩ (fun _ h => List.mem_cons_of_mem _ h) List.mem_cons_self B145 (by subst hS0; simp [blks]) (fun G' hg => ⟨a135, k136, a129, k130, rfl, rfl, rfl, (SlR.mono hg s146), (SlR.mono hg (SlR.mono e144 s131))⟩)
  · intro hb148
    refine Cov.block ?_
    refine Cov.own_nil 68 2 ?_
    refine Cov.pull 1 rfl [_, _, _] rfl ?_
    refine Cov.pull 1 rfl [_, _, _] rfl ?_
    refine Cov.loop2 (α := Nat × Int × List Int × Option Addr × Nat × Int × (List (Int × Int)) × Option Addr × Nat × List Value) (fun y => [(4, .int .i64 y.2.1)]) [(0, _), (2, _), (3, _)] (fun y => []) (fun y => [(p0, .cells #[.slice y.2.2.2.1 y.2.2.1.length y.2.2.2.2.1, .int .i64 y.2.2.2.2.2.1] 66 (0, 0)), (b9, .cells #[.int .i64 (w64 (2 + u2.1)), .slice y.2.2.2.2.2.2.2.1 y.2.2.2.2.2.2.1.length y.2.2.2.2.2.2.2.2.1] 28 (0, 0))]) [_] (fun y => [.s (.slice y.2.2.2.2.2.2.2.1 y.2.2.2.2.2.2.1.length y.2.2.2.2.2.2.2.2.1) 68 2 y.2.2.2.2.2.2.1.length y.2.2.2.2.2.2.2.2.2]) [] (fun y => SlR (Rep.int .u8) G y.2.2.2.1 y.2.2.2.2.1 y.2.2.1 ∧ OL (Rep.pair (Rep.int .i64) (Rep.int .i64)) G y.2.2.2.2.2.2.2.2.2 y.2.2.2.2.2.2.1 ∧ play_Dice_Hashing_L2 play_Dice_Hashing_J1 (w64 (2 + u2.1)) y.1 y.2.1 y.2.2.1 y.2.2.2.2.2.1 y.2.2.2.2.2.2.1 = some r) (fun y => y.1) (big, (w64 (1 + u10.1)), u10.2.1, a14, k15, u10.2.2, ([] : List (Int × Int)), none, 0, []) ⟨s16, (OL.nil (Rp' := (Rep.pair (Rep.int .i64) (Rep.int .i64)))), r11⟩ ⟨rfl, rfl, rfl, rfl, trivial⟩ rfl rfl rfl (fun y hI hb230 => ?_)
    obtain ⟨n215, v217, v218, a219, k220, v222, v223, a224, k225, cs226⟩ := y
    obtain ⟨s221, o227, r229⟩ := hI
    try dsimp only at s221 o227 r229
    refine Cov.prune [(4, .int .i64 v217), (0, _), (2, _), (3, _)] ⟨rfl, rfl, rfl, rfl, trivial⟩ ?_
    refine Cov.same (bl' := [(p0, .cells #[.slice a219 v218.length k220, .int .i64 v222] 66 (0, 0)), (b9, .cells #[.int .i64 (w64 (2 + u2.1)), .slice a224 v223.length k225] 28 (0, 0)), _]) (sl' := [.s (.slice a224 v223.length k225) 68 2 v223.length cs226]) (Fs' := G :: Fs) rfl rfl rfl ?_
    obtain ⟨m233, rfl⟩ : ∃ m, n215 = m + 1 := by cases n215 with | zero => exact absurd (show (none : Option _) = some _ from r229) (by simp) | succ m => exact ⟨m, rfl⟩
    have r232 : play_Dice_Hashing_B2 play_Dice_Hashing_J1 (w64 (2 + u2.1)) (play_Dice_Hashing_L2 play_Dice_Hashing_J1 (w64 (2 + u2.1)) m233) v217 v218 v222 v223 = some r := r229; clear r229; unfold play_Dice_Hashing_B2 at r232; try dsimp only at r232
    refine Cov.seq ?_
    refine Cov.seq ?_
    refine Cov.region rfl ?_
    refine Cov.q .ro (.move rfl) rfl ?_
    refine Cov.q .ro (.gtr rfl rfl) rfl ?_
    refine Cov.region_end ?_
    refine Cov.cond_dec rfl (fun c234 => ?_) (fun c234 => ?_)
    · have r235 := ifT r232 c234; clear r232
      refine Cov.skip ?_
      refine Cov.seq ?_
      refine Cov.block ?_
      refine Cov.drawL (.q 0 (.q 1 (.q 2 (.q 5 (.e 3 1 (.q 4 (.e 6 1 (.q 7 (.e 8 1 (.e 9 1 (.q 10 (.e 11 2 .nil)))))))))))) [_, _] (by kernel_rfl) (by kernel_rfl) (pick_mem [1, 2] rfl) ?_
      refine Cov.dq (.fieldAddr 1 rfl fl28_1 ty26.sz rfl) rfl ?_
      refine Cov.dq (.load_own 0 rfl rfl ty26 rfl) rfl ?_
      refine Cov.dq (.move rfl) rfl ?_
      refine Cov.dq (.move rfl) rfl ?_
      obtain ⟨u236, hu236, r237⟩ := bind_some r235; clear r235
      refine Cov.callS (b1 := [_]) (b2 := [_, _]) (s1 := []) [_, _] [] .d1 rfl rfl Try.call8 rfl rfl (play_Dice_Pick_c (G := G) List.mem_cons_self s221 hu236) rfl (fun v239 bo so h238 => ?_)
      obtain ⟨a240, k241, rfl, rfl, rfl, s242⟩ := h238
      refine Cov.same (bl' := [_, _, _]) (sl' := [_]) rfl rfl rfl ?_
      refine Cov.clsL (HpLe.refl _) (pick_mem [1, 2] rfl) ?_
      refine Cov.dq (.addw rfl rfl) rfl ?_
      obtain ⟨u243, hu243, r244⟩ := bind_some r237; clear r237
      refine Cov.callS (b1 := [_]) (b2 := [_, _]) (s1 := []) [_, _] [] .d1 rfl rfl Try.call8 rfl rfl (play_Dice_Pick_c (G := G) List.mem_cons_self s242 hu243) rfl (fun v246 bo so h245 => ?_)
      obtain ⟨a247, k248, rfl, rfl, rfl, s249⟩ := h245
      refine Cov.same (bl' := [_, _, _]) (sl' := [_]) rfl rfl rfl ?_
      refine Cov.clsL (HpLe.refl _) (pick_mem [1, 2] rfl) ?_
      refine Cov.dq (.build [_, _] [(0, _), (1, _)] ty68 pl68 rfl rfl) rfl ?_
      refine Cov.lit [_, _] [(0, _)] .d1 sl26 ty68 rfl rfl rfl rfl rfl rfl (fun b250 hb250 => ?_)
      have o251 : OL (Rep.pair (Rep.int .i64) (Rep.int .i64)) G [.int .i64 (w64 (1 + u236.1)), .int .i64 u243.1] ([((w64 (1 + u236.1)), u243.1)] : List (Int × Int)) := ((OL.cons rfl (Rep.pairI (Rep.intI .i64 (w64 (1 + u236.1))) (Rep.intI .i64 u243.1)) (OL.nil (Rp' := (Rep.pair (Rep.int .i64) (Rep.int .i64))))) :)
      refine Cov.reval 24 (n' := ([((w64 (1 + u236.1)), u243.1)] : List (Int × Int)).length) rfl rfl ?_
      refine Cov.clsL (HpLe.refl _) (pick_mem [1, 2] rfl) ?_
      obtain ⟨u257, hu257, r258⟩ := bind_some r244; clear r244
      refine Cov.appO (Q := (Rep.pair (Rep.int .i64) (Rep.int .i64))) 0 .d1 sl26 ty68 rfl rfl rfl rfl rfl rfl o227 o251 rfl rfl rfl B0 hu257 rfl (fun a253 k254 cs255 o256 => ?_)
      refine Cov.clsL (HpLe.refl _) (pick_mem [1, 2] rfl) ?_
      refine Cov.dq (.fieldAddr 1 rfl fl28_1 ty26.sz rfl) rfl ?_
      refine Cov.store 1 [_, _] [_, _, _] .d2 rfl rfl rfl ty26 rfl rfl rfl rfl ?_
      refine Cov.draw_end ?_
      refine Cov.prune [(4, _), (0, _), (2, _), (3, _)] ⟨rfl, rfl, rfl, rfl, trivial⟩ ?_
      refine Cov.inBlock ?_
      refine Cov.region rfl ?_
      refine Cov.q .ro (.move rfl) rfl ?_
      refine Cov.q .ro (.subw rfl rfl) rfl ?_
      refine Cov.q .ro (.assign rfl) rfl ?_
      refine Cov.region_end ?_
      refine Cov.prune _ ?_ (Cov.same rfl rfl rfl (hb230 (m233, (w64 (v217 - 1)), u243.2.1, a247, k248, u243.2.2, u257, a253, k254, cs255) ⟨s249, o256, r258⟩ (Nat.lt_succ_self _)))
      exact ⟨rfl, rfl, rfl, rfl, trivial⟩
    · have r260 := ifF r232 c234; clear r232
      refine Cov.exit rfl ?_
      refine Cov.prune _ ?_ (Cov.same rfl rfl rfl (hb148 (v218, a219, k220, v222, (w64 (2 + u2.1)), v223, a224, k225, cs226, 0) ⟨s221, o227, r260⟩))
      exact ⟨rfl, rfl, trivial⟩
end Go.Proofs.Ytnfalgmfmiolbaa
end
