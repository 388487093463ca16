/- The walks. Printed by wip/lift/drive.py. -/
import Derived.Test.YtmjidoadjinhgaaW1
namespace Go.Proofs.Ytmjidoadjinhgaa
open Go.RowKit
set_option linter.unusedSimpArgs false
set_option linter.unusedVariables false
set_option synthInstance.maxSize 2000
set_option synthInstance.maxHeartbeats 400000

set_option maxHeartbeats 4000000 in
theorem ref28_Units_c {Fs : List Hp} {G : Hp} {x0_0 : Int} {x0_1 : Int} {x0_2 : Int} {x0_3 : Int} {x1 : Int} {r : (Int × Int)} (hG : G ∈ Fs)  (h : ref28_Units (x0_0, x0_1, x0_2, x0_3) x1 = some r) : RetS Try.prog 34 #[.agg #[.int .i64 x0_0, .int .i64 x0_1, .int .i64 x0_2, .int .i64 x0_3], .int .i64 x1] Fs [] [] (fun v bo so => v = .tuple #[.int .i64 r.1, .int .i64 r.2] ∧ bo = [] ∧ so = []) := by
  unfold ref28_Units at h
  try dsimp only at h
  refine RetS.of (vs := [_, _]) Try.func34 rfl Try.ntmps34 [(0, _), (1, _)] ⟨rfl, rfl, trivial⟩ rfl hG fun w0 S0 hS0 B0 => ?_
  refine Cov.seq ?_
  refine Cov.region rfl ?_
  refine Cov.box [_, _, _, _] .ro rfl rfl rfl (fun b1 hb1 => ?_)
  refine Cov.q .ro (.assign rfl) rfl ?_
  refine Cov.q .ro (.assign rfl) rfl ?_
  refine Cov.region_end ?_
  refine Cov.seq ?_
  refine Cov.seq ?_
  refine Cov.region rfl ?_
  refine Cov.q .ro (.load_own_a 0 [_, _, _, _] rfl rfl ty33 rfl) rfl ?_
  obtain ⟨u2, hu2, r3⟩ := bind_some h; clear h
  refine Cov.callS (b1 := []) (b2 := [_]) (s1 := []) [_] [] .ro rfl rfl Try.call38 rfl rfl (ref23_Shape_c (G := G) List.mem_cons_self  hu2) rfl (fun v5 bo so h4 => ?_)
  obtain ⟨rfl, rfl, rfl⟩ := h4
  refine Cov.same (bl' := [_]) (sl' := []) rfl rfl rfl ?_
  refine Cov.q .ro (.not rfl) rfl ?_
  refine Cov.region_end ?_
  refine Cov.cond rfl (fun c6 => ?_) (fun c6 => ?_)
  · have r7 := ifT r3 c6; clear r3
    refine Cov.seq ?_
    refine Cov.region rfl ?_
    refine Cov.q .ro (.assign rfl) rfl ?_
    refine Cov.q .ro (.assign rfl) rfl ?_
    refine Cov.region_end ?_
    cases r7
    refine Cov.drop 1 0 [] _ rfl rfl ?_
    refine Cov.retS (c := ⟨34, none⟩) (.inr ⟨_, rfl⟩) [.tmp 4, .tmp 5] [_, _] rfl Try.func34 Try.results34 ⟨RV.tmp rfl, RV.tmp rfl, trivial⟩ (fun _ h => List.mem_cons_of_mem _ h) ⟨rfl, rfl, rfl⟩
  · have r8 := ifBF r3 c6; clear r3
    refine Cov.skip ?_
    refine Cov.seq ?_
    refine Cov.seq ?_
    refine Cov.region rfl ?_
    refine Cov.q .ro (.move rfl) rfl ?_
    refine Cov.q .ro (.lss rfl rfl) rfl ?_
    refine Cov.q .ro (.move rfl) rfl ?_
    refine Cov.cutR 3 (β := Unit) (fun y => [(14, .bool (decide ((x1 < 1) ∨ (1024 < x1))))]) [(1, _), (2, _)] (fun y => G :: Fs) (fun y => []) [_] (fun y => []) [] (fun y => True) ⟨rfl, rfl, trivial⟩ [0] rfl [] rfl ?_ ?_
    · rintro _ _
      refine Cov.prune [(14, .bool (decide ((x1 < 1) ∨ (1024 < x1)))), (1, _), (2, _)] ⟨rfl, rfl, rfl, trivial⟩ ?_
      refine Cov.same (bl' := [_]) (sl' := []) (Fs' := G :: Fs) rfl rfl rfl ?_
      refine Cov.region_end ?_
      refine Cov.cond_dec rfl (fun c13 => ?_) (fun c13 => ?_)
      · have r14 := ifT r8 c13; clear r8
        refine Cov.seq ?_
        refine Cov.region rfl ?_
        refine Cov.q .ro (.assign rfl) rfl ?_
        refine Cov.q .ro (.assign rfl) rfl ?_
        refine Cov.region_end ?_
        cases r14
        refine Cov.drop 1 0 [] _ rfl rfl ?_
        refine Cov.retS (c := ⟨34, none⟩) (.inr ⟨_, rfl⟩) [.tmp 4, .tmp 5] [_, _] rfl Try.func34 Try.results34 ⟨RV.tmp rfl, RV.tmp rfl, trivial⟩ (fun _ h => List.mem_cons_of_mem _ h) ⟨rfl, rfl, rfl⟩
      · have r15 := ifF r8 c13; clear r8
        refine Cov.skip ?_
        refine Cov.seq ?_
        refine Cov.region rfl ?_
        refine Cov.q .ro (.load_own_a 0 [_, _, _, _] rfl rfl ty33 rfl) rfl ?_
        refine Cov.q .ro (.move rfl) rfl ?_
        obtain ⟨u16, hu16, r17⟩ := bind_some r15; clear r15
        refine Cov.callS (b1 := []) (b2 := [_]) (s1 := []) [_, _] [] .ro rfl rfl Try.call45 rfl rfl (ref23_Units_c (G := G) List.mem_cons_self  hu16) rfl (fun v19 bo so h18 => ?_)
        obtain ⟨rfl, rfl, rfl⟩ := h18
        refine Cov.same (bl' := [_]) (sl' := []) rfl rfl rfl ?_
        refine Cov.q .ro (.assign rfl) rfl ?_
        refine Cov.q .ro (.assign rfl) rfl ?_
        refine Cov.region_end ?_
        cases r17
        refine Cov.drop 1 0 [] _ rfl rfl ?_
        refine Cov.retS (c := ⟨34, none⟩) (.inr ⟨_, rfl⟩) [.tmp 4, .tmp 5] [_, _] rfl Try.func34 Try.results34 ⟨RV.tmp rfl, RV.tmp rfl, trivial⟩ (fun _ h => List.mem_cons_of_mem _ h) ⟨rfl, rfl, rfl⟩
    · intro hb10
      refine Cov.split 11 rfl (fun c9 => ?_) (fun c9 => ?_)
      · refine Cov.g_off rfl rfl rfl ?_
        refine Cov.g_off rfl rfl rfl ?_
        refine Cov.q .ro (.pick_t rfl rfl) rfl ?_
        refine Cov.prune _ ?_ (Cov.same rfl rfl rfl (hb10 () trivial))
        exact ⟨dor_t c9, rfl, rfl, trivial⟩
      · refine Cov.g_on rfl ?_
        refine Cov.q .ro (.move rfl) rfl ?_
        refine Cov.g_on rfl ?_
        refine Cov.q .ro (.gtr rfl rfl) rfl ?_
        refine Cov.q .ro (.pick_f rfl rfl) rfl ?_
        refine Cov.prune _ ?_ (Cov.same rfl rfl rfl (hb10 () trivial))
        exact ⟨dor_f c9, rfl, rfl, trivial⟩

set_option maxHeartbeats 4000000 in
theorem ref28_Of_c {Fs : List Hp} {G : Hp} {x0_0 : Int} {x0_1 : Int} {x0_2 : Int} {x0_3 : Int} {x1 : Int} {x2 : Int} {x3 : Int} {r : ((Int × Int × Int) × Int)} (hG : G ∈ Fs)  (h : ref28_Of (x0_0, x0_1, x0_2, x0_3) x1 x2 x3 = some r) : RetS Try.prog 14 #[.agg #[.int .i64 x0_0, .int .i64 x0_1, .int .i64 x0_2, .int .i64 x0_3], .int .i64 x1, .int .i64 x2, .int .i64 x3] Fs [] [] (fun v bo so => v = .tuple #[.agg #[.int .i64 r.1.1, .int .i64 r.1.2.1, .int .i64 r.1.2.2], .int .i64 r.2] ∧ bo = [] ∧ so = []) := by
  unfold ref28_Of at h
  try dsimp only at h
  refine RetS.of (vs := [_, _, _, _]) Try.func14 rfl Try.ntmps14 [(0, _), (1, _), (2, _), (3, _)] ⟨rfl, rfl, rfl, rfl, trivial⟩ rfl hG fun w0 S0 hS0 B0 => ?_
  refine Cov.seq ?_
  refine Cov.region rfl ?_
  refine Cov.box [_, _, _, _] .ro rfl rfl rfl (fun b1 hb1 => ?_)
  refine Cov.alloc .ro ty27 rfl (fun b2 hb2 => ?_)
  refine Cov.q .ro (.assign rfl) rfl ?_
  refine Cov.region_end ?_
  refine Cov.seq ?_
  refine Cov.region rfl ?_
  refine Cov.q .ro (.load_own_a 1 [_, _, _, _] rfl rfl ty33 rfl) rfl ?_
  refine Cov.q .ro (.move rfl) rfl ?_
  obtain ⟨u3, hu3, r4⟩ := bind_some h; clear h
  refine Cov.callS (b1 := []) (b2 := [_, _]) (s1 := []) [_, _] [] .ro rfl rfl Try.call34 rfl rfl (ref28_Units_c (G := G) List.mem_cons_self  hu3) rfl (fun v6 bo so h5 => ?_)
  obtain ⟨rfl, rfl, rfl⟩ := h5
  refine Cov.same (bl' := [_, _]) (sl' := []) rfl rfl rfl ?_
  refine Cov.q .ro (.move rfl) rfl ?_
  refine Cov.q .ro (.extract rfl rfl) rfl ?_
  refine Cov.q .ro (.extract rfl rfl) rfl ?_
  refine Cov.q .ro (.assign rfl) rfl ?_
  refine Cov.q .ro (.assign rfl) rfl ?_
  refine Cov.region_end ?_
  refine Cov.seq ?_
  refine Cov.seq ?_
  refine Cov.region rfl ?_
  refine Cov.q .ro (.move rfl) rfl ?_
  refine Cov.q .ro (.neq rfl rfl) rfl ?_
  refine Cov.region_end ?_
  refine Cov.cond_dec rfl (fun c7 => ?_) (fun c7 => ?_)
  · have r8 := ifT r4 c7; clear r4
    refine Cov.seq ?_
    refine Cov.region rfl ?_
    refine Cov.q .ro (.build [_, _, _] [] ty27 pl27 rfl rfl) rfl ?_
    refine Cov.q .ro (.move rfl) rfl ?_
    refine Cov.store 0 [_, _, _] [_, _] .ro rfl rfl rfl ty27 rfl rfl rfl rfl ?_
    refine Cov.q .ro (.assign rfl) rfl ?_
    refine Cov.region_end ?_
    refine Cov.prune [(8, _), (9, _)] ⟨rfl, rfl, trivial⟩ ?_
    cases r8
    refine Cov.retSD 2 (c := ⟨14, none⟩) (.inr ⟨_, rfl⟩) [.cell 8 27, .tmp 9] [_, _] rfl Try.func14 Try.results14 ⟨RV.cell_a 0 [_, _, _] rfl rfl ty27 rfl, RV.tmp rfl, trivial⟩ (fun _ h => List.mem_cons_of_mem _ h) ⟨rfl, rfl, rfl⟩
  · have r9 := ifF r4 c7; clear r4
    refine Cov.skip ?_
    refine Cov.seq ?_
    refine Cov.seq ?_
    refine Cov.region rfl ?_
    refine Cov.q .ro (.move rfl) rfl ?_
    refine Cov.q .ro (.lss rfl rfl) rfl ?_
    refine Cov.q .ro (.move rfl) rfl ?_
    refine Cov.cutR 3 (β := Unit) (fun y => [(28, .bool (decide ((x2 < 1) ∨ (64 < x2))))]) [(2, _), (3, _), (4, _), (8, _), (10, _)] (fun y => G :: Fs) (fun y => []) [_, _] (fun y => []) [] (fun y => True) ⟨rfl, rfl, rfl, rfl, rfl, trivial⟩ [0, 1] rfl [] rfl ?_ ?_
    · rintro _ _
      refine Cov.prune [(28, .bool (decide ((x2 < 1) ∨ (64 < x2)))), (2, _), (3, _), (4, _), (8, _), (10, _)] ⟨rfl, rfl, rfl, rfl, rfl, rfl, trivial⟩ ?_
      refine Cov.same (bl' := [_, _]) (sl' := []) (Fs' := G :: Fs) rfl rfl rfl ?_
      refine Cov.q .ro (.move rfl) rfl ?_
      refine Cov.cutR 3 (β := Unit) (fun y => [(32, .bool (decide (((x2 < 1) ∨ (64 < x2)) ∨ (x3 < 1))))]) [(2, _), (3, _), (4, _), (8, _), (10, _)] (fun y => G :: Fs) (fun y => []) [_, _] (fun y => []) [] (fun y => True) ⟨rfl, rfl, rfl, rfl, rfl, trivial⟩ [0, 1] rfl [] rfl ?_ ?_
      · rintro _ _
        refine Cov.prune [(32, .bool (decide (((x2 < 1) ∨ (64 < x2)) ∨ (x3 < 1)))), (2, _), (3, _), (4, _), (8, _), (10, _)] ⟨rfl, rfl, rfl, rfl, rfl, rfl, trivial⟩ ?_
        refine Cov.same (bl' := [_, _]) (sl' := []) (Fs' := G :: Fs) rfl rfl rfl ?_
        refine Cov.q .ro (.move rfl) rfl ?_
        refine Cov.cutR 3 (β := Unit) (fun y => [(36, .bool (decide ((((x2 < 1) ∨ (64 < x2)) ∨ (x3 < 1)) ∨ (16 < x3))))]) [(2, _), (3, _), (4, _), (8, _), (10, _)] (fun y => G :: Fs) (fun y => []) [_, _] (fun y => []) [] (fun y => True) ⟨rfl, rfl, rfl, rfl, rfl, trivial⟩ [0, 1] rfl [] rfl ?_ ?_
        · rintro _ _
          refine Cov.prune [(36, .bool (decide ((((x2 < 1) ∨ (64 < x2)) ∨ (x3 < 1)) ∨ (16 < x3)))), (2, _), (3, _), (4, _), (8, _), (10, _)] ⟨rfl, rfl, rfl, rfl, rfl, rfl, trivial⟩ ?_
          refine Cov.same (bl' := [_, _]) (sl' := []) (Fs' := G :: Fs) rfl rfl rfl ?_
          refine Cov.region_end ?_
          refine Cov.cond_dec rfl (fun c22 => ?_) (fun c22 => ?_)
          · have r23 := ifT r9 c22; clear r9
            refine Cov.seq ?_
            refine Cov.region rfl ?_
            refine Cov.q .ro (.build [_, _, _] [] ty27 pl27 rfl rfl) rfl ?_
            refine Cov.store 0 [_, _, _] [_, _] .ro rfl rfl rfl ty27 rfl rfl rfl rfl ?_
            refine Cov.q .ro (.assign rfl) rfl ?_
            refine Cov.region_end ?_
            cases r23
            refine Cov.retSD 2 (c := ⟨14, none⟩) (.inr ⟨_, rfl⟩) [.cell 8 27, .tmp 9] [_, _] rfl Try.func14 Try.results14 ⟨RV.cell_a 0 [_, _, _] rfl rfl ty27 rfl, RV.tmp rfl, trivial⟩ (fun _ h => List.mem_cons_of_mem _ h) ⟨rfl, rfl, rfl⟩
          · have r24 := ifF r9 c22; clear r9
            refine Cov.skip ?_
            refine Cov.seq ?_
            refine Cov.region rfl ?_
            refine Cov.q .ro (.move rfl) rfl ?_
            refine Cov.q .ro (.fieldAddr 1 rfl fl33_1 ty3.sz rfl) rfl ?_
            refine Cov.q .ro (.load_own 1 rfl rfl ty3 rfl) rfl ?_
            refine Cov.q .ro (.mulw rfl rfl) rfl ?_
            refine Cov.q .ro (.assign rfl) rfl ?_
            refine Cov.region_end ?_
            refine Cov.seq ?_
            refine Cov.region rfl ?_
            refine Cov.q .ro (.move rfl) rfl ?_
            refine Cov.q .ro (.move rfl) rfl ?_
            refine Cov.q .ro (.mulw rfl rfl) rfl ?_
            refine Cov.q .ro (.move rfl) rfl ?_
            refine Cov.q .ro (.move rfl) rfl ?_
            refine Cov.q .ro (.mulw rfl rfl) rfl ?_
            refine Cov.q .ro (.move rfl) rfl ?_
            refine Cov.q .ro (.move rfl) rfl ?_
            refine Cov.q .ro (.mulw rfl rfl) rfl ?_
            refine Cov.q .ro (.move rfl) rfl ?_
            refine Cov.q .ro (.mulw rfl rfl) rfl ?_
            refine Cov.q .ro (.build [_, _, _] [(0, _), (1, _), (2, _)] ty27 pl27 rfl rfl) rfl ?_
            refine Cov.store 0 [_, _, _] [_, _] .ro rfl rfl rfl ty27 rfl rfl rfl rfl ?_
            refine Cov.q .ro (.assign rfl) rfl ?_
            refine Cov.region_end ?_
            refine Cov.prune [(8, _), (9, _)] ⟨rfl, rfl, trivial⟩ ?_
            cases r24
            refine Cov.retSD 2 (c := ⟨14, none⟩) (.inr ⟨_, rfl⟩) [.cell 8 27, .tmp 9] [_, _] rfl Try.func14 Try.results14 ⟨RV.cell_a 0 [_, _, _] rfl rfl ty27 rfl, RV.tmp rfl, trivial⟩ (fun _ h => List.mem_cons_of_mem _ h) ⟨rfl, rfl, rfl⟩
        · intro hb19
          refine Cov.split 33 rfl (fun c18 => ?_) (fun c18 => ?_)
          · refine Cov.g_off rfl rfl rfl ?_
            refine Cov.g_off rfl rfl rfl ?_
            refine Cov.q .ro (.pick_t rfl rfl) rfl ?_
            refine Cov.prune _ ?_ (Cov.same rfl rfl rfl (hb19 () trivial))
            exact ⟨dor_t c18, rfl, rfl, rfl, rfl, rfl, trivial⟩
          · refine Cov.g_on rfl ?_
            refine Cov.q .ro (.move rfl) rfl ?_
            refine Cov.g_on rfl ?_
            refine Cov.q .ro (.gtr rfl rfl) rfl ?_
            refine Cov.q .ro (.pick_f rfl rfl) rfl ?_
            refine Cov.prune _ ?_ (Cov.same rfl rfl rfl (hb19 () trivial))
            exact ⟨dor_f c18, rfl, rfl, rfl, rfl, rfl, trivial⟩
      · intro hb15
        refine Cov.split 29 rfl (fun c14 => ?_) (fun c14 => ?_)
        · refine Cov.g_off rfl rfl rfl ?_
          refine Cov.g_off rfl rfl rfl ?_
          refine Cov.q .ro (.pick_t rfl rfl) rfl ?_
          refine Cov.prune _ ?_ (Cov.same rfl rfl rfl (hb15 () trivial))
          exact ⟨dor_t c14, rfl, rfl, rfl, rfl, rfl, trivial⟩
        · refine Cov.g_on rfl ?_
          refine Cov.q .ro (.move rfl) rfl ?_
          refine Cov.g_on rfl ?_
          refine Cov.q .ro (.lss rfl rfl) rfl ?_
          refine Cov.q .ro (.pick_f rfl rfl) rfl ?_
          refine Cov.prune _ ?_ (Cov.same rfl rfl rfl (hb15 () trivial))
          exact ⟨dor_f c14, rfl, rfl, rfl, rfl, rfl, trivial⟩
    · intro hb11
      refine Cov.split 25 rfl (fun c10 => ?_) (fun c10 => ?_)
      · refine Cov.g_off rfl rfl rfl ?_
        refine Cov.g_off rfl rfl rfl ?_
        refine Cov.q .ro (.pick_t rfl rfl) rfl ?_
        refine Cov.prune _ ?_ (Cov.same rfl rfl rfl (hb11 () trivial))
        exact ⟨dor_t c10, rfl, rfl, rfl, rfl, rfl, trivial⟩
      · refine Cov.g_on rfl ?_
        refine Cov.q .ro (.move rfl) rfl ?_
        refine Cov.g_on rfl ?_
        refine Cov.q .ro (.gtr rfl rfl) rfl ?_
        refine Cov.q .ro (.pick_f rfl rfl) rfl ?_
        refine Cov.prune _ ?_ (Cov.same rfl rfl rfl (hb11 () trivial))
        exact ⟨dor_f c10, rfl, rfl, rfl, rfl, rfl, trivial⟩

set_option maxHeartbeats 4000000 in
theorem ref28_Sum_c {Fs : List Hp} {G : Hp} {x0_0 : Int} {x0_1 : Int} {x0_2 : Int} {x1_0 : Int} {x1_1 : Int} {x1_2 : Int} {r : Int} (hG : G ∈ Fs)  (h : ref28_Sum (x0_0, x0_1, x0_2) (x1_0, x1_1, x1_2) = some r) : RetS Try.prog 15 #[.agg #[.int .i64 x0_0, .int .i64 x0_1, .int .i64 x0_2], .agg #[.int .i64 x1_0, .int .i64 x1_1, .int .i64 x1_2]] Fs [] [] (fun v bo so => v = .int .i64 r ∧ bo = [] ∧ so = []) := by
  unfold ref28_Sum at h
  try dsimp only at h
  refine RetS.of (vs := [_, _]) Try.func15 rfl Try.ntmps15 [(0, _), (1, _)] ⟨rfl, rfl, trivial⟩ rfl hG fun w0 S0 hS0 B0 => ?_
  refine Cov.seq ?_
  refine Cov.region rfl ?_
  refine Cov.box [_, _, _] .ro rfl rfl rfl (fun b1 hb1 => ?_)
  refine Cov.box [_, _, _] .ro rfl rfl rfl (fun b2 hb2 => ?_)
  refine Cov.q .ro (.assign rfl) rfl ?_
  refine Cov.region_end ?_
  refine Cov.seq ?_
  refine Cov.region rfl ?_
  refine Cov.q .ro (.fieldAddr 0 rfl fl27_0 ty3.sz rfl) rfl ?_
  refine Cov.q .ro (.load_own 1 rfl rfl ty3 rfl) rfl ?_
  refine Cov.q .ro (.fieldAddr 0 rfl fl27_0 ty3.sz rfl) rfl ?_
  refine Cov.q .ro (.load_own 0 rfl rfl ty3 rfl) rfl ?_
  refine Cov.q .ro (.mulw rfl rfl) rfl ?_
  refine Cov.q .ro (.fieldAddr 1 rfl fl27_1 ty3.sz rfl) rfl ?_
  refine Cov.q .ro (.load_own 1 rfl rfl ty3 rfl) rfl ?_
  refine Cov.q .ro (.fieldAddr 1 rfl fl27_1 ty3.sz rfl) rfl ?_
  refine Cov.q .ro (.load_own 0 rfl rfl ty3 rfl) rfl ?_
  refine Cov.q .ro (.mulw rfl rfl) rfl ?_
  refine Cov.q .ro (.addw rfl rfl) rfl ?_
  refine Cov.q .ro (.fieldAddr 2 rfl fl27_2 ty3.sz rfl) rfl ?_
  refine Cov.q .ro (.load_own 1 rfl rfl ty3 rfl) rfl ?_
  refine Cov.q .ro (.fieldAddr 2 rfl fl27_2 ty3.sz rfl) rfl ?_
  refine Cov.q .ro (.load_own 0 rfl rfl ty3 rfl) rfl ?_
  refine Cov.q .ro (.mulw rfl rfl) rfl ?_
  refine Cov.q .ro (.addw rfl rfl) rfl ?_
  refine Cov.q .ro (.assign rfl) rfl ?_
  refine Cov.region_end ?_
  refine Cov.prune [(4, _)] ⟨rfl, trivial⟩ ?_
  cases h
  refine Cov.drop 2 0 [] _ rfl rfl ?_
  refine Cov.retS (c := ⟨15, none⟩) (.inr ⟨_, rfl⟩) [.tmp 4] [_] rfl Try.func15 Try.results15 ⟨RV.tmp rfl, trivial⟩ (fun _ h => List.mem_cons_of_mem _ h) ⟨rfl, rfl, rfl⟩

set_option maxHeartbeats 4000000 in
theorem play_Dice_Scheme_c {Fs : List Hp} {G : Hp} {p0 : Nat} {a0_0 : Option Addr} {k0_0 : Nat} {x0_0 : List Int} {x0_1 : Int} {r : ((Int × Int × Int × Int) × ((List Int) × Int))} (hG : G ∈ Fs) (s0_0 : SlR (Rep.int .u8) G a0_0 k0_0 x0_0) (h : play_Dice_Scheme (x0_0, x0_1) = some r) : RetS Try.prog 19 #[.pointer (some ⟨p0, 0, none⟩)] Fs [(p0, .cells #[.slice a0_0 x0_0.length k0_0, .int .i64 x0_1] 58 (0, 0))] [] (fun v bo so => ∃ a0 : Option Addr, ∃ k0 : Nat, v = .agg #[.int .i64 r.1.1, .int .i64 r.1.2.1, .int .i64 r.1.2.2.1, .int .i64 r.1.2.2.2] ∧ bo = [(p0, .cells #[.slice a0 r.2.1.length k0, .int .i64 r.2.2] 58 (0, 0))] ∧ so = [] ∧ SlR (Rep.int .u8) G a0 k0 r.2.1) := by
  unfold play_Dice_Scheme at h
  try dsimp only at h
  refine RetS.of (vs := [_]) Try.func19 rfl Try.ntmps19 [(0, _)] ⟨rfl, trivial⟩ rfl hG fun w0 S0 hS0 B0 => ?_
  refine Cov.seq ?_
  refine Cov.region rfl ?_
  refine Cov.alloc .ro ty33 rfl (fun b1 hb1 => ?_)
  refine Cov.region_end ?_
  refine Cov.seq ?_
  refine Cov.region rfl ?_
  refine Cov.q .ro (.move rfl) rfl ?_
  obtain ⟨u2, hu2, r3⟩ := bind_some h; clear h
  refine Cov.pull 1 rfl [_, _] rfl ?_
  refine Cov.callS (b1 := [_]) (b2 := [_]) (s1 := []) [_, _] [] .ro rfl rfl Try.call18 rfl rfl (play_Dice_Pick_c (G := G) List.mem_cons_self s0_0 hu2) rfl (fun v5 bo so h4 => ?_)
  obtain ⟨a6, k7, rfl, rfl, rfl, s8⟩ := h4
  refine Cov.same (bl' := [_, _]) (sl' := []) rfl rfl rfl ?_
  refine Cov.q .ro (.addw rfl rfl) rfl ?_
  refine Cov.q .ro (.assign rfl) rfl ?_
  refine Cov.region_end ?_
  refine Cov.seq ?_
  refine Cov.seq ?_
  refine Cov.region rfl ?_
  refine Cov.q .ro (.move rfl) rfl ?_
  obtain ⟨u9, hu9, r10⟩ := bind_some r3; clear r3
  refine Cov.callS (b1 := [_]) (b2 := [_]) (s1 := []) [_, _] [] .ro rfl rfl Try.call18 rfl rfl (play_Dice_Pick_c (G := G) List.mem_cons_self s8 hu9) rfl (fun v12 bo so h11 => ?_)
  obtain ⟨a13, k14, rfl, rfl, rfl, s15⟩ := h11
  refine Cov.same (bl' := [_, _]) (sl' := []) rfl rfl rfl ?_
  refine Cov.region_end ?_
  refine Cov.block ?_
  refine Cov.seq ?_
  refine Cov.region rfl ?_
  refine Cov.q .ro (.eql rfl rfl) rfl ?_
  refine Cov.q .ro (.assign rfl) rfl ?_
  refine Cov.region_end ?_
  refine Cov.cond_dec rfl (fun c16 => ?_) (fun c16 => ?_)
  · have r17 := ifT r10 c16; clear r10
    refine Cov.seq ?_
    refine Cov.region rfl ?_
    refine Cov.q .ro (.move rfl) rfl ?_
    refine Cov.q .ro (.build [_, _, _, _] [(0, _), (1, _)] ty33 pl33 rfl rfl) rfl ?_
    refine Cov.store 1 [_, _, _, _] [_, _] .ro rfl rfl rfl ty33 rfl rfl rfl rfl ?_
    refine Cov.region_end ?_
    cases r17
    refine Cov.pull 1 rfl [_, _] rfl ?_
    refine Cov.retSD 1 (c := ⟨19, none⟩) (.inr ⟨_, rfl⟩) [.cell 2 33] [_] rfl Try.func19 Try.results19 ⟨RV.cell_a 0 [_, _, _, _] rfl rfl ty33 rfl, trivial⟩ (fun _ h => List.mem_cons_of_mem _ h) ⟨a13, k14, rfl, rfl, rfl, s15⟩
  · have r18 := ifF r10 c16; clear r10
    refine Cov.seq ?_
    refine Cov.region rfl ?_
    refine Cov.q .ro (.eql rfl rfl) rfl ?_
    refine Cov.q .ro (.assign rfl) rfl ?_
    refine Cov.region_end ?_
    refine Cov.cond_dec rfl (fun c19 => ?_) (fun c19 => ?_)
    · have r20 := ifT r18 c19; clear r18
      refine Cov.seq ?_
      refine Cov.region rfl ?_
      refine Cov.q .ro (.move rfl) rfl ?_
      refine Cov.q .ro (.move rfl) rfl ?_
      obtain ⟨u21, hu21, r22⟩ := bind_some r20; clear r20
      refine Cov.callS (b1 := [_]) (b2 := [_]) (s1 := []) [_, _] [] .ro rfl rfl Try.call18 rfl rfl (play_Dice_Pick_c (G := G) List.mem_cons_self s15 hu21) rfl (fun v24 bo so h23 => ?_)
      obtain ⟨a25, k26, rfl, rfl, rfl, s27⟩ := h23
      refine Cov.same (bl' := [_, _]) (sl' := []) rfl rfl rfl ?_
      refine Cov.q .ro (.addw rfl rfl) rfl ?_
      refine Cov.q .ro (.build [_, _, _, _] [(0, _), (1, _), (2, _)] ty33 pl33 rfl rfl) rfl ?_
      refine Cov.store 1 [_, _, _, _] [_, _] .ro rfl rfl rfl ty33 rfl rfl rfl rfl ?_
      refine Cov.region_end ?_
      refine Cov.prune [(2, _)] ⟨rfl, trivial⟩ ?_
      cases r22
      refine Cov.pull 1 rfl [_, _] rfl ?_
      refine Cov.retSD 1 (c := ⟨19, none⟩) (.inr ⟨_, rfl⟩) [.cell 2 33] [_] rfl Try.func19 Try.results19 ⟨RV.cell_a 0 [_, _, _, _] rfl rfl ty33 rfl, trivial⟩ (fun _ h => List.mem_cons_of_mem _ h) ⟨a25, k26, rfl, rfl, rfl, s27⟩
    · have r28 := ifF r18 c19; clear r18
      refine Cov.skip ?_
      refine Cov.inBlock ?_
      refine Cov.seq ?_
      refine Cov.seq ?_
      refine Cov.region rfl ?_
      refine Cov.q .ro (.move rfl) rfl ?_
      refine Cov.q .ro (.lss rfl rfl) rfl ?_
      refine Cov.q .ro (.move rfl) rfl ?_
      obtain ⟨u39, h43, r44⟩ := bind_some r28; clear r28
      refine Cov.cutR 4 (β := Option Addr × Nat) (fun y => [(26, .bool u39.1)]) [(0, _), (2, _), (3, _)] (fun y => G :: Fs) (fun y => [(p0, .cells #[.slice y.1 u39.2.1.length y.2, .int .i64 u39.2.2] 58 (0, 0))]) [_] (fun y => []) [] (fun y => SlR (Rep.int .u8) G y.1 y.2 u39.2.1) ⟨rfl, rfl, rfl, trivial⟩ [1] rfl [] rfl ?_ ?_
      · intro y hI
        obtain ⟨a40, k41⟩ := y
        have s42 := hI; clear hI
        try dsimp only at s42
        refine Cov.prune [(26, .bool u39.1), (0, _), (2, _), (3, _)] ⟨rfl, rfl, rfl, rfl, trivial⟩ ?_
        refine Cov.same (bl' := [(p0, .cells #[.slice a40 u39.2.1.length k41, .int .i64 u39.2.2] 58 (0, 0)), _]) (sl' := []) (Fs' := G :: Fs) rfl rfl rfl ?_
        refine Cov.region_end ?_
        refine Cov.cond rfl (fun c47 => ?_) (fun c47 => ?_)
        · have r48 := ifT r44 c47; clear r44
          refine Cov.seq ?_
          refine Cov.region rfl ?_
          refine Cov.q .ro (.move rfl) rfl ?_
          refine Cov.q .ro (.move rfl) rfl ?_
          obtain ⟨u49, hu49, r50⟩ := bind_some r48; clear r48
          refine Cov.callS (b1 := [_]) (b2 := [_]) (s1 := []) [_, _] [] .ro rfl rfl Try.call18 rfl rfl (play_Dice_Pick_c (G := G) List.mem_cons_self s42 hu49) rfl (fun v52 bo so h51 => ?_)
          obtain ⟨a53, k54, rfl, rfl, rfl, s55⟩ := h51
          refine Cov.same (bl' := [_, _]) (sl' := []) rfl rfl rfl ?_
          refine Cov.q .ro (.addw rfl rfl) rfl ?_
          refine Cov.q .ro (.build [_, _, _, _] [(0, _), (1, _), (2, _), (3, _)] ty33 pl33 rfl rfl) rfl ?_
          refine Cov.store 1 [_, _, _, _] [_, _] .ro rfl rfl rfl ty33 rfl rfl rfl rfl ?_
          refine Cov.region_end ?_
          cases r50
          refine Cov.pull 1 rfl [_, _] rfl ?_
          refine Cov.retSD 1 (c := ⟨19, none⟩) (.inr ⟨_, rfl⟩) [.cell 2 33] [_] rfl Try.func19 Try.results19 ⟨RV.cell_a 0 [_, _, _, _] rfl rfl ty33 rfl, trivial⟩ (fun _ h => List.mem_cons_of_mem _ h) ⟨a53, k54, rfl, rfl, rfl, s55⟩
        · have r56 := ifBF r44 c47; clear r44
          refine Cov.skip ?_
          refine Cov.seq ?_
          refine Cov.region rfl ?_
          refine Cov.q .ro (.move rfl) rfl ?_
          refine Cov.q .ro (.build [_, _, _, _] [(0, _), (1, _), (2, _), (3, _)] ty33 pl33 rfl rfl) rfl ?_
          refine Cov.store 1 [_, _, _, _] [_, _] .ro rfl rfl rfl ty33 rfl rfl rfl rfl ?_
          refine Cov.region_end ?_
          cases r56
          refine Cov.pull 1 rfl [_, _] rfl ?_
          refine Cov.retSD 1 (c := ⟨19, none⟩) (.inr ⟨_, rfl⟩) [.cell 2 33] [_] rfl Try.func19 Try.results19 ⟨RV.cell_a 0 [_, _, _, _] rfl rfl ty33 rfl, trivial⟩ (fun _ h => List.mem_cons_of_mem _ h) ⟨a40, k41, rfl, rfl, rfl, s42⟩
      · intro hb45
        refine Cov.split 22 rfl (fun c46 => ?_) (fun c46 => ?_)
        · have r57 := ifT h43 c46
          refine Cov.g_off rfl rfl rfl ?_
          refine Cov.g_off rfl rfl rfl ?_
          refine Cov.g_off rfl rfl rfl ?_
          refine Cov.q .ro (.pick_t rfl rfl) rfl ?_
          obtain rfl := Option.some.inj r57
          refine Cov.prune _ ?_ (Cov.same rfl rfl rfl (hb45 (a13, k14) s15))
          exact ⟨rfl, rfl, rfl, rfl, trivial⟩
        · have r58 := ifF h43 c46
          refine Cov.g_on rfl ?_
          refine Cov.q .ro (.move rfl) rfl ?_
          refine Cov.g_on rfl ?_
          obtain ⟨u59, hu59, r60⟩ := bind_some r58; clear r58
          refine Cov.callS (b1 := [_]) (b2 := [_]) (s1 := []) [_, _] [] .ro rfl rfl Try.call18 rfl rfl (play_Dice_Pick_c (G := G) List.mem_cons_self s15 hu59) rfl (fun v62 bo so h61 => ?_)
          obtain ⟨a63, k64, rfl, rfl, rfl, s65⟩ := h61
          refine Cov.same (bl' := [_, _]) (sl' := []) rfl rfl rfl ?_
          refine Cov.g_on rfl ?_
          refine Cov.q .ro (.eql rfl rfl) rfl ?_
          refine Cov.q .ro (.pick_f rfl rfl) rfl ?_
          obtain rfl := Option.some.inj r60
          refine Cov.prune _ ?_ (Cov.same rfl rfl rfl (hb45 (a63, k64) s65))
          exact ⟨rfl, rfl, rfl, rfl, trivial⟩

set_option maxHeartbeats 4000000 in
theorem play_Dice_Odd_c {Fs : List Hp} {G : Hp} {p0 : Nat} {a0_0 : Option Addr} {k0_0 : Nat} {x0_0 : List Int} {x0_1 : Int} {r : ((Int × Int × Int × Int) × ((List Int) × Int))} (hG : G ∈ Fs) (s0_0 : SlR (Rep.int .u8) G a0_0 k0_0 x0_0) (h : play_Dice_Odd (x0_0, x0_1) = some r) : RetS Try.prog 17 #[.pointer (some ⟨p0, 0, none⟩)] Fs [(p0, .cells #[.slice a0_0 x0_0.length k0_0, .int .i64 x0_1] 58 (0, 0))] [] (fun v bo so => ∃ a0 : Option Addr, ∃ k0 : Nat, v = .agg #[.int .i64 r.1.1, .int .i64 r.1.2.1, .int .i64 r.1.2.2.1, .int .i64 r.1.2.2.2] ∧ bo = [(p0, .cells #[.slice a0 r.2.1.length k0, .int .i64 r.2.2] 58 (0, 0))] ∧ so = [] ∧ SlR (Rep.int .u8) G a0 k0 r.2.1) := by
  unfold play_Dice_Odd at h
  try dsimp only at h
  refine RetS.of (vs := [_]) Try.func17 rfl Try.ntmps17 [(0, _)] ⟨rfl, trivial⟩ rfl hG fun w0 S0 hS0 B0 => ?_
  refine Cov.seq ?_
  refine Cov.region rfl ?_
  refine Cov.alloc .ro ty33 rfl (fun b1 hb1 => ?_)
  refine Cov.region_end ?_
  refine Cov.seq ?_
  refine Cov.region rfl ?_
  refine Cov.q .ro (.move rfl) rfl ?_
  obtain ⟨u2, hu2, r3⟩ := bind_some h; clear h
  refine Cov.pull 1 rfl [_, _] rfl ?_
  refine Cov.callS (b1 := [_]) (b2 := [_]) (s1 := []) [_] [] .ro rfl rfl Try.call19 rfl rfl (play_Dice_Scheme_c (G := G) List.mem_cons_self s0_0 hu2) rfl (fun v5 bo so h4 => ?_)
  obtain ⟨a6, k7, rfl, rfl, rfl, s8⟩ := h4
  refine Cov.same (bl' := [_, _]) (sl' := []) rfl rfl rfl ?_
  refine Cov.alloc .ro ty33 rfl (fun b9 hb9 => ?_)
  refine Cov.store 0 [_, _, _, _] [_, _, _] .ro rfl rfl rfl ty33 rfl rfl rfl rfl ?_
  refine Cov.region_end ?_
  refine Cov.seq ?_
  refine Cov.seq ?_
  refine Cov.region rfl ?_
  refine Cov.q .ro (.move rfl) rfl ?_
  obtain ⟨u10, hu10, r11⟩ := bind_some r3; clear r3
  refine Cov.pull 1 rfl [_, _, _] rfl ?_
  refine Cov.callS (b1 := [_]) (b2 := [_, _]) (s1 := []) [_, _] [] .ro rfl rfl Try.call18 rfl rfl (play_Dice_Pick_c (G := G) List.mem_cons_self s8 hu10) rfl (fun v13 bo so h12 => ?_)
  obtain ⟨a14, k15, rfl, rfl, rfl, s16⟩ := h12
  refine Cov.same (bl' := [_, _, _]) (sl' := []) rfl rfl rfl ?_
  refine Cov.region_end ?_
  refine Cov.block ?_
  refine Cov.seq ?_
  refine Cov.region rfl ?_
  refine Cov.q .ro (.eql rfl rfl) rfl ?_
  refine Cov.q .ro (.assign rfl) rfl ?_
  refine Cov.region_end ?_
  refine Cov.cutI (β := List Int × Option Addr × Nat × Int × Int × Int × Int × Int) (fun y => []) [(2, _), (3, _)] (fun y => G :: Fs) (fun y => [(p0, .cells #[.slice y.2.1 y.1.length y.2.2.1, .int .i64 y.2.2.2.1] 58 (0, 0)), (b9, .cells #[.int .i64 y.2.2.2.2.1, .int .i64 y.2.2.2.2.2.1, .int .i64 y.2.2.2.2.2.2.1, .int .i64 y.2.2.2.2.2.2.2] 33 (0, 0))]) [_] (fun y => []) [] (fun y => SlR (Rep.int .u8) G y.2.1 y.2.2.1 y.1 ∧ play_Dice_Odd_J1 y.1 y.2.2.2.1 y.2.2.2.2.1 y.2.2.2.2.2.1 y.2.2.2.2.2.2.1 y.2.2.2.2.2.2.2 = some r) ⟨rfl, rfl, trivial⟩ [2] rfl [] rfl ?_ ?_
  · intro y hI
    obtain ⟨v4092, a4093, k4094, v4096, v4097, v4098, v4099, v4100⟩ := y
    obtain ⟨s4095, r4102⟩ := hI
    try dsimp only at s4095 r4102
    refine Cov.prune [(2, _), (3, _)] ⟨rfl, rfl, trivial⟩ ?_
    refine Cov.same (bl' := [(p0, .cells #[.slice a4093 v4092.length k4094, .int .i64 v4096] 58 (0, 0)), (b9, .cells #[.int .i64 v4097, .int .i64 v4098, .int .i64 v4099, .int .i64 v4100] 33 (0, 0)), _]) (sl' := []) (Fs' := G :: Fs) rfl rfl rfl ?_
    unfold play_Dice_Odd_J1 at r4102
    try dsimp only at r4102
    refine Cov.inBlock ?_
    refine Cov.seq ?_
    refine Cov.region rfl ?_
    refine Cov.q .ro (.load_own_a 1 [_, _, _, _] rfl rfl ty33 rfl) rfl ?_
    refine Cov.store 2 [_, _, _, _] [_, _, _] .ro rfl rfl rfl ty33 rfl rfl rfl rfl ?_
    refine Cov.region_end ?_
    cases r4102
    refine Cov.pull 2 rfl [_, _, _] rfl ?_
    refine Cov.pull 2 rfl [_, _, _] rfl ?_
    refine Cov.retSD 2 (c := ⟨17, none⟩) (.inr ⟨_, rfl⟩) [.cell 2 33] [_] rfl Try.func17 Try.results17 ⟨RV.cell_a 1 [_, _, _, _] rfl rfl ty33 rfl, trivial⟩ (fun _ h => List.mem_cons_of_mem _ h) ⟨a4093, k4094, rfl, rfl, rfl, s4095⟩
  · intro hb4103
    refine Cov.cond_dec rfl (fun c4104 => ?_) (fun c4104 => ?_)
    · have r4105 := ifT r11 c4104; clear r11
      refine Cov.region rfl ?_
      refine Cov.q .ro (.move rfl) rfl ?_
      obtain ⟨u4106, hu4106, r4107⟩ := bind_some r4105; clear r4105
      refine Cov.callS (b1 := [_]) (b2 := [_, _]) (s1 := []) [_, _] [] .ro rfl rfl Try.call18 rfl rfl (play_Dice_Pick_c (G := G) List.mem_cons_self s16 hu4106) rfl (fun v4109 bo so h4108 => ?_)
      obtain ⟨a4110, k4111, rfl, rfl, rfl, s4112⟩ := h4108
      refine Cov.same (bl' := [_, _, _]) (sl' := []) rfl rfl rfl ?_
      refine Cov.q .ro (.fieldAddr 0 rfl fl33_0 ty3.sz rfl) rfl ?_
      refine Cov.store 1 [_, _, _, _] [_, _, _] .ro rfl rfl rfl ty3 rfl rfl rfl rfl ?_
      refine Cov.region_end ?_
      refine Cov.prune _ ?_ (Cov.same rfl rfl rfl (hb4103 (u4106.2.1, a4110, k4111, u4106.2.2, u4106.1, u2.1.2.1, u2.1.2.2.1, u2.1.2.2.2) ⟨s4112, r4107⟩))
      exact ⟨rfl, rfl, trivial⟩
    · have r4113 := ifF r11 c4104; clear r11
      refine Cov.seq ?_
      refine Cov.region rfl ?_
      refine Cov.q .ro (.eql rfl rfl) rfl ?_
      refine Cov.q .ro (.assign rfl) rfl ?_
      refine Cov.region_end ?_
      refine Cov.cond_dec rfl (fun c4114 => ?_) (fun c4114 => ?_)
      · have r4115 := ifT r4113 c4114; clear r4113
        refine Cov.region rfl ?_
        refine Cov.lit [_, _, _, _, _, _] [(0, _), (1, _), (2, _), (3, _), (4, _), (5, _)] .ro sl59 ty3 rfl rfl rfl rfl rfl rfl (fun b4116 hb4116 => ?_)
        have o4117 : OL (Rep.int .i64) G [.int .i64 0, .int .i64 1, .int .i64 2, .int .i64 10, .int .i64 11, .int .i64 (-1)] ([0, 1, 2, 10, 11, (-1)] : List Int) := ((OL.cons rfl (Rep.intI .i64 0) (OL.cons rfl (Rep.intI .i64 1) (OL.cons rfl (Rep.intI .i64 2) (OL.cons rfl (Rep.intI .i64 10) (OL.cons rfl (Rep.intI .i64 11) (OL.cons rfl (Rep.intI .i64 (-1)) (OL.nil (Rp' := (Rep.int .i64))))))))) :)
        refine Cov.reval 15 (n' := ([0, 1, 2, 10, 11, (-1)] : List Int).length) rfl rfl ?_
        refine Cov.q .ro (.move rfl) rfl ?_
        obtain ⟨u4119, hu4119, r4120⟩ := bind_some r4115; clear r4115
        refine Cov.callS (b1 := [_]) (b2 := [_, _]) (s1 := []) [_, _] [] .ro rfl rfl Try.call18 rfl rfl (play_Dice_Pick_c (G := G) List.mem_cons_self s16 hu4119) rfl (fun v4122 bo so h4121 => ?_)
        obtain ⟨a4123, k4124, rfl, rfl, rfl, s4125⟩ := h4121
        refine Cov.same (bl' := [_, _, _]) (sl' := [_]) rfl rfl rfl ?_
        obtain ⟨u4126, hu4126, r4127⟩ := bind_some r4120; clear r4120
        obtain ⟨c4128, p4129, h4130⟩ := OL.get o4117 hu4126
        obtain rfl := h4130
        refine Cov.q .ro (.idxO 0 rfl rfl rfl hu4126 sl59 ty3.sz) rfl ?_
        refine Cov.q .ro (.loadO 0 0 rfl hu4126 p4129 rfl (.inl ⟨rfl, rfl⟩) ty3 rfl) rfl ?_
        refine Cov.q .ro (.fieldAddr 1 rfl fl33_1 ty3.sz rfl) rfl ?_
        refine Cov.store 1 [_, _, _, _] [_, _, _] .ro rfl rfl rfl ty3 rfl rfl rfl rfl ?_
        refine Cov.region_end ?_
        refine Cov.prune [(2, _), (3, _)] ⟨rfl, rfl, trivial⟩ ?_
        refine Cov.drop 0 1 _ [] rfl rfl ?_
        refine Cov.prune _ ?_ (Cov.same rfl rfl rfl (hb4103 (u4119.2.1, a4123, k4124, u4119.2.2, u2.1.1, u4126, u2.1.2.2.1, u2.1.2.2.2) ⟨s4125, r4127⟩))
        exact ⟨rfl, rfl, trivial⟩
      · have r4131 := ifF r4113 c4114; clear r4113
        refine Cov.seq ?_
        refine Cov.region rfl ?_
        refine Cov.q .ro (.eql rfl rfl) rfl ?_
        refine Cov.q .ro (.assign rfl) rfl ?_
        refine Cov.region_end ?_
        refine Cov.cond_dec rfl (fun c4132 => ?_) (fun c4132 => ?_)
        · have r4133 := ifT r4131 c4132; clear r4131
          refine Cov.drawL (.q 0 (.q 1 (.q 2 (.q 3 (.q 4 (.q 6 (.alt (.e 5 1 (.e 7 1 (.e 8 1 (.e 9 1 (.q 10 (.e 11 2 .nil)))))) (.e 7 1 (.e 5 1 (.e 8 1 (.e 9 1 (.q 10 (.e 11 2 .nil))))))))))))) [_, _] (by kernel_rfl) (by kernel_rfl) (pick_mem [1, 2] rfl) ?_
          obtain ⟨u4137, hu4137, r4147⟩ := bind_some r4133; clear r4133
          obtain ⟨u4143, hu4143, r4148⟩ := bind_some r4147; clear r4147
          refine Cov.dq (.fieldAddr 1 rfl fl33_1 ty3.sz rfl) rfl ?_
          refine Cov.dq (.load_own 0 rfl rfl ty3 rfl) rfl ?_
          refine Cov.dq (.subw rfl rfl) rfl ?_
          refine Cov.dq (.fieldAddr 1 rfl fl33_1 ty3.sz rfl) rfl ?_
          refine Cov.dq (.load_own 0 rfl rfl ty3 rfl) rfl ?_
          refine Cov.dq (.move rfl) rfl ?_
          refine Cov.alt ?_ ?_
          · refine Cov.lit [_, _, _, _] [(0, _), (1, _), (2, _), (3, _)] .d1 sl59 ty3 rfl rfl rfl rfl rfl rfl (fun b4149 hb4149 => ?_)
            have o4150 : OL (Rep.int .i64) G [.int .i64 0, .int .i64 (-1), .int .i64 (w64 (u2.1.2.1 - 1)), .int .i64 u2.1.2.1] ([0, (-1), (w64 (u2.1.2.1 - 1)), u2.1.2.1] : List Int) := ((OL.cons rfl (Rep.intI .i64 0) (OL.cons rfl (Rep.intI .i64 (-1)) (OL.cons rfl (Rep.intI .i64 (w64 (u2.1.2.1 - 1))) (OL.cons rfl (Rep.intI .i64 u2.1.2.1) (OL.nil (Rp' := (Rep.int .i64))))))) :)
            refine Cov.reval 28 (n' := ([0, (-1), (w64 (u2.1.2.1 - 1)), u2.1.2.1] : List Int).length) rfl rfl ?_
            refine Cov.clsL (HpLe.refl _) (pick_mem [1, 2] rfl) ?_
            refine Cov.callS (b1 := [_]) (b2 := [_, _]) (s1 := []) [_, _] [] .d1 rfl rfl Try.call18 rfl rfl (play_Dice_Pick_c (G := G) List.mem_cons_self s16 hu4137) rfl (fun v4153 bo so h4152 => ?_)
            obtain ⟨a4154, k4155, rfl, rfl, rfl, s4156⟩ := h4152
            refine Cov.same (bl' := [_, _, _]) (sl' := [_]) rfl rfl rfl ?_
            refine Cov.clsL (HpLe.refl _) (pick_mem [1, 2] rfl) ?_
            obtain ⟨c4157, p4158, h4159⟩ := OL.get o4150 hu4143
            obtain rfl := h4159
            refine Cov.q .d1 (.idxO 0 rfl rfl rfl hu4143 sl59 ty3.sz) rfl ?_
            refine Cov.clsL (HpLe.refl _) (pick_mem [1, 2] rfl) ?_
            refine Cov.q .d1 (.loadO 0 0 rfl hu4143 p4158 rfl (.inl ⟨rfl, rfl⟩) ty3 rfl) rfl ?_
            refine Cov.clsL (HpLe.refl _) (pick_mem [1, 2] rfl) ?_
            refine Cov.dq (.fieldAddr 2 rfl fl33_2 ty3.sz rfl) rfl ?_
            refine Cov.store 1 [_, _, _, _] [_, _, _] .d2 rfl rfl rfl ty3 rfl rfl rfl rfl ?_
            refine Cov.draw_end ?_
            refine Cov.prune [(2, _), (3, _)] ⟨rfl, rfl, trivial⟩ ?_
            refine Cov.drop 0 1 _ [] rfl rfl ?_
            refine Cov.prune _ ?_ (Cov.same rfl rfl rfl (hb4103 (u4137.2.1, a4154, k4155, u4137.2.2, u2.1.1, u2.1.2.1, u4143, u2.1.2.2.2) ⟨s4156, r4148⟩))
            exact ⟨rfl, rfl, trivial⟩
          · refine Cov.callS (b1 := [_]) (b2 := [_, _]) (s1 := []) [_, _] [] .d1 rfl rfl Try.call18 rfl rfl (play_Dice_Pick_c (G := G) List.mem_cons_self s16 hu4137) rfl (fun v4161 bo so h4160 => ?_)
            obtain ⟨a4162, k4163, rfl, rfl, rfl, s4164⟩ := h4160
            refine Cov.same (bl' := [_, _, _]) (sl' := []) rfl rfl rfl ?_
            refine Cov.clsL (HpLe.refl _) (pick_mem [1, 2] rfl) ?_
            refine Cov.lit [_, _, _, _] [(0, _), (1, _), (2, _), (3, _)] .d1 sl59 ty3 rfl rfl rfl rfl rfl rfl (fun b4165 hb4165 => ?_)
            have o4166 : OL (Rep.int .i64) G [.int .i64 0, .int .i64 (-1), .int .i64 (w64 (u2.1.2.1 - 1)), .int .i64 u2.1.2.1] ([0, (-1), (w64 (u2.1.2.1 - 1)), u2.1.2.1] : List Int) := ((OL.cons rfl (Rep.intI .i64 0) (OL.cons rfl (Rep.intI .i64 (-1)) (OL.cons rfl (Rep.intI .i64 (w64 (u2.1.2.1 - 1))) (OL.cons rfl (Rep.intI .i64 u2.1.2.1) (OL.nil (Rp' := (Rep.int .i64))))))) :)
            refine Cov.reval 28 (n' := ([0, (-1), (w64 (u2.1.2.1 - 1)), u2.1.2.1] : List Int).length) rfl rfl ?_
            refine Cov.clsL (HpLe.refl _) (pick_mem [1, 2] rfl) ?_
            obtain ⟨c4168, p4169, h4170⟩ := OL.get o4166 hu4143
            obtain rfl := h4170
            refine Cov.q .d1 (.idxO 0 rfl rfl rfl hu4143 sl59 ty3.sz) rfl ?_
            refine Cov.clsL (HpLe.refl _) (pick_mem [1, 2] rfl) ?_
            refine Cov.q .d1 (.loadO 0 0 rfl hu4143 p4169 rfl (.inl ⟨rfl, rfl⟩) ty3 rfl) rfl ?_
            refine Cov.clsL (HpLe.refl _) (pick_mem [1, 2] rfl) ?_
            refine Cov.dq (.fieldAddr 2 rfl fl33_2 ty3.sz rfl) rfl ?_
            refine Cov.store 1 [_, _, _, _] [_, _, _] .d2 rfl rfl rfl ty3 rfl rfl rfl rfl ?_
            refine Cov.draw_end ?_
            refine Cov.prune [(2, _), (3, _)] ⟨rfl, rfl, trivial⟩ ?_
            refine Cov.drop 0 1 _ [] rfl rfl ?_
            refine Cov.prune _ ?_ (Cov.same rfl rfl rfl (hb4103 (u4137.2.1, a4162, k4163, u4137.2.2, u2.1.1, u2.1.2.1, u4143, u2.1.2.2.2) ⟨s4164, r4148⟩))
            exact ⟨rfl, rfl, trivial⟩
        · have r8159 := ifF r4131 c4132; clear r4131
          refine Cov.seq ?_
          refine Cov.region rfl ?_
          refine Cov.q .ro (.eql rfl rfl) rfl ?_
          refine Cov.q .ro (.assign rfl) rfl ?_
          refine Cov.region_end ?_
          refine Cov.cond_dec rfl (fun c8160 => ?_) (fun c8160 => ?_)
          · have r8161 := ifT r8159 c8160; clear r8159
            refine Cov.region rfl ?_
            refine Cov.lit [_, _, _, _] [(0, _), (1, _), (2, _), (3, _)] .ro sl59 ty3 rfl rfl rfl rfl rfl rfl (fun b8162 hb8162 => ?_)
            have o8163 : OL (Rep.int .i64) G [.int .i64 0, .int .i64 1, .int .i64 3, .int .i64 (-1)] ([0, 1, 3, (-1)] : List Int) := ((OL.cons rfl (Rep.intI .i64 0) (OL.cons rfl (Rep.intI .i64 1) (OL.cons rfl (Rep.intI .i64 3) (OL.cons rfl (Rep.intI .i64 (-1)) (OL.nil (Rp' := (Rep.int .i64))))))) :)
            refine Cov.reval 36 (n' := ([0, 1, 3, (-1)] : List Int).length) rfl rfl ?_
            refine Cov.q .ro (.move rfl) rfl ?_
            obtain ⟨u8165, hu8165, r8166⟩ := bind_some r8161; clear r8161
            refine Cov.callS (b1 := [_]) (b2 := [_, _]) (s1 := []) [_, _] [] .ro rfl rfl Try.call18 rfl rfl (play_Dice_Pick_c (G := G) List.mem_cons_self s16 hu8165) rfl (fun v8168 bo so h8167 => ?_)
            obtain ⟨a8169, k8170, rfl, rfl, rfl, s8171⟩ := h8167
            refine Cov.same (bl' := [_, _, _]) (sl' := [_]) rfl rfl rfl ?_
            obtain ⟨u8172, hu8172, r8173⟩ := bind_some r8166; clear r8166
            obtain ⟨c8174, p8175, h8176⟩ := OL.get o8163 hu8172
            obtain rfl := h8176
            refine Cov.q .ro (.idxO 0 rfl rfl rfl hu8172 sl59 ty3.sz) rfl ?_
            refine Cov.q .ro (.loadO 0 0 rfl hu8172 p8175 rfl (.inl ⟨rfl, rfl⟩) ty3 rfl) rfl ?_
            refine Cov.q .ro (.fieldAddr 3 rfl fl33_3 ty3.sz rfl) rfl ?_
            refine Cov.store 1 [_, _, _, _] [_, _, _] .ro rfl rfl rfl ty3 rfl rfl rfl rfl ?_
            refine Cov.region_end ?_
            refine Cov.prune [(2, _), (3, _)] ⟨rfl, rfl, trivial⟩ ?_
            refine Cov.drop 0 1 _ [] rfl rfl ?_
            refine Cov.prune _ ?_ (Cov.same rfl rfl rfl (hb4103 (u8165.2.1, a8169, k8170, u8165.2.2, u2.1.1, u2.1.2.1, u2.1.2.2.1, u8172) ⟨s8171, r8173⟩))
            exact ⟨rfl, rfl, trivial⟩
          · have r8177 := ifF r8159 c8160; clear r8159
            refine Cov.skip ?_
            refine Cov.prune _ ?_ (Cov.same rfl rfl rfl (hb4103 (u10.2.1, a14, k15, u10.2.2, u2.1.1, u2.1.2.1, u2.1.2.2.1, u2.1.2.2.2) ⟨s16, r8177⟩))
            exact ⟨rfl, rfl, trivial⟩

set_option maxHeartbeats 4000000 in
theorem ref23_Threshold_c {Fs : List Hp} {G : Hp} {x0_0 : Int} {x0_1 : Int} {x0_2 : Int} {x0_3 : Int} {r : Int} (hG : G ∈ Fs)  (h : ref23_Threshold (x0_0, x0_1, x0_2, x0_3) = some r) : RetS Try.prog 20 #[.agg #[.int .i64 x0_0, .int .i64 x0_1, .int .i64 x0_2, .int .i64 x0_3]] Fs [] [] (fun v bo so => v = .int .i64 r ∧ bo = [] ∧ so = []) := by
  unfold ref23_Threshold at h
  try dsimp only at h
  refine RetS.of (vs := [_]) Try.func20 rfl Try.ntmps20 [(0, _)] ⟨rfl, trivial⟩ rfl hG fun w0 S0 hS0 B0 => ?_
  refine Cov.seq ?_
  refine Cov.region rfl ?_
  refine Cov.box [_, _, _, _] .ro rfl rfl rfl (fun b1 hb1 => ?_)
  refine Cov.q .ro (.assign rfl) rfl ?_
  refine Cov.region_end ?_
  refine Cov.seq ?_
  refine Cov.seq ?_
  refine Cov.region rfl ?_
  refine Cov.q .ro (.load_own_a 0 [_, _, _, _] rfl rfl ty33 rfl) rfl ?_
  obtain ⟨u2, hu2, r3⟩ := bind_some h; clear h
  refine Cov.callS (b1 := []) (b2 := [_]) (s1 := []) [_] [] .ro rfl rfl Try.call38 rfl rfl (ref23_Shape_c (G := G) List.mem_cons_self  hu2) rfl (fun v5 bo so h4 => ?_)
  obtain ⟨rfl, rfl, rfl⟩ := h4
  refine Cov.same (bl' := [_]) (sl' := []) rfl rfl rfl ?_
  refine Cov.q .ro (.not rfl) rfl ?_
  refine Cov.region_end ?_
  refine Cov.cond rfl (fun c6 => ?_) (fun c6 => ?_)
  · have r7 := ifT r3 c6; clear r3
    refine Cov.seq ?_
    refine Cov.region rfl ?_
    refine Cov.q .ro (.assign rfl) rfl ?_
    refine Cov.region_end ?_
    cases r7
    refine Cov.drop 1 0 [] _ rfl rfl ?_
    refine Cov.retS (c := ⟨20, none⟩) (.inr ⟨_, rfl⟩) [.tmp 2] [_] rfl Try.func20 Try.results20 ⟨RV.tmp rfl, trivial⟩ (fun _ h => List.mem_cons_of_mem _ h) ⟨rfl, rfl, rfl⟩
  · have r8 := ifBF r3 c6; clear r3
    refine Cov.skip ?_
    refine Cov.seq ?_
    refine Cov.seq ?_
    refine Cov.region rfl ?_
    refine Cov.q .ro (.fieldAddr 0 rfl fl33_0 ty3.sz rfl) rfl ?_
    refine Cov.q .ro (.load_own 0 rfl rfl ty3 rfl) rfl ?_
    refine Cov.q .ro (.eql rfl rfl) rfl ?_
    refine Cov.region_end ?_
    refine Cov.cond_dec rfl (fun c9 => ?_) (fun c9 => ?_)
    · have r10 := ifT r8 c9; clear r8
      refine Cov.seq ?_
      refine Cov.region rfl ?_
      refine Cov.q .ro (.fieldAddr 1 rfl fl33_1 ty3.sz rfl) rfl ?_
      refine Cov.q .ro (.load_own 0 rfl rfl ty3 rfl) rfl ?_
      refine Cov.q .ro (.subw rfl rfl) rfl ?_
      refine Cov.q .ro (.assign rfl) rfl ?_
      refine Cov.region_end ?_
      cases r10
      refine Cov.drop 1 0 [] _ rfl rfl ?_
      refine Cov.retS (c := ⟨20, none⟩) (.inr ⟨_, rfl⟩) [.tmp 2] [_] rfl Try.func20 Try.results20 ⟨RV.tmp rfl, trivial⟩ (fun _ h => List.mem_cons_of_mem _ h) ⟨rfl, rfl, rfl⟩
    · have r11 := ifF r8 c9; clear r8
      refine Cov.skip ?_
      refine Cov.seq ?_
      refine Cov.region rfl ?_
      refine Cov.q .ro (.fieldAddr 2 rfl fl33_2 ty3.sz rfl) rfl ?_
      refine Cov.q .ro (.load_own 0 rfl rfl ty3 rfl) rfl ?_
      refine Cov.q .ro (.assign rfl) rfl ?_
      refine Cov.region_end ?_
      cases r11
      refine Cov.drop 1 0 [] _ rfl rfl ?_
      refine Cov.retS (c := ⟨20, none⟩) (.inr ⟨_, rfl⟩) [.tmp 2] [_] rfl Try.func20 Try.results20 ⟨RV.tmp rfl, trivial⟩ (fun _ h => List.mem_cons_of_mem _ h) ⟨rfl, rfl, rfl⟩

set_option maxHeartbeats 4000000 in
theorem ref23_Need_c {Fs : List Hp} {G : Hp} {x0_0 : Int} {x0_1 : Int} {x0_2 : Int} {x0_3 : Int} {r : Int} (hG : G ∈ Fs)  (h : ref23_Need (x0_0, x0_1, x0_2, x0_3) = some r) : RetS Try.prog 39 #[.agg #[.int .i64 x0_0, .int .i64 x0_1, .int .i64 x0_2, .int .i64 x0_3]] Fs [] [] (fun v bo so => v = .int .i64 r ∧ bo = [] ∧ so = []) := by
  unfold ref23_Need at h
  try dsimp only at h
  refine RetS.of (vs := [_]) Try.func39 rfl Try.ntmps39 [(0, _)] ⟨rfl, trivial⟩ rfl hG fun w0 S0 hS0 B0 => ?_
  refine Cov.seq ?_
  refine Cov.region rfl ?_
  refine Cov.box [_, _, _, _] .ro rfl rfl rfl (fun b1 hb1 => ?_)
  refine Cov.q .ro (.assign rfl) rfl ?_
  refine Cov.region_end ?_
  refine Cov.seq ?_
  refine Cov.seq ?_
  refine Cov.region rfl ?_
  refine Cov.q .ro (.load_own_a 0 [_, _, _, _] rfl rfl ty33 rfl) rfl ?_
  obtain ⟨u2, hu2, r3⟩ := bind_some h; clear h
  refine Cov.callS (b1 := []) (b2 := [_]) (s1 := []) [_] [] .ro rfl rfl Try.call38 rfl rfl (ref23_Shape_c (G := G) List.mem_cons_self  hu2) rfl (fun v5 bo so h4 => ?_)
  obtain ⟨rfl, rfl, rfl⟩ := h4
  refine Cov.same (bl' := [_]) (sl' := []) rfl rfl rfl ?_
  refine Cov.q .ro (.not rfl) rfl ?_
  refine Cov.region_end ?_
  refine Cov.cond rfl (fun c6 => ?_) (fun c6 => ?_)
  · have r7 := ifT r3 c6; clear r3
    refine Cov.seq ?_
    refine Cov.region rfl ?_
    refine Cov.q .ro (.assign rfl) rfl ?_
    refine Cov.region_end ?_
    cases r7
    refine Cov.drop 1 0 [] _ rfl rfl ?_
    refine Cov.retS (c := ⟨39, none⟩) (.inr ⟨_, rfl⟩) [.tmp 2] [_] rfl Try.func39 Try.results39 ⟨RV.tmp rfl, trivial⟩ (fun _ h => List.mem_cons_of_mem _ h) ⟨rfl, rfl, rfl⟩
  · have r8 := ifBF r3 c6; clear r3
    refine Cov.skip ?_
    refine Cov.seq ?_
    refine Cov.seq ?_
    refine Cov.region rfl ?_
    refine Cov.q .ro (.fieldAddr 0 rfl fl33_0 ty3.sz rfl) rfl ?_
    refine Cov.q .ro (.load_own 0 rfl rfl ty3 rfl) rfl ?_
    refine Cov.region_end ?_
    refine Cov.block ?_
    refine Cov.seq ?_
    refine Cov.region rfl ?_
    refine Cov.q .ro (.eql rfl rfl) rfl ?_
    refine Cov.q .ro (.assign rfl) rfl ?_
    refine Cov.region_end ?_
    refine Cov.cond_dec rfl (fun c9 => ?_) (fun c9 => ?_)
    · have r10 := ifT r8 c9; clear r8
      refine Cov.seq ?_
      refine Cov.region rfl ?_
      refine Cov.q .ro (.fieldAddr 1 rfl fl33_1 ty3.sz rfl) rfl ?_
      refine Cov.q .ro (.load_own 0 rfl rfl ty3 rfl) rfl ?_
      refine Cov.q .ro (.assign rfl) rfl ?_
      refine Cov.region_end ?_
      cases r10
      refine Cov.drop 1 0 [] _ rfl rfl ?_
      refine Cov.retS (c := ⟨39, none⟩) (.inr ⟨_, rfl⟩) [.tmp 2] [_] rfl Try.func39 Try.results39 ⟨RV.tmp rfl, trivial⟩ (fun _ h => List.mem_cons_of_mem _ h) ⟨rfl, rfl, rfl⟩
    · have r11 := ifF r8 c9; clear r8
      refine Cov.seq ?_
      refine Cov.region rfl ?_
      refine Cov.q .ro (.eql rfl rfl) rfl ?_
      refine Cov.q .ro (.assign rfl) rfl ?_
      refine Cov.region_end ?_
      refine Cov.cond_dec rfl (fun c12 => ?_) (fun c12 => ?_)
      · have r13 := ifT r11 c12; clear r11
        refine Cov.seq ?_
        refine Cov.region rfl ?_
        refine Cov.q .ro (.fieldAddr 2 rfl fl33_2 ty3.sz rfl) rfl ?_
        refine Cov.q .ro (.load_own 0 rfl rfl ty3 rfl) rfl ?_
        refine Cov.q .ro (.addw rfl rfl) rfl ?_
        refine Cov.q .ro (.assign rfl) rfl ?_
        refine Cov.region_end ?_
        refine Cov.prune [(2, _)] ⟨rfl, trivial⟩ ?_
        cases r13
        refine Cov.drop 1 0 [] _ rfl rfl ?_
        refine Cov.retS (c := ⟨39, none⟩) (.inr ⟨_, rfl⟩) [.tmp 2] [_] rfl Try.func39 Try.results39 ⟨RV.tmp rfl, trivial⟩ (fun _ h => List.mem_cons_of_mem _ h) ⟨rfl, rfl, rfl⟩
      · have r14 := ifF r11 c12; clear r11
        refine Cov.skip ?_
        refine Cov.inBlock ?_
        refine Cov.seq ?_
        refine Cov.region rfl ?_
        refine Cov.q .ro (.fieldAddr 3 rfl fl33_3 ty3.sz rfl) rfl ?_
        refine Cov.q .ro (.load_own 0 rfl rfl ty3 rfl) rfl ?_
        refine Cov.q .ro (.mulw rfl rfl) rfl ?_
        refine Cov.q .ro (.fieldAddr 2 rfl fl33_2 ty3.sz rfl) rfl ?_
        refine Cov.q .ro (.load_own 0 rfl rfl ty3 rfl) rfl ?_
        refine Cov.q .ro (.addw rfl rfl) rfl ?_
        refine Cov.q .ro (.subw rfl rfl) rfl ?_
        refine Cov.q .ro (.assign rfl) rfl ?_
        refine Cov.region_end ?_
        refine Cov.prune [(2, _)] ⟨rfl, trivial⟩ ?_
        cases r14
        refine Cov.drop 1 0 [] _ rfl rfl ?_
        refine Cov.retS (c := ⟨39, none⟩) (.inr ⟨_, rfl⟩) [.tmp 2] [_] rfl Try.func39 Try.results39 ⟨RV.tmp rfl, trivial⟩ (fun _ h => List.mem_cons_of_mem _ h) ⟨rfl, rfl, rfl⟩

set_option maxHeartbeats 4000000 in
theorem ref23_Bears_c {Fs : List Hp} {G : Hp} {x0_0 : Int} {x0_1 : Int} {x0_2 : Int} {x0_3 : Int} {x1 : Int} {x2 : Int} {r : Bool} (hG : G ∈ Fs)  (h : ref23_Bears (x0_0, x0_1, x0_2, x0_3) x1 x2 = some r) : RetS Try.prog 21 #[.agg #[.int .i64 x0_0, .int .i64 x0_1, .int .i64 x0_2, .int .i64 x0_3], .int .i64 x1, .int .i64 x2] Fs [] [] (fun v bo so => v = .bool r ∧ bo = [] ∧ so = []) := by
  unfold ref23_Bears at h
  try dsimp only at h
  refine RetS.of (vs := [_, _, _]) Try.func21 rfl Try.ntmps21 [(0, _), (1, _), (2, _)] ⟨rfl, rfl, rfl, trivial⟩ rfl hG fun w0 S0 hS0 B0 => ?_
  refine Cov.seq ?_
  refine Cov.region rfl ?_
  refine Cov.box [_, _, _, _] .ro rfl rfl rfl (fun b1 hb1 => ?_)
  refine Cov.q .ro (.assign rfl) rfl ?_
  refine Cov.region_end ?_
  refine Cov.seq ?_
  refine Cov.drawL (.q 0 (.e 1 1 (.q 2 (.q 3 (.q 4 (.q 5 (.q 6 (.q 7 (.q 8 (.q 9 (.q 10 (.q 11 (.q 12 (.q 13 (.q 14 (.q 15 (.q 16 (.q 17 (.q 18 (.q 19 (.q 20 (.q 21 (.q 22 (.q 23 (.q 25 (.q 27 (.q 28 (.q 30 (.q 31 (.e 24 1 (.q 26 (.q 29 (.q 32 (.q 33 (.q 34 .nil))))))))))))))))))))))))))))))))))) [_] (by kernel_rfl) (by kernel_rfl) (pick_mem [0] rfl) ?_
  refine Cov.dq (.load_own_a 0 [_, _, _, _] rfl rfl ty33 rfl) rfl ?_
  obtain ⟨u2, hu2, r3⟩ := bind_some h; clear h
  refine Cov.callS (b1 := []) (b2 := [_]) (s1 := []) [_] [] .d1 rfl rfl Try.call38 rfl rfl (ref23_Shape_c (G := G) List.mem_cons_self  hu2) rfl (fun v5 bo so h4 => ?_)
  obtain ⟨rfl, rfl, rfl⟩ := h4
  refine Cov.same (bl' := [_]) (sl' := []) rfl rfl rfl ?_
  refine Cov.clsL (HpLe.refl _) (pick_mem [0] rfl) ?_
  refine Cov.dq (.move rfl) rfl ?_
  refine Cov.cutD 3 (β := Unit) (fun y => [(12, .bool (decide ((u2 = true) ∧ (0 ≤ x1))))]) [(1, _), (2, _), (3, _), (6, _)] (fun y => G :: Fs) (fun y => []) [_] (fun y => []) [] (fun y => True) ⟨rfl, rfl, rfl, rfl, trivial⟩ [0] rfl [] rfl ?_ ?_
  · rintro _ _
    refine Cov.prune [(12, .bool (decide ((u2 = true) ∧ (0 ≤ x1)))), (1, _), (2, _), (3, _), (6, _)] ⟨rfl, rfl, rfl, rfl, rfl, trivial⟩ ?_
    refine Cov.same (bl' := [_]) (sl' := []) (Fs' := G :: Fs) rfl rfl rfl ?_
    refine Cov.dq (.move rfl) rfl ?_
    refine Cov.cutD 3 (β := Unit) (fun y => [(16, .bool (decide (((u2 = true) ∧ (0 ≤ x1)) ∧ (0 ≤ x2))))]) [(1, _), (2, _), (3, _), (6, _)] (fun y => G :: Fs) (fun y => []) [_] (fun y => []) [] (fun y => True) ⟨rfl, rfl, rfl, rfl, trivial⟩ [0] rfl [] rfl ?_ ?_
    · rintro _ _
      refine Cov.prune [(16, .bool (decide (((u2 = true) ∧ (0 ≤ x1)) ∧ (0 ≤ x2)))), (1, _), (2, _), (3, _), (6, _)] ⟨rfl, rfl, rfl, rfl, rfl, trivial⟩ ?_
      refine Cov.same (bl' := [_]) (sl' := []) (Fs' := G :: Fs) rfl rfl rfl ?_
      refine Cov.dq (.move rfl) rfl ?_
      refine Cov.cutD 5 (β := Unit) (fun y => [(22, .bool (decide ((((u2 = true) ∧ (0 ≤ x1)) ∧ (0 ≤ x2)) ∧ (x1 ≤ x0_1))))]) [(1, _), (2, _), (3, _), (6, _)] (fun y => G :: Fs) (fun y => []) [_] (fun y => []) [] (fun y => True) ⟨rfl, rfl, rfl, rfl, trivial⟩ [0] rfl [] rfl ?_ ?_
      · rintro _ _
        refine Cov.prune [(22, .bool (decide ((((u2 = true) ∧ (0 ≤ x1)) ∧ (0 ≤ x2)) ∧ (x1 ≤ x0_1)))), (1, _), (2, _), (3, _), (6, _)] ⟨rfl, rfl, rfl, rfl, rfl, trivial⟩ ?_
        refine Cov.same (bl' := [_]) (sl' := []) (Fs' := G :: Fs) rfl rfl rfl ?_
        refine Cov.dq (.move rfl) rfl ?_
        refine Cov.cutD 5 (β := Unit) (fun y => [(28, .bool (decide (((((u2 = true) ∧ (0 ≤ x1)) ∧ (0 ≤ x2)) ∧ (x1 ≤ x0_1)) ∧ (x2 ≤ x0_1))))]) [(1, _), (2, _), (3, _), (6, _)] (fun y => G :: Fs) (fun y => []) [_] (fun y => []) [] (fun y => True) ⟨rfl, rfl, rfl, rfl, trivial⟩ [0] rfl [] rfl ?_ ?_
        · rintro _ _
          refine Cov.prune [(28, .bool (decide (((((u2 = true) ∧ (0 ≤ x1)) ∧ (0 ≤ x2)) ∧ (x1 ≤ x0_1)) ∧ (x2 ≤ x0_1)))), (1, _), (2, _), (3, _), (6, _)] ⟨rfl, rfl, rfl, rfl, rfl, trivial⟩ ?_
          refine Cov.same (bl' := [_]) (sl' := []) (Fs' := G :: Fs) rfl rfl rfl ?_
          refine Cov.dq (.move rfl) rfl ?_
          obtain ⟨u28, h29, r30⟩ := bind_some r3; clear r3
          refine Cov.cutD 11 (β := Unit) (fun y => [(40, .bool u28)]) [(6, _)] (fun y => G :: Fs) (fun y => []) [_] (fun y => []) [] (fun y => True) ⟨rfl, trivial⟩ [0] rfl [] rfl ?_ ?_
          · rintro _ _
            refine Cov.prune [(40, .bool u28), (6, _)] ⟨rfl, rfl, trivial⟩ ?_
            refine Cov.same (bl' := [_]) (sl' := []) (Fs' := G :: Fs) rfl rfl rfl ?_
            refine Cov.dq (.assign rfl) rfl ?_
            refine Cov.draw_end ?_
            cases r30
            refine Cov.drop 1 0 [] _ rfl rfl ?_
            refine Cov.retS (c := ⟨21, none⟩) (.inr ⟨_, rfl⟩) [.tmp 6] [_] rfl Try.func21 Try.results21 ⟨RV.tmp rfl, trivial⟩ (fun _ h => List.mem_cons_of_mem _ h) ⟨rfl, rfl, rfl⟩
          · intro hb27
            refine Cov.split 29 rfl (fun c26 => ?_) (fun c26 => ?_)
            · have r33 := ifT h29 c26
              refine Cov.dgq_on rfl ?_
              refine Cov.dq (.load_own_a 0 [_, _, _, _] rfl rfl ty33 rfl) rfl ?_
              refine Cov.dgq_on rfl ?_
              refine Cov.dq (.move rfl) rfl ?_
              refine Cov.dgq_on rfl ?_
              refine Cov.dq (.move rfl) rfl ?_
              refine Cov.dgq_on rfl ?_
              refine Cov.dq (.mulw rfl rfl) rfl ?_
              refine Cov.dgq_on rfl ?_
              refine Cov.dq (.fieldAddr 1 rfl fl33_1 ty3.sz rfl) rfl ?_
              refine Cov.dgq_on rfl ?_
              refine Cov.dq (.load_own 0 rfl rfl ty3 rfl) rfl ?_
              refine Cov.dge_on rfl ?_
              obtain ⟨u34, hu34, r35⟩ := bind_some r33; clear r33
              refine Cov.callS (b1 := []) (b2 := [_]) (s1 := []) [_] [] .d1 rfl rfl Try.call39 rfl rfl (ref23_Need_c (G := G) List.mem_cons_self  hu34) rfl (fun v37 bo so h36 => ?_)
              obtain ⟨rfl, rfl, rfl⟩ := h36
              refine Cov.same (bl' := [_]) (sl' := []) rfl rfl rfl ?_
              refine Cov.clsL (HpLe.refl _) (pick_mem [0] rfl) ?_
              refine Cov.dgq_on rfl ?_
              refine Cov.dq (.addw rfl rfl) rfl ?_
              refine Cov.dgq_on rfl ?_
              refine Cov.dq (.addw rfl rfl) rfl ?_
              refine Cov.dgq_on rfl ?_
              refine Cov.dq (.leq rfl rfl) rfl ?_
              refine Cov.dq (.pick_t rfl rfl) rfl ?_
              refine Cov.prune _ ?_ (Cov.same rfl rfl rfl (hb27 () trivial))
              exact ⟨sval r35, rfl, trivial⟩
            · have r38 := ifF h29 c26
              refine Cov.dgq_off rfl rfl rfl ?_
              refine Cov.dgq_off rfl rfl rfl ?_
              refine Cov.dgq_off rfl rfl rfl ?_
              refine Cov.dgq_off rfl rfl rfl ?_
              refine Cov.dgq_off rfl rfl rfl ?_
              refine Cov.dgq_off rfl rfl rfl ?_
              refine Cov.dge_offL rfl rfl rfl (HpLe.refl _) (pick_mem [0] rfl) ?_
              refine Cov.dgq_off rfl rfl rfl ?_
              refine Cov.dgq_off rfl rfl rfl ?_
              refine Cov.dgq_off rfl rfl rfl ?_
              refine Cov.dq (.pick_f rfl rfl) rfl ?_
              refine Cov.prune _ ?_ (Cov.same rfl rfl rfl (hb27 () trivial))
              exact ⟨sval r38, rfl, trivial⟩
        · intro hb19
          refine Cov.split 23 rfl (fun c18 => ?_) (fun c18 => ?_)
          · refine Cov.dgq_on rfl ?_
            refine Cov.dq (.move rfl) rfl ?_
            refine Cov.dgq_on rfl ?_
            refine Cov.dq (.fieldAddr 1 rfl fl33_1 ty3.sz rfl) rfl ?_
            refine Cov.dgq_on rfl ?_
            refine Cov.dq (.load_own 0 rfl rfl ty3 rfl) rfl ?_
            refine Cov.dgq_on rfl ?_
            refine Cov.dq (.leq rfl rfl) rfl ?_
            refine Cov.dq (.pick_t rfl rfl) rfl ?_
            refine Cov.prune _ ?_ (Cov.same rfl rfl rfl (hb19 () trivial))
            exact ⟨dand_t c18, rfl, rfl, rfl, rfl, trivial⟩
          · refine Cov.dgq_off rfl rfl rfl ?_
            refine Cov.dgq_off rfl rfl rfl ?_
            refine Cov.dgq_off rfl rfl rfl ?_
            refine Cov.dgq_off rfl rfl rfl ?_
            refine Cov.dq (.pick_f rfl rfl) rfl ?_
            refine Cov.prune _ ?_ (Cov.same rfl rfl rfl (hb19 () trivial))
            exact ⟨dand_f c18, rfl, rfl, rfl, rfl, trivial⟩
      · intro hb15
        refine Cov.split 17 rfl (fun c14 => ?_) (fun c14 => ?_)
        · refine Cov.dgq_on rfl ?_
          refine Cov.dq (.move rfl) rfl ?_
          refine Cov.dgq_on rfl ?_
          refine Cov.dq (.fieldAddr 1 rfl fl33_1 ty3.sz rfl) rfl ?_
          refine Cov.dgq_on rfl ?_
          refine Cov.dq (.load_own 0 rfl rfl ty3 rfl) rfl ?_
          refine Cov.dgq_on rfl ?_
          refine Cov.dq (.leq rfl rfl) rfl ?_
          refine Cov.dq (.pick_t rfl rfl) rfl ?_
          refine Cov.prune _ ?_ (Cov.same rfl rfl rfl (hb15 () trivial))
          exact ⟨dand_t c14, rfl, rfl, rfl, rfl, trivial⟩
        · refine Cov.dgq_off rfl rfl rfl ?_
          refine Cov.dgq_off rfl rfl rfl ?_
          refine Cov.dgq_off rfl rfl rfl ?_
          refine Cov.dgq_off rfl rfl rfl ?_
          refine Cov.dq (.pick_f rfl rfl) rfl ?_
          refine Cov.prune _ ?_ (Cov.same rfl rfl rfl (hb15 () trivial))
          exact ⟨dand_f c14, rfl, rfl, rfl, rfl, trivial⟩
    · intro hb11
      refine Cov.split 13 rfl (fun c10 => ?_) (fun c10 => ?_)
      · refine Cov.dgq_on rfl ?_
        refine Cov.dq (.move rfl) rfl ?_
        refine Cov.dgq_on rfl ?_
        refine Cov.dq (.geq rfl rfl) rfl ?_
        refine Cov.dq (.pick_t rfl rfl) rfl ?_
        refine Cov.prune _ ?_ (Cov.same rfl rfl rfl (hb11 () trivial))
        exact ⟨dand_t c10, rfl, rfl, rfl, rfl, trivial⟩
      · refine Cov.dgq_off rfl rfl rfl ?_
        refine Cov.dgq_off rfl rfl rfl ?_
        refine Cov.dq (.pick_f rfl rfl) rfl ?_
        refine Cov.prune _ ?_ (Cov.same rfl rfl rfl (hb11 () trivial))
        exact ⟨dand_f c10, rfl, rfl, rfl, rfl, trivial⟩
  · intro hb7
    refine Cov.split_b 9 rfl (fun c6 => ?_) (fun c6 => ?_)
    · refine Cov.dgq_on rfl ?_
      refine Cov.dq (.move rfl) rfl ?_
      refine Cov.dgq_on rfl ?_
      refine Cov.dq (.geq rfl rfl) rfl ?_
      refine Cov.dq (.pick_t rfl rfl) rfl ?_
      refine Cov.prune _ ?_ (Cov.same rfl rfl rfl (hb7 () trivial))
      exact ⟨dand_t c6, rfl, rfl, rfl, rfl, trivial⟩
    · refine Cov.dgq_off rfl rfl rfl ?_
      refine Cov.dgq_off rfl rfl rfl ?_
      refine Cov.dq (.pick_f rfl rfl) rfl ?_
      refine Cov.prune _ ?_ (Cov.same rfl rfl rfl (hb7 () trivial))
      exact ⟨dand_f (bne_of c6), rfl, rfl, rfl, rfl, trivial⟩

set_option maxHeartbeats 4000000 in
theorem ref29_Valid_c {Fs : List Hp} {G : Hp} {x0_0 : Int} {x0_1 : Int} {x0_2 : Int} {x0_3 : Int} {x0_4 : Int} {x0_5 : Int} {x0_6 : Int} {x0_7 : Int} {x0_8 : Int} {x0_9 : Int} {r : Bool} (hG : G ∈ Fs)  (h : ref29_Valid (x0_0, x0_1, x0_2, x0_3, x0_4, x0_5, x0_6, (x0_7, x0_8, x0_9)) = some r) : RetS Try.prog 22 #[.agg #[.int .i64 x0_0, .int .i64 x0_1, .int .i64 x0_2, .int .i64 x0_3, .int .i64 x0_4, .int .i64 x0_5, .int .i64 x0_6, .int .i64 x0_7, .int .i64 x0_8, .int .i64 x0_9]] Fs [] [] (fun v bo so => v = .bool r ∧ bo = [] ∧ so = []) := by
  unfold ref29_Valid at h
  try dsimp only at h
  refine RetS.of (vs := [_]) Try.func22 rfl Try.ntmps22 [(0, _)] ⟨rfl, trivial⟩ rfl hG fun w0 S0 hS0 B0 => ?_
  refine Cov.seq ?_
  refine Cov.region rfl ?_
  refine Cov.box [_, _, _, _, _, _, _, _, _, _] .ro rfl rfl rfl (fun b1 hb1 => ?_)
  refine Cov.q .ro (.assign rfl) rfl ?_
  refine Cov.region_end ?_
  refine Cov.seq ?_
  refine Cov.region rfl ?_
  refine Cov.q .ro (.fieldAddr 0 rfl fl29_0 ty3.sz rfl) rfl ?_
  refine Cov.q .ro (.load_own 0 rfl rfl ty3 rfl) rfl ?_
  refine Cov.q .ro (.assign rfl) rfl ?_
  refine Cov.region_end ?_
  refine Cov.seq ?_
  refine Cov.region rfl ?_
  refine Cov.q .ro (.fieldAddr 7 rfl fl29_7 ty27.sz rfl) rfl ?_
  refine Cov.q .ro (.load_own_a 0 [_, _, _] rfl rfl ty27 rfl) rfl ?_
  refine Cov.alloc .ro ty27 rfl (fun b2 hb2 => ?_)
  refine Cov.store 0 [_, _, _] [_, _] .ro rfl rfl rfl ty27 rfl rfl rfl rfl ?_
  refine Cov.region_end ?_
  refine Cov.seq ?_
  refine Cov.region rfl ?_
  refine Cov.q .ro (.move rfl) rfl ?_
  refine Cov.q .ro (.geq rfl rfl) rfl ?_
  refine Cov.q .ro (.move rfl) rfl ?_
  refine Cov.cutR 3 (β := Unit) (fun y => [(14, .bool (decide ((2 ≤ x0_0) ∧ (x0_0 ≤ 10))))]) [(1, _), (2, _), (3, _), (4, _)] (fun y => G :: Fs) (fun y => []) [_, _] (fun y => []) [] (fun y => True) ⟨rfl, rfl, rfl, rfl, trivial⟩ [0, 1] rfl [] rfl ?_ ?_
  · rintro _ _
    refine Cov.prune [(14, .bool (decide ((2 ≤ x0_0) ∧ (x0_0 ≤ 10)))), (1, _), (2, _), (3, _), (4, _)] ⟨rfl, rfl, rfl, rfl, rfl, trivial⟩ ?_
    refine Cov.same (bl' := [_, _]) (sl' := []) (Fs' := G :: Fs) rfl rfl rfl ?_
    refine Cov.q .ro (.move rfl) rfl ?_
    refine Cov.cutR 4 (β := Unit) (fun y => [(19, .bool (decide (((2 ≤ x0_0) ∧ (x0_0 ≤ 10)) ∧ (0 ≤ x0_1))))]) [(1, _), (2, _), (3, _), (4, _)] (fun y => G :: Fs) (fun y => []) [_, _] (fun y => []) [] (fun y => True) ⟨rfl, rfl, rfl, rfl, trivial⟩ [0, 1] rfl [] rfl ?_ ?_
    · rintro _ _
      refine Cov.prune [(19, .bool (decide (((2 ≤ x0_0) ∧ (x0_0 ≤ 10)) ∧ (0 ≤ x0_1)))), (1, _), (2, _), (3, _), (4, _)] ⟨rfl, rfl, rfl, rfl, rfl, trivial⟩ ?_
      refine Cov.same (bl' := [_, _]) (sl' := []) (Fs' := G :: Fs) rfl rfl rfl ?_
      refine Cov.q .ro (.move rfl) rfl ?_
      refine Cov.cutR 5 (β := Unit) (fun y => [(25, .bool (decide ((((2 ≤ x0_0) ∧ (x0_0 ≤ 10)) ∧ (0 ≤ x0_1)) ∧ (x0_1 ≤ x0_0))))]) [(1, _), (2, _), (3, _), (4, _)] (fun y => G :: Fs) (fun y => []) [_, _] (fun y => []) [] (fun y => True) ⟨rfl, rfl, rfl, rfl, trivial⟩ [0, 1] rfl [] rfl ?_ ?_
      · rintro _ _
        refine Cov.prune [(25, .bool (decide ((((2 ≤ x0_0) ∧ (x0_0 ≤ 10)) ∧ (0 ≤ x0_1)) ∧ (x0_1 ≤ x0_0)))), (1, _), (2, _), (3, _), (4, _)] ⟨rfl, rfl, rfl, rfl, rfl, trivial⟩ ?_
        refine Cov.same (bl' := [_, _]) (sl' := []) (Fs' := G :: Fs) rfl rfl rfl ?_
        refine Cov.q .ro (.move rfl) rfl ?_
        refine Cov.cutR 4 (β := Unit) (fun y => [(30, .bool (decide (((((2 ≤ x0_0) ∧ (x0_0 ≤ 10)) ∧ (0 ≤ x0_1)) ∧ (x0_1 ≤ x0_0)) ∧ (0 ≤ x0_2))))]) [(1, _), (2, _), (3, _), (4, _)] (fun y => G :: Fs) (fun y => []) [_, _] (fun y => []) [] (fun y => True) ⟨rfl, rfl, rfl, rfl, trivial⟩ [0, 1] rfl [] rfl ?_ ?_
        · rintro _ _
          refine Cov.prune [(30, .bool (decide (((((2 ≤ x0_0) ∧ (x0_0 ≤ 10)) ∧ (0 ≤ x0_1)) ∧ (x0_1 ≤ x0_0)) ∧ (0 ≤ x0_2)))), (1, _), (2, _), (3, _), (4, _)] ⟨rfl, rfl, rfl, rfl, rfl, trivial⟩ ?_
          refine Cov.same (bl' := [_, _]) (sl' := []) (Fs' := G :: Fs) rfl rfl rfl ?_
          refine Cov.q .ro (.move rfl) rfl ?_
          refine Cov.cutR 5 (β := Unit) (fun y => [(36, .bool (decide ((((((2 ≤ x0_0) ∧ (x0_0 ≤ 10)) ∧ (0 ≤ x0_1)) ∧ (x0_1 ≤ x0_0)) ∧ (0 ≤ x0_2)) ∧ (x0_2 ≤ x0_0))))]) [(1, _), (2, _), (3, _), (4, _)] (fun y => G :: Fs) (fun y => []) [_, _] (fun y => []) [] (fun y => True) ⟨rfl, rfl, rfl, rfl, trivial⟩ [0, 1] rfl [] rfl ?_ ?_
          · rintro _ _
            refine Cov.prune [(36, .bool (decide ((((((2 ≤ x0_0) ∧ (x0_0 ≤ 10)) ∧ (0 ≤ x0_1)) ∧ (x0_1 ≤ x0_0)) ∧ (0 ≤ x0_2)) ∧ (x0_2 ≤ x0_0)))), (1, _), (2, _), (3, _), (4, _)] ⟨rfl, rfl, rfl, rfl, rfl, trivial⟩ ?_
            refine Cov.same (bl' := [_, _]) (sl' := []) (Fs' := G :: Fs) rfl rfl rfl ?_
            refine Cov.q .ro (.move rfl) rfl ?_
            refine Cov.cutR 4 (β := Unit) (fun y => [(41, .bool (decide (((((((2 ≤ x0_0) ∧ (x0_0 ≤ 10)) ∧ (0 ≤ x0_1)) ∧ (x0_1 ≤ x0_0)) ∧ (0 ≤ x0_2)) ∧ (x0_2 ≤ x0_0)) ∧ (0 ≤ x0_3))))]) [(1, _), (2, _), (3, _), (4, _)] (fun y => G :: Fs) (fun y => []) [_, _] (fun y => []) [] (fun y => True) ⟨rfl, rfl, rfl, rfl, trivial⟩ [0, 1] rfl [] rfl ?_ ?_
            · rintro _ _
              refine Cov.prune [(41, .bool (decide (((((((2 ≤ x0_0) ∧ (x0_0 ≤ 10)) ∧ (0 ≤ x0_1)) ∧ (x0_1 ≤ x0_0)) ∧ (0 ≤ x0_2)) ∧ (x0_2 ≤ x0_0)) ∧ (0 ≤ x0_3)))), (1, _), (2, _), (3, _), (4, _)] ⟨rfl, rfl, rfl, rfl, rfl, trivial⟩ ?_
              refine Cov.same (bl' := [_, _]) (sl' := []) (Fs' := G :: Fs) rfl rfl rfl ?_
              refine Cov.q .ro (.move rfl) rfl ?_
              refine Cov.cutR 5 (β := Unit) (fun y => [(47, .bool (decide ((((((((2 ≤ x0_0) ∧ (x0_0 ≤ 10)) ∧ (0 ≤ x0_1)) ∧ (x0_1 ≤ x0_0)) ∧ (0 ≤ x0_2)) ∧ (x0_2 ≤ x0_0)) ∧ (0 ≤ x0_3)) ∧ (x0_3 ≤ x0_0))))]) [(1, _), (2, _), (4, _)] (fun y => G :: Fs) (fun y => []) [_, _] (fun y => []) [] (fun y => True) ⟨rfl, rfl, rfl, trivial⟩ [0, 1] rfl [] rfl ?_ ?_
              · rintro _ _
                refine Cov.prune [(47, .bool (decide ((((((((2 ≤ x0_0) ∧ (x0_0 ≤ 10)) ∧ (0 ≤ x0_1)) ∧ (x0_1 ≤ x0_0)) ∧ (0 ≤ x0_2)) ∧ (x0_2 ≤ x0_0)) ∧ (0 ≤ x0_3)) ∧ (x0_3 ≤ x0_0)))), (1, _), (2, _), (4, _)] ⟨rfl, rfl, rfl, rfl, trivial⟩ ?_
                refine Cov.same (bl' := [_, _]) (sl' := []) (Fs' := G :: Fs) rfl rfl rfl ?_
                refine Cov.q .ro (.move rfl) rfl ?_
                refine Cov.cutR 4 (β := Unit) (fun y => [(52, .bool (decide (((((((((2 ≤ x0_0) ∧ (x0_0 ≤ 10)) ∧ (0 ≤ x0_1)) ∧ (x0_1 ≤ x0_0)) ∧ (0 ≤ x0_2)) ∧ (x0_2 ≤ x0_0)) ∧ (0 ≤ x0_3)) ∧ (x0_3 ≤ x0_0)) ∧ (1 ≤ x0_4))))]) [(1, _), (2, _), (4, _)] (fun y => G :: Fs) (fun y => []) [_, _] (fun y => []) [] (fun y => True) ⟨rfl, rfl, rfl, trivial⟩ [0, 1] rfl [] rfl ?_ ?_
                · rintro _ _
                  refine Cov.prune [(52, .bool (decide (((((((((2 ≤ x0_0) ∧ (x0_0 ≤ 10)) ∧ (0 ≤ x0_1)) ∧ (x0_1 ≤ x0_0)) ∧ (0 ≤ x0_2)) ∧ (x0_2 ≤ x0_0)) ∧ (0 ≤ x0_3)) ∧ (x0_3 ≤ x0_0)) ∧ (1 ≤ x0_4)))), (1, _), (2, _), (4, _)] ⟨rfl, rfl, rfl, rfl, trivial⟩ ?_
                  refine Cov.same (bl' := [_, _]) (sl' := []) (Fs' := G :: Fs) rfl rfl rfl ?_
                  refine Cov.q .ro (.move rfl) rfl ?_
                  refine Cov.cutR 4 (β := Unit) (fun y => [(57, .bool (decide ((((((((((2 ≤ x0_0) ∧ (x0_0 ≤ 10)) ∧ (0 ≤ x0_1)) ∧ (x0_1 ≤ x0_0)) ∧ (0 ≤ x0_2)) ∧ (x0_2 ≤ x0_0)) ∧ (0 ≤ x0_3)) ∧ (x0_3 ≤ x0_0)) ∧ (1 ≤ x0_4)) ∧ (x0_4 ≤ 1024))))]) [(1, _), (2, _), (4, _)] (fun y => G :: Fs) (fun y => []) [_, _] (fun y => []) [] (fun y => True) ⟨rfl, rfl, rfl, trivial⟩ [0, 1] rfl [] rfl ?_ ?_
                  · rintro _ _
                    refine Cov.prune [(57, .bool (decide ((((((((((2 ≤ x0_0) ∧ (x0_0 ≤ 10)) ∧ (0 ≤ x0_1)) ∧ (x0_1 ≤ x0_0)) ∧ (0 ≤ x0_2)) ∧ (x0_2 ≤ x0_0)) ∧ (0 ≤ x0_3)) ∧ (x0_3 ≤ x0_0)) ∧ (1 ≤ x0_4)) ∧ (x0_4 ≤ 1024)))), (1, _), (2, _), (4, _)] ⟨rfl, rfl, rfl, rfl, trivial⟩ ?_
                    refine Cov.same (bl' := [_, _]) (sl' := []) (Fs' := G :: Fs) rfl rfl rfl ?_
                    refine Cov.q .ro (.move rfl) rfl ?_
                    refine Cov.cutR 4 (β := Unit) (fun y => [(62, .bool (decide (((((((((((2 ≤ x0_0) ∧ (x0_0 ≤ 10)) ∧ (0 ≤ x0_1)) ∧ (x0_1 ≤ x0_0)) ∧ (0 ≤ x0_2)) ∧ (x0_2 ≤ x0_0)) ∧ (0 ≤ x0_3)) ∧ (x0_3 ≤ x0_0)) ∧ (1 ≤ x0_4)) ∧ (x0_4 ≤ 1024)) ∧ (1 ≤ x0_5))))]) [(1, _), (2, _), (4, _)] (fun y => G :: Fs) (fun y => []) [_, _] (fun y => []) [] (fun y => True) ⟨rfl, rfl, rfl, trivial⟩ [0, 1] rfl [] rfl ?_ ?_
                    · rintro _ _
                      refine Cov.prune [(62, .bool (decide (((((((((((2 ≤ x0_0) ∧ (x0_0 ≤ 10)) ∧ (0 ≤ x0_1)) ∧ (x0_1 ≤ x0_0)) ∧ (0 ≤ x0_2)) ∧ (x0_2 ≤ x0_0)) ∧ (0 ≤ x0_3)) ∧ (x0_3 ≤ x0_0)) ∧ (1 ≤ x0_4)) ∧ (x0_4 ≤ 1024)) ∧ (1 ≤ x0_5)))), (1, _), (2, _), (4, _)] ⟨rfl, rfl, rfl, rfl, trivial⟩ ?_
                      refine Cov.same (bl' := [_, _]) (sl' := []) (Fs' := G :: Fs) rfl rfl rfl ?_
                      refine Cov.q .ro (.move rfl) rfl ?_
                      refine Cov.cutR 4 (β := Unit) (fun y => [(67, .bool (decide ((((((((((((2 ≤ x0_0) ∧ (x0_0 ≤ 10)) ∧ (0 ≤ x0_1)) ∧ (x0_1 ≤ x0_0)) ∧ (0 ≤ x0_2)) ∧ (x0_2 ≤ x0_0)) ∧ (0 ≤ x0_3)) ∧ (x0_3 ≤ x0_0)) ∧ (1 ≤ x0_4)) ∧ (x0_4 ≤ 1024)) ∧ (1 ≤ x0_5)) ∧ (x0_5 ≤ 64))))]) [(1, _), (2, _), (4, _)] (fun y => G :: Fs) (fun y => []) [_, _] (fun y => []) [] (fun y => True) ⟨rfl, rfl, rfl, trivial⟩ [0, 1] rfl [] rfl ?_ ?_
                      · rintro _ _
                        refine Cov.prune [(67, .bool (decide ((((((((((((2 ≤ x0_0) ∧ (x0_0 ≤ 10)) ∧ (0 ≤ x0_1)) ∧ (x0_1 ≤ x0_0)) ∧ (0 ≤ x0_2)) ∧ (x0_2 ≤ x0_0)) ∧ (0 ≤ x0_3)) ∧ (x0_3 ≤ x0_0)) ∧ (1 ≤ x0_4)) ∧ (x0_4 ≤ 1024)) ∧ (1 ≤ x0_5)) ∧ (x0_5 ≤ 64)))), (1, _), (2, _), (4, _)] ⟨rfl, rfl, rfl, rfl, trivial⟩ ?_
                        refine Cov.same (bl' := [_, _]) (sl' := []) (Fs' := G :: Fs) rfl rfl rfl ?_
                        refine Cov.q .ro (.move rfl) rfl ?_
                        refine Cov.cutR 4 (β := Unit) (fun y => [(72, .bool (decide (((((((((((((2 ≤ x0_0) ∧ (x0_0 ≤ 10)) ∧ (0 ≤ x0_1)) ∧ (x0_1 ≤ x0_0)) ∧ (0 ≤ x0_2)) ∧ (x0_2 ≤ x0_0)) ∧ (0 ≤ x0_3)) ∧ (x0_3 ≤ x0_0)) ∧ (1 ≤ x0_4)) ∧ (x0_4 ≤ 1024)) ∧ (1 ≤ x0_5)) ∧ (x0_5 ≤ 64)) ∧ (1 ≤ x0_6))))]) [(1, _), (2, _), (4, _)] (fun y => G :: Fs) (fun y => []) [_, _] (fun y => []) [] (fun y => True) ⟨rfl, rfl, rfl, trivial⟩ [0, 1] rfl [] rfl ?_ ?_
                        · rintro _ _
                          refine Cov.prune [(72, .bool (decide (((((((((((((2 ≤ x0_0) ∧ (x0_0 ≤ 10)) ∧ (0 ≤ x0_1)) ∧ (x0_1 ≤ x0_0)) ∧ (0 ≤ x0_2)) ∧ (x0_2 ≤ x0_0)) ∧ (0 ≤ x0_3)) ∧ (x0_3 ≤ x0_0)) ∧ (1 ≤ x0_4)) ∧ (x0_4 ≤ 1024)) ∧ (1 ≤ x0_5)) ∧ (x0_5 ≤ 64)) ∧ (1 ≤ x0_6)))), (1, _), (2, _), (4, _)] ⟨rfl, rfl, rfl, rfl, trivial⟩ ?_
                          refine Cov.same (bl' := [_, _]) (sl' := []) (Fs' := G :: Fs) rfl rfl rfl ?_
                          refine Cov.q .ro (.move rfl) rfl ?_
                          refine Cov.cutR 4 (β := Unit) (fun y => [(77, .bool (decide ((((((((((((((2 ≤ x0_0) ∧ (x0_0 ≤ 10)) ∧ (0 ≤ x0_1)) ∧ (x0_1 ≤ x0_0)) ∧ (0 ≤ x0_2)) ∧ (x0_2 ≤ x0_0)) ∧ (0 ≤ x0_3)) ∧ (x0_3 ≤ x0_0)) ∧ (1 ≤ x0_4)) ∧ (x0_4 ≤ 1024)) ∧ (1 ≤ x0_5)) ∧ (x0_5 ≤ 64)) ∧ (1 ≤ x0_6)) ∧ (x0_6 ≤ 16))))]) [(2, _), (4, _)] (fun y => G :: Fs) (fun y => []) [_, _] (fun y => []) [] (fun y => True) ⟨rfl, rfl, trivial⟩ [0, 1] rfl [] rfl ?_ ?_
                          · rintro _ _
                            refine Cov.prune [(77, .bool (decide ((((((((((((((2 ≤ x0_0) ∧ (x0_0 ≤ 10)) ∧ (0 ≤ x0_1)) ∧ (x0_1 ≤ x0_0)) ∧ (0 ≤ x0_2)) ∧ (x0_2 ≤ x0_0)) ∧ (0 ≤ x0_3)) ∧ (x0_3 ≤ x0_0)) ∧ (1 ≤ x0_4)) ∧ (x0_4 ≤ 1024)) ∧ (1 ≤ x0_5)) ∧ (x0_5 ≤ 64)) ∧ (1 ≤ x0_6)) ∧ (x0_6 ≤ 16)))), (2, _), (4, _)] ⟨rfl, rfl, rfl, trivial⟩ ?_
                            refine Cov.same (bl' := [_, _]) (sl' := []) (Fs' := G :: Fs) rfl rfl rfl ?_
                            refine Cov.q .ro (.move rfl) rfl ?_
                            refine Cov.cutR 4 (β := Unit) (fun y => [(82, .bool (decide (((((((((((((((2 ≤ x0_0) ∧ (x0_0 ≤ 10)) ∧ (0 ≤ x0_1)) ∧ (x0_1 ≤ x0_0)) ∧ (0 ≤ x0_2)) ∧ (x0_2 ≤ x0_0)) ∧ (0 ≤ x0_3)) ∧ (x0_3 ≤ x0_0)) ∧ (1 ≤ x0_4)) ∧ (x0_4 ≤ 1024)) ∧ (1 ≤ x0_5)) ∧ (x0_5 ≤ 64)) ∧ (1 ≤ x0_6)) ∧ (x0_6 ≤ 16)) ∧ (0 ≤ x0_7))))]) [(2, _), (4, _)] (fun y => G :: Fs) (fun y => []) [_, _] (fun y => []) [] (fun y => True) ⟨rfl, rfl, trivial⟩ [0, 1] rfl [] rfl ?_ ?_
                            · rintro _ _
                              refine Cov.prune [(82, .bool (decide (((((((((((((((2 ≤ x0_0) ∧ (x0_0 ≤ 10)) ∧ (0 ≤ x0_1)) ∧ (x0_1 ≤ x0_0)) ∧ (0 ≤ x0_2)) ∧ (x0_2 ≤ x0_0)) ∧ (0 ≤ x0_3)) ∧ (x0_3 ≤ x0_0)) ∧ (1 ≤ x0_4)) ∧ (x0_4 ≤ 1024)) ∧ (1 ≤ x0_5)) ∧ (x0_5 ≤ 64)) ∧ (1 ≤ x0_6)) ∧ (x0_6 ≤ 16)) ∧ (0 ≤ x0_7)))), (2, _), (4, _)] ⟨rfl, rfl, rfl, trivial⟩ ?_
                              refine Cov.same (bl' := [_, _]) (sl' := []) (Fs' := G :: Fs) rfl rfl rfl ?_
                              refine Cov.q .ro (.move rfl) rfl ?_
                              refine Cov.cutR 4 (β := Unit) (fun y => [(87, .bool (decide ((((((((((((((((2 ≤ x0_0) ∧ (x0_0 ≤ 10)) ∧ (0 ≤ x0_1)) ∧ (x0_1 ≤ x0_0)) ∧ (0 ≤ x0_2)) ∧ (x0_2 ≤ x0_0)) ∧ (0 ≤ x0_3)) ∧ (x0_3 ≤ x0_0)) ∧ (1 ≤ x0_4)) ∧ (x0_4 ≤ 1024)) ∧ (1 ≤ x0_5)) ∧ (x0_5 ≤ 64)) ∧ (1 ≤ x0_6)) ∧ (x0_6 ≤ 16)) ∧ (0 ≤ x0_7)) ∧ (x0_7 ≤ 1048576))))]) [(2, _), (4, _)] (fun y => G :: Fs) (fun y => []) [_, _] (fun y => []) [] (fun y => True) ⟨rfl, rfl, trivial⟩ [0, 1] rfl [] rfl ?_ ?_
                              · rintro _ _
                                refine Cov.prune [(87, .bool (decide ((((((((((((((((2 ≤ x0_0) ∧ (x0_0 ≤ 10)) ∧ (0 ≤ x0_1)) ∧ (x0_1 ≤ x0_0)) ∧ (0 ≤ x0_2)) ∧ (x0_2 ≤ x0_0)) ∧ (0 ≤ x0_3)) ∧ (x0_3 ≤ x0_0)) ∧ (1 ≤ x0_4)) ∧ (x0_4 ≤ 1024)) ∧ (1 ≤ x0_5)) ∧ (x0_5 ≤ 64)) ∧ (1 ≤ x0_6)) ∧ (x0_6 ≤ 16)) ∧ (0 ≤ x0_7)) ∧ (x0_7 ≤ 1048576)))), (2, _), (4, _)] ⟨rfl, rfl, rfl, trivial⟩ ?_
                                refine Cov.same (bl' := [_, _]) (sl' := []) (Fs' := G :: Fs) rfl rfl rfl ?_
                                refine Cov.q .ro (.move rfl) rfl ?_
                                refine Cov.cutR 4 (β := Unit) (fun y => [(92, .bool (decide (((((((((((((((((2 ≤ x0_0) ∧ (x0_0 ≤ 10)) ∧ (0 ≤ x0_1)) ∧ (x0_1 ≤ x0_0)) ∧ (0 ≤ x0_2)) ∧ (x0_2 ≤ x0_0)) ∧ (0 ≤ x0_3)) ∧ (x0_3 ≤ x0_0)) ∧ (1 ≤ x0_4)) ∧ (x0_4 ≤ 1024)) ∧ (1 ≤ x0_5)) ∧ (x0_5 ≤ 64)) ∧ (1 ≤ x0_6)) ∧ (x0_6 ≤ 16)) ∧ (0 ≤ x0_7)) ∧ (x0_7 ≤ 1048576)) ∧ (0 ≤ x0_8))))]) [(2, _), (4, _)] (fun y => G :: Fs) (fun y => []) [_, _] (fun y => []) [] (fun y => True) ⟨rfl, rfl, trivial⟩ [0, 1] rfl [] rfl ?_ ?_
                                · rintro _ _
                                  refine Cov.prune [(92, .bool (decide (((((((((((((((((2 ≤ x0_0) ∧ (x0_0 ≤ 10)) ∧ (0 ≤ x0_1)) ∧ (x0_1 ≤ x0_0)) ∧ (0 ≤ x0_2)) ∧ (x0_2 ≤ x0_0)) ∧ (0 ≤ x0_3)) ∧ (x0_3 ≤ x0_0)) ∧ (1 ≤ x0_4)) ∧ (x0_4 ≤ 1024)) ∧ (1 ≤ x0_5)) ∧ (x0_5 ≤ 64)) ∧ (1 ≤ x0_6)) ∧ (x0_6 ≤ 16)) ∧ (0 ≤ x0_7)) ∧ (x0_7 ≤ 1048576)) ∧ (0 ≤ x0_8)))), (2, _), (4, _)] ⟨rfl, rfl, rfl, trivial⟩ ?_
                                  refine Cov.same (bl' := [_, _]) (sl' := []) (Fs' := G :: Fs) rfl rfl rfl ?_
                                  refine Cov.q .ro (.move rfl) rfl ?_
                                  refine Cov.cutR 4 (β := Unit) (fun y => [(97, .bool (decide ((((((((((((((((((2 ≤ x0_0) ∧ (x0_0 ≤ 10)) ∧ (0 ≤ x0_1)) ∧ (x0_1 ≤ x0_0)) ∧ (0 ≤ x0_2)) ∧ (x0_2 ≤ x0_0)) ∧ (0 ≤ x0_3)) ∧ (x0_3 ≤ x0_0)) ∧ (1 ≤ x0_4)) ∧ (x0_4 ≤ 1024)) ∧ (1 ≤ x0_5)) ∧ (x0_5 ≤ 64)) ∧ (1 ≤ x0_6)) ∧ (x0_6 ≤ 16)) ∧ (0 ≤ x0_7)) ∧ (x0_7 ≤ 1048576)) ∧ (0 ≤ x0_8)) ∧ (x0_8 ≤ 1048576))))]) [(2, _), (4, _)] (fun y => G :: Fs) (fun y => []) [_, _] (fun y => []) [] (fun y => True) ⟨rfl, rfl, trivial⟩ [0, 1] rfl [] rfl ?_ ?_
                                  · rintro _ _
                                    refine Cov.prune [(97, .bool (decide ((((((((((((((((((2 ≤ x0_0) ∧ (x0_0 ≤ 10)) ∧ (0 ≤ x0_1)) ∧ (x0_1 ≤ x0_0)) ∧ (0 ≤ x0_2)) ∧ (x0_2 ≤ x0_0)) ∧ (0 ≤ x0_3)) ∧ (x0_3 ≤ x0_0)) ∧ (1 ≤ x0_4)) ∧ (x0_4 ≤ 1024)) ∧ (1 ≤ x0_5)) ∧ (x0_5 ≤ 64)) ∧ (1 ≤ x0_6)) ∧ (x0_6 ≤ 16)) ∧ (0 ≤ x0_7)) ∧ (x0_7 ≤ 1048576)) ∧ (0 ≤ x0_8)) ∧ (x0_8 ≤ 1048576)))), (2, _), (4, _)] ⟨rfl, rfl, rfl, trivial⟩ ?_
                                    refine Cov.same (bl' := [_, _]) (sl' := []) (Fs' := G :: Fs) rfl rfl rfl ?_
                                    refine Cov.q .ro (.move rfl) rfl ?_
                                    refine Cov.cutR 4 (β := Unit) (fun y => [(102, .bool (decide (((((((((((((((((((2 ≤ x0_0) ∧ (x0_0 ≤ 10)) ∧ (0 ≤ x0_1)) ∧ (x0_1 ≤ x0_0)) ∧ (0 ≤ x0_2)) ∧ (x0_2 ≤ x0_0)) ∧ (0 ≤ x0_3)) ∧ (x0_3 ≤ x0_0)) ∧ (1 ≤ x0_4)) ∧ (x0_4 ≤ 1024)) ∧ (1 ≤ x0_5)) ∧ (x0_5 ≤ 64)) ∧ (1 ≤ x0_6)) ∧ (x0_6 ≤ 16)) ∧ (0 ≤ x0_7)) ∧ (x0_7 ≤ 1048576)) ∧ (0 ≤ x0_8)) ∧ (x0_8 ≤ 1048576)) ∧ (0 ≤ x0_9))))]) [(2, _), (4, _)] (fun y => G :: Fs) (fun y => []) [_, _] (fun y => []) [] (fun y => True) ⟨rfl, rfl, trivial⟩ [0, 1] rfl [] rfl ?_ ?_
                                    · rintro _ _
                                      refine Cov.prune [(102, .bool (decide (((((((((((((((((((2 ≤ x0_0) ∧ (x0_0 ≤ 10)) ∧ (0 ≤ x0_1)) ∧ (x0_1 ≤ x0_0)) ∧ (0 ≤ x0_2)) ∧ (x0_2 ≤ x0_0)) ∧ (0 ≤ x0_3)) ∧ (x0_3 ≤ x0_0)) ∧ (1 ≤ x0_4)) ∧ (x0_4 ≤ 1024)) ∧ (1 ≤ x0_5)) ∧ (x0_5 ≤ 64)) ∧ (1 ≤ x0_6)) ∧ (x0_6 ≤ 16)) ∧ (0 ≤ x0_7)) ∧ (x0_7 ≤ 1048576)) ∧ (0 ≤ x0_8)) ∧ (x0_8 ≤ 1048576)) ∧ (0 ≤ x0_9)))), (2, _), (4, _)] ⟨rfl, rfl, rfl, trivial⟩ ?_
                                      refine Cov.same (bl' := [_, _]) (sl' := []) (Fs' := G :: Fs) rfl rfl rfl ?_
                                      refine Cov.q .ro (.move rfl) rfl ?_
                                      refine Cov.cutR 4 (β := Unit) (fun y => [(107, .bool (decide ((((((((((((((((((((2 ≤ x0_0) ∧ (x0_0 ≤ 10)) ∧ (0 ≤ x0_1)) ∧ (x0_1 ≤ x0_0)) ∧ (0 ≤ x0_2)) ∧ (x0_2 ≤ x0_0)) ∧ (0 ≤ x0_3)) ∧ (x0_3 ≤ x0_0)) ∧ (1 ≤ x0_4)) ∧ (x0_4 ≤ 1024)) ∧ (1 ≤ x0_5)) ∧ (x0_5 ≤ 64)) ∧ (1 ≤ x0_6)) ∧ (x0_6 ≤ 16)) ∧ (0 ≤ x0_7)) ∧ (x0_7 ≤ 1048576)) ∧ (0 ≤ x0_8)) ∧ (x0_8 ≤ 1048576)) ∧ (0 ≤ x0_9)) ∧ (x0_9 ≤ 1048576))))]) [(2, _)] (fun y => G :: Fs) (fun y => []) [_, _] (fun y => []) [] (fun y => True) ⟨rfl, trivial⟩ [0, 1] rfl [] rfl ?_ ?_
                                      · rintro _ _
                                        refine Cov.prune [(107, .bool (decide ((((((((((((((((((((2 ≤ x0_0) ∧ (x0_0 ≤ 10)) ∧ (0 ≤ x0_1)) ∧ (x0_1 ≤ x0_0)) ∧ (0 ≤ x0_2)) ∧ (x0_2 ≤ x0_0)) ∧ (0 ≤ x0_3)) ∧ (x0_3 ≤ x0_0)) ∧ (1 ≤ x0_4)) ∧ (x0_4 ≤ 1024)) ∧ (1 ≤ x0_5)) ∧ (x0_5 ≤ 64)) ∧ (1 ≤ x0_6)) ∧ (x0_6 ≤ 16)) ∧ (0 ≤ x0_7)) ∧ (x0_7 ≤ 1048576)) ∧ (0 ≤ x0_8)) ∧ (x0_8 ≤ 1048576)) ∧ (0 ≤ x0_9)) ∧ (x0_9 ≤ 1048576)))), (2, _)] ⟨rfl, rfl, trivial⟩ ?_
                                        refine Cov.same (bl' := [_, _]) (sl' := []) (Fs' := G :: Fs) rfl rfl rfl ?_
                                        refine Cov.q .ro (.assign rfl) rfl ?_
                                        refine Cov.region_end ?_
                                        cases h
                                        refine Cov.drop 2 0 [] _ rfl rfl ?_
                                        refine Cov.retS (c := ⟨22, none⟩) (.inr ⟨_, rfl⟩) [.tmp 2] [_] rfl Try.func22 Try.results22 ⟨RV.tmp rfl, trivial⟩ (fun _ h => List.mem_cons_of_mem _ h) ⟨rfl, rfl, rfl⟩
                                      · intro hb76
                                        refine Cov.split 103 rfl (fun c75 => ?_) (fun c75 => ?_)
                                        · refine Cov.g_on rfl ?_
                                          refine Cov.q .ro (.fieldAddr 2 rfl fl27_2 ty3.sz rfl) rfl ?_
                                          refine Cov.g_on rfl ?_
                                          refine Cov.q .ro (.load_own 0 rfl rfl ty3 rfl) rfl ?_
                                          refine Cov.g_on rfl ?_
                                          refine Cov.q .ro (.leq rfl rfl) rfl ?_
                                          refine Cov.q .ro (.pick_t rfl rfl) rfl ?_
                                          refine Cov.prune _ ?_ (Cov.same rfl rfl rfl (hb76 () trivial))
                                          exact ⟨dand_t c75, rfl, trivial⟩
                                        · refine Cov.g_off rfl rfl rfl ?_
                                          refine Cov.g_off rfl rfl rfl ?_
                                          refine Cov.g_off rfl rfl rfl ?_
                                          refine Cov.q .ro (.pick_f rfl rfl) rfl ?_
                                          refine Cov.prune _ ?_ (Cov.same rfl rfl rfl (hb76 () trivial))
                                          exact ⟨dand_f c75, rfl, trivial⟩
                                    · intro hb72
                                      refine Cov.split 98 rfl (fun c71 => ?_) (fun c71 => ?_)
                                      · refine Cov.g_on rfl ?_
                                        refine Cov.q .ro (.fieldAddr 2 rfl fl27_2 ty3.sz rfl) rfl ?_
                                        refine Cov.g_on rfl ?_
                                        refine Cov.q .ro (.load_own 0 rfl rfl ty3 rfl) rfl ?_
                                        refine Cov.g_on rfl ?_
                                        refine Cov.q .ro (.geq rfl rfl) rfl ?_
                                        refine Cov.q .ro (.pick_t rfl rfl) rfl ?_
                                        refine Cov.prune _ ?_ (Cov.same rfl rfl rfl (hb72 () trivial))
                                        exact ⟨dand_t c71, rfl, rfl, trivial⟩
                                      · refine Cov.g_off rfl rfl rfl ?_
                                        refine Cov.g_off rfl rfl rfl ?_
                                        refine Cov.g_off rfl rfl rfl ?_
                                        refine Cov.q .ro (.pick_f rfl rfl) rfl ?_
                                        refine Cov.prune _ ?_ (Cov.same rfl rfl rfl (hb72 () trivial))
                                        exact ⟨dand_f c71, rfl, rfl, trivial⟩
                                  · intro hb68
                                    refine Cov.split 93 rfl (fun c67 => ?_) (fun c67 => ?_)
                                    · refine Cov.g_on rfl ?_
                                      refine Cov.q .ro (.fieldAddr 1 rfl fl27_1 ty3.sz rfl) rfl ?_
                                      refine Cov.g_on rfl ?_
                                      refine Cov.q .ro (.load_own 0 rfl rfl ty3 rfl) rfl ?_
                                      refine Cov.g_on rfl ?_
                                      refine Cov.q .ro (.leq rfl rfl) rfl ?_
                                      refine Cov.q .ro (.pick_t rfl rfl) rfl ?_
                                      refine Cov.prune _ ?_ (Cov.same rfl rfl rfl (hb68 () trivial))
                                      exact ⟨dand_t c67, rfl, rfl, trivial⟩
                                    · refine Cov.g_off rfl rfl rfl ?_
                                      refine Cov.g_off rfl rfl rfl ?_
                                      refine Cov.g_off rfl rfl rfl ?_
                                      refine Cov.q .ro (.pick_f rfl rfl) rfl ?_
                                      refine Cov.prune _ ?_ (Cov.same rfl rfl rfl (hb68 () trivial))
                                      exact ⟨dand_f c67, rfl, rfl, trivial⟩
                                · intro hb64
                                  refine Cov.split 88 rfl (fun c63 => ?_) (fun c63 => ?_)
                                  · refine Cov.g_on rfl ?_
                                    refine Cov.q .ro (.fieldAddr 1 rfl fl27_1 ty3.sz rfl) rfl ?_
                                    refine Cov.g_on rfl ?_
                                    refine Cov.q .ro (.load_own 0 rfl rfl ty3 rfl) rfl ?_
                                    refine Cov.g_on rfl ?_
                                    refine Cov.q .ro (.geq rfl rfl) rfl ?_
                                    refine Cov.q .ro (.pick_t rfl rfl) rfl ?_
                                    refine Cov.prune _ ?_ (Cov.same rfl rfl rfl (hb64 () trivial))
                                    exact ⟨dand_t c63, rfl, rfl, trivial⟩
                                  · refine Cov.g_off rfl rfl rfl ?_
                                    refine Cov.g_off rfl rfl rfl ?_
                                    refine Cov.g_off rfl rfl rfl ?_
                                    refine Cov.q .ro (.pick_f rfl rfl) rfl ?_
                                    refine Cov.prune _ ?_ (Cov.same rfl rfl rfl (hb64 () trivial))
                                    exact ⟨dand_f c63, rfl, rfl, trivial⟩
                              · intro hb60
                                refine Cov.split 83 rfl (fun c59 => ?_) (fun c59 => ?_)
                                · refine Cov.g_on rfl ?_
                                  refine Cov.q .ro (.fieldAddr 0 rfl fl27_0 ty3.sz rfl) rfl ?_
                                  refine Cov.g_on rfl ?_
                                  refine Cov.q .ro (.load_own 0 rfl rfl ty3 rfl) rfl ?_
                                  refine Cov.g_on rfl ?_
                                  refine Cov.q .ro (.leq rfl rfl) rfl ?_
                                  refine Cov.q .ro (.pick_t rfl rfl) rfl ?_
                                  refine Cov.prune _ ?_ (Cov.same rfl rfl rfl (hb60 () trivial))
                                  exact ⟨dand_t c59, rfl, rfl, trivial⟩
                                · refine Cov.g_off rfl rfl rfl ?_
                                  refine Cov.g_off rfl rfl rfl ?_
                                  refine Cov.g_off rfl rfl rfl ?_
                                  refine Cov.q .ro (.pick_f rfl rfl) rfl ?_
                                  refine Cov.prune _ ?_ (Cov.same rfl rfl rfl (hb60 () trivial))
                                  exact ⟨dand_f c59, rfl, rfl, trivial⟩
                            · intro hb56
                              refine Cov.split 78 rfl (fun c55 => ?_) (fun c55 => ?_)
                              · refine Cov.g_on rfl ?_
                                refine Cov.q .ro (.fieldAddr 0 rfl fl27_0 ty3.sz rfl) rfl ?_
                                refine Cov.g_on rfl ?_
                                refine Cov.q .ro (.load_own 0 rfl rfl ty3 rfl) rfl ?_
                                refine Cov.g_on rfl ?_
                                refine Cov.q .ro (.geq rfl rfl) rfl ?_
                                refine Cov.q .ro (.pick_t rfl rfl) rfl ?_
                                refine Cov.prune _ ?_ (Cov.same rfl rfl rfl (hb56 () trivial))
                                exact ⟨dand_t c55, rfl, rfl, trivial⟩
                              · refine Cov.g_off rfl rfl rfl ?_
                                refine Cov.g_off rfl rfl rfl ?_
                                refine Cov.g_off rfl rfl rfl ?_
                                refine Cov.q .ro (.pick_f rfl rfl) rfl ?_
                                refine Cov.prune _ ?_ (Cov.same rfl rfl rfl (hb56 () trivial))
                                exact ⟨dand_f c55, rfl, rfl, trivial⟩
                          · intro hb52
                            refine Cov.split 73 rfl (fun c51 => ?_) (fun c51 => ?_)
                            · refine Cov.g_on rfl ?_
                              refine Cov.q .ro (.fieldAddr 6 rfl fl29_6 ty3.sz rfl) rfl ?_
                              refine Cov.g_on rfl ?_
                              refine Cov.q .ro (.load_own 1 rfl rfl ty3 rfl) rfl ?_
                              refine Cov.g_on rfl ?_
                              refine Cov.q .ro (.leq rfl rfl) rfl ?_
                              refine Cov.q .ro (.pick_t rfl rfl) rfl ?_
                              refine Cov.prune _ ?_ (Cov.same rfl rfl rfl (hb52 () trivial))
                              exact ⟨dand_t c51, rfl, rfl, trivial⟩
                            · refine Cov.g_off rfl rfl rfl ?_
                              refine Cov.g_off rfl rfl rfl ?_
                              refine Cov.g_off rfl rfl rfl ?_
                              refine Cov.q .ro (.pick_f rfl rfl) rfl ?_
                              refine Cov.prune _ ?_ (Cov.same rfl rfl rfl (hb52 () trivial))
                              exact ⟨dand_f c51, rfl, rfl, trivial⟩
                        · intro hb48
                          refine Cov.split 68 rfl (fun c47 => ?_) (fun c47 => ?_)
                          · refine Cov.g_on rfl ?_
                            refine Cov.q .ro (.fieldAddr 6 rfl fl29_6 ty3.sz rfl) rfl ?_
                            refine Cov.g_on rfl ?_
                            refine Cov.q .ro (.load_own 1 rfl rfl ty3 rfl) rfl ?_
                            refine Cov.g_on rfl ?_
                            refine Cov.q .ro (.geq rfl rfl) rfl ?_
                            refine Cov.q .ro (.pick_t rfl rfl) rfl ?_
                            refine Cov.prune _ ?_ (Cov.same rfl rfl rfl (hb48 () trivial))
                            exact ⟨dand_t c47, rfl, rfl, rfl, trivial⟩
                          · refine Cov.g_off rfl rfl rfl ?_
                            refine Cov.g_off rfl rfl rfl ?_
                            refine Cov.g_off rfl rfl rfl ?_
                            refine Cov.q .ro (.pick_f rfl rfl) rfl ?_
                            refine Cov.prune _ ?_ (Cov.same rfl rfl rfl (hb48 () trivial))
                            exact ⟨dand_f c47, rfl, rfl, rfl, trivial⟩
                      · intro hb44
                        refine Cov.split 63 rfl (fun c43 => ?_) (fun c43 => ?_)
                        · refine Cov.g_on rfl ?_
                          refine Cov.q .ro (.fieldAddr 5 rfl fl29_5 ty3.sz rfl) rfl ?_
                          refine Cov.g_on rfl ?_
                          refine Cov.q .ro (.load_own 1 rfl rfl ty3 rfl) rfl ?_
                          refine Cov.g_on rfl ?_
                          refine Cov.q .ro (.leq rfl rfl) rfl ?_
                          refine Cov.q .ro (.pick_t rfl rfl) rfl ?_
                          refine Cov.prune _ ?_ (Cov.same rfl rfl rfl (hb44 () trivial))
                          exact ⟨dand_t c43, rfl, rfl, rfl, trivial⟩
                        · refine Cov.g_off rfl rfl rfl ?_
                          refine Cov.g_off rfl rfl rfl ?_
                          refine Cov.g_off rfl rfl rfl ?_
                          refine Cov.q .ro (.pick_f rfl rfl) rfl ?_
                          refine Cov.prune _ ?_ (Cov.same rfl rfl rfl (hb44 () trivial))
                          exact ⟨dand_f c43, rfl, rfl, rfl, trivial⟩
                    · intro hb40
                      refine Cov.split 58 rfl (fun c39 => ?_) (fun c39 => ?_)
                      · refine Cov.g_on rfl ?_
                        refine Cov.q .ro (.fieldAddr 5 rfl fl29_5 ty3.sz rfl) rfl ?_
                        refine Cov.g_on rfl ?_
                        refine Cov.q .ro (.load_own 1 rfl rfl ty3 rfl) rfl ?_
                        refine Cov.g_on rfl ?_
                        refine Cov.q .ro (.geq rfl rfl) rfl ?_
                        refine Cov.q .ro (.pick_t rfl rfl) rfl ?_
                        refine Cov.prune _ ?_ (Cov.same rfl rfl rfl (hb40 () trivial))
                        exact ⟨dand_t c39, rfl, rfl, rfl, trivial⟩
                      · refine Cov.g_off rfl rfl rfl ?_
                        refine Cov.g_off rfl rfl rfl ?_
                        refine Cov.g_off rfl rfl rfl ?_
                        refine Cov.q .ro (.pick_f rfl rfl) rfl ?_
                        refine Cov.prune _ ?_ (Cov.same rfl rfl rfl (hb40 () trivial))
                        exact ⟨dand_f c39, rfl, rfl, rfl, trivial⟩
                  · intro hb36
                    refine Cov.split 53 rfl (fun c35 => ?_) (fun c35 => ?_)
                    · refine Cov.g_on rfl ?_
                      refine Cov.q .ro (.fieldAddr 4 rfl fl29_4 ty3.sz rfl) rfl ?_
                      refine Cov.g_on rfl ?_
                      refine Cov.q .ro (.load_own 1 rfl rfl ty3 rfl) rfl ?_
                      refine Cov.g_on rfl ?_
                      refine Cov.q .ro (.leq rfl rfl) rfl ?_
                      refine Cov.q .ro (.pick_t rfl rfl) rfl ?_
                      refine Cov.prune _ ?_ (Cov.same rfl rfl rfl (hb36 () trivial))
                      exact ⟨dand_t c35, rfl, rfl, rfl, trivial⟩
                    · refine Cov.g_off rfl rfl rfl ?_
                      refine Cov.g_off rfl rfl rfl ?_
                      refine Cov.g_off rfl rfl rfl ?_
                      refine Cov.q .ro (.pick_f rfl rfl) rfl ?_
                      refine Cov.prune _ ?_ (Cov.same rfl rfl rfl (hb36 () trivial))
                      exact ⟨dand_f c35, rfl, rfl, rfl, trivial⟩
                · intro hb32
                  refine Cov.split 48 rfl (fun c31 => ?_) (fun c31 => ?_)
                  · refine Cov.g_on rfl ?_
                    refine Cov.q .ro (.fieldAddr 4 rfl fl29_4 ty3.sz rfl) rfl ?_
                    refine Cov.g_on rfl ?_
                    refine Cov.q .ro (.load_own 1 rfl rfl ty3 rfl) rfl ?_
                    refine Cov.g_on rfl ?_
                    refine Cov.q .ro (.geq rfl rfl) rfl ?_
                    refine Cov.q .ro (.pick_t rfl rfl) rfl ?_
                    refine Cov.prune _ ?_ (Cov.same rfl rfl rfl (hb32 () trivial))
                    exact ⟨dand_t c31, rfl, rfl, rfl, trivial⟩
                  · refine Cov.g_off rfl rfl rfl ?_
                    refine Cov.g_off rfl rfl rfl ?_
                    refine Cov.g_off rfl rfl rfl ?_
                    refine Cov.q .ro (.pick_f rfl rfl) rfl ?_
                    refine Cov.prune _ ?_ (Cov.same rfl rfl rfl (hb32 () trivial))
                    exact ⟨dand_f c31, rfl, rfl, rfl, trivial⟩
              · intro hb28
                refine Cov.split 42 rfl (fun c27 => ?_) (fun c27 => ?_)
                · refine Cov.g_on rfl ?_
                  refine Cov.q .ro (.fieldAddr 3 rfl fl29_3 ty3.sz rfl) rfl ?_
                  refine Cov.g_on rfl ?_
                  refine Cov.q .ro (.load_own 1 rfl rfl ty3 rfl) rfl ?_
                  refine Cov.g_on rfl ?_
                  refine Cov.q .ro (.move rfl) rfl ?_
                  refine Cov.g_on rfl ?_
                  refine Cov.q .ro (.leq rfl rfl) rfl ?_
                  refine Cov.q .ro (.pick_t rfl rfl) rfl ?_
                  refine Cov.prune _ ?_ (Cov.same rfl rfl rfl (hb28 () trivial))
                  exact ⟨dand_t c27, rfl, rfl, rfl, trivial⟩
                · refine Cov.g_off rfl rfl rfl ?_
                  refine Cov.g_off rfl rfl rfl ?_
                  refine Cov.g_off rfl rfl rfl ?_
                  refine Cov.g_off rfl rfl rfl ?_
                  refine Cov.q .ro (.pick_f rfl rfl) rfl ?_
                  refine Cov.prune _ ?_ (Cov.same rfl rfl rfl (hb28 () trivial))
                  exact ⟨dand_f c27, rfl, rfl, rfl, trivial⟩
            · intro hb24
              refine Cov.split 37 rfl (fun c23 => ?_) (fun c23 => ?_)
              · refine Cov.g_on rfl ?_
                refine Cov.q .ro (.fieldAddr 3 rfl fl29_3 ty3.sz rfl) rfl ?_
                refine Cov.g_on rfl ?_
                refine Cov.q .ro (.load_own 1 rfl rfl ty3 rfl) rfl ?_
                refine Cov.g_on rfl ?_
                refine Cov.q .ro (.geq rfl rfl) rfl ?_
                refine Cov.q .ro (.pick_t rfl rfl) rfl ?_
                refine Cov.prune _ ?_ (Cov.same rfl rfl rfl (hb24 () trivial))
                exact ⟨dand_t c23, rfl, rfl, rfl, rfl, trivial⟩
              · refine Cov.g_off rfl rfl rfl ?_
                refine Cov.g_off rfl rfl rfl ?_
                refine Cov.g_off rfl rfl rfl ?_
                refine Cov.q .ro (.pick_f rfl rfl) rfl ?_
                refine Cov.prune _ ?_ (Cov.same rfl rfl rfl (hb24 () trivial))
                exact ⟨dand_f c23, rfl, rfl, rfl, rfl, trivial⟩
          · intro hb20
            refine Cov.split 31 rfl (fun c19 => ?_) (fun c19 => ?_)
            · refine Cov.g_on rfl ?_
              refine Cov.q .ro (.fieldAddr 2 rfl fl29_2 ty3.sz rfl) rfl ?_
              refine Cov.g_on rfl ?_
              refine Cov.q .ro (.load_own 1 rfl rfl ty3 rfl) rfl ?_
              refine Cov.g_on rfl ?_
              refine Cov.q .ro (.move rfl) rfl ?_
              refine Cov.g_on rfl ?_
              refine Cov.q .ro (.leq rfl rfl) rfl ?_
              refine Cov.q .ro (.pick_t rfl rfl) rfl ?_
              refine Cov.prune _ ?_ (Cov.same rfl rfl rfl (hb20 () trivial))
              exact ⟨dand_t c19, rfl, rfl, rfl, rfl, trivial⟩
            · refine Cov.g_off rfl rfl rfl ?_
              refine Cov.g_off rfl rfl rfl ?_
              refine Cov.g_off rfl rfl rfl ?_
              refine Cov.g_off rfl rfl rfl ?_
              refine Cov.q .ro (.pick_f rfl rfl) rfl ?_
              refine Cov.prune _ ?_ (Cov.same rfl rfl rfl (hb20 () trivial))
              exact ⟨dand_f c19, rfl, rfl, rfl, rfl, trivial⟩
        · intro hb16
          refine Cov.split 26 rfl (fun c15 => ?_) (fun c15 => ?_)
          · refine Cov.g_on rfl ?_
            refine Cov.q .ro (.fieldAddr 2 rfl fl29_2 ty3.sz rfl) rfl ?_
            refine Cov.g_on rfl ?_
            refine Cov.q .ro (.load_own 1 rfl rfl ty3 rfl) rfl ?_
            refine Cov.g_on rfl ?_
            refine Cov.q .ro (.geq rfl rfl) rfl ?_
            refine Cov.q .ro (.pick_t rfl rfl) rfl ?_
            refine Cov.prune _ ?_ (Cov.same rfl rfl rfl (hb16 () trivial))
            exact ⟨dand_t c15, rfl, rfl, rfl, rfl, trivial⟩
          · refine Cov.g_off rfl rfl rfl ?_
            refine Cov.g_off rfl rfl rfl ?_
            refine Cov.g_off rfl rfl rfl ?_
            refine Cov.q .ro (.pick_f rfl rfl) rfl ?_
            refine Cov.prune _ ?_ (Cov.same rfl rfl rfl (hb16 () trivial))
            exact ⟨dand_f c15, rfl, rfl, rfl, rfl, trivial⟩
      · intro hb12
        refine Cov.split 20 rfl (fun c11 => ?_) (fun c11 => ?_)
        · refine Cov.g_on rfl ?_
          refine Cov.q .ro (.fieldAddr 1 rfl fl29_1 ty3.sz rfl) rfl ?_
          refine Cov.g_on rfl ?_
          refine Cov.q .ro (.load_own 1 rfl rfl ty3 rfl) rfl ?_
          refine Cov.g_on rfl ?_
          refine Cov.q .ro (.move rfl) rfl ?_
          refine Cov.g_on rfl ?_
          refine Cov.q .ro (.leq rfl rfl) rfl ?_
          refine Cov.q .ro (.pick_t rfl rfl) rfl ?_
          refine Cov.prune _ ?_ (Cov.same rfl rfl rfl (hb12 () trivial))
          exact ⟨dand_t c11, rfl, rfl, rfl, rfl, trivial⟩
        · refine Cov.g_off rfl rfl rfl ?_
          refine Cov.g_off rfl rfl rfl ?_
          refine Cov.g_off rfl rfl rfl ?_
          refine Cov.g_off rfl rfl rfl ?_
          refine Cov.q .ro (.pick_f rfl rfl) rfl ?_
          refine Cov.prune _ ?_ (Cov.same rfl rfl rfl (hb12 () trivial))
          exact ⟨dand_f c11, rfl, rfl, rfl, rfl, trivial⟩
    · intro hb8
      refine Cov.split 15 rfl (fun c7 => ?_) (fun c7 => ?_)
      · refine Cov.g_on rfl ?_
        refine Cov.q .ro (.fieldAddr 1 rfl fl29_1 ty3.sz rfl) rfl ?_
        refine Cov.g_on rfl ?_
        refine Cov.q .ro (.load_own 1 rfl rfl ty3 rfl) rfl ?_
        refine Cov.g_on rfl ?_
        refine Cov.q .ro (.geq rfl rfl) rfl ?_
        refine Cov.q .ro (.pick_t rfl rfl) rfl ?_
        refine Cov.prune _ ?_ (Cov.same rfl rfl rfl (hb8 () trivial))
        exact ⟨dand_t c7, rfl, rfl, rfl, rfl, trivial⟩
      · refine Cov.g_off rfl rfl rfl ?_
        refine Cov.g_off rfl rfl rfl ?_
        refine Cov.g_off rfl rfl rfl ?_
        refine Cov.q .ro (.pick_f rfl rfl) rfl ?_
        refine Cov.prune _ ?_ (Cov.same rfl rfl rfl (hb8 () trivial))
        exact ⟨dand_f c7, rfl, rfl, rfl, rfl, trivial⟩
  · intro hb4
    refine Cov.split 11 rfl (fun c3 => ?_) (fun c3 => ?_)
    · refine Cov.g_on rfl ?_
      refine Cov.q .ro (.move rfl) rfl ?_
      refine Cov.g_on rfl ?_
      refine Cov.q .ro (.leq rfl rfl) rfl ?_
      refine Cov.q .ro (.pick_t rfl rfl) rfl ?_
      refine Cov.prune _ ?_ (Cov.same rfl rfl rfl (hb4 () trivial))
      exact ⟨dand_t c3, rfl, rfl, rfl, rfl, trivial⟩
    · refine Cov.g_off rfl rfl rfl ?_
      refine Cov.g_off rfl rfl rfl ?_
      refine Cov.q .ro (.pick_f rfl rfl) rfl ?_
      refine Cov.prune _ ?_ (Cov.same rfl rfl rfl (hb4 () trivial))
      exact ⟨dand_f c3, rfl, rfl, rfl, rfl, trivial⟩

set_option maxHeartbeats 4000000 in
theorem ref29_Serves_c {Fs : List Hp} {G : Hp} {x0_0 : Int} {x0_1 : Int} {x0_2 : Int} {x0_3 : Int} {x1_0 : Int} {x1_1 : Int} {x1_2 : Int} {x1_3 : Int} {x1_4 : Int} {x1_5 : Int} {x1_6 : Int} {x1_7 : Int} {x1_8 : Int} {x1_9 : Int} {r : Bool} (hG : G ∈ Fs)  (h : ref29_Serves (x0_0, x0_1, x0_2, x0_3) (x1_0, x1_1, x1_2, x1_3, x1_4, x1_5, x1_6, (x1_7, x1_8, x1_9)) = some r) : RetS Try.prog 23 #[.agg #[.int .i64 x0_0, .int .i64 x0_1, .int .i64 x0_2, .int .i64 x0_3], .agg #[.int .i64 x1_0, .int .i64 x1_1, .int .i64 x1_2, .int .i64 x1_3, .int .i64 x1_4, .int .i64 x1_5, .int .i64 x1_6, .int .i64 x1_7, .int .i64 x1_8, .int .i64 x1_9]] Fs [] [] (fun v bo so => v = .bool r ∧ bo = [] ∧ so = []) := by
  unfold ref29_Serves at h
  try dsimp only at h
  refine RetS.of (vs := [_, _]) Try.func23 rfl Try.ntmps23 [(0, _), (1, _)] ⟨rfl, rfl, trivial⟩ rfl hG fun w0 S0 hS0 B0 => ?_
  refine Cov.seq ?_
  refine Cov.region rfl ?_
  refine Cov.box [_, _, _, _] .ro rfl rfl rfl (fun b1 hb1 => ?_)
  refine Cov.box [_, _, _, _, _, _, _, _, _, _] .ro rfl rfl rfl (fun b2 hb2 => ?_)
  refine Cov.q .ro (.assign rfl) rfl ?_
  refine Cov.region_end ?_
  refine Cov.seq ?_
  refine Cov.drawL (.q 0 (.e 1 1 (.q 2 (.q 3 (.e 4 1 (.q 5 (.q 6 (.q 7 (.q 8 (.q 9 (.q 10 (.q 11 (.q 12 (.q 13 (.q 14 (.q 16 (.q 17 (.e 15 1 (.q 18 (.q 19 (.q 20 (.q 21 (.q 22 (.q 23 (.q 24 (.q 25 (.e 26 1 (.q 27 (.q 28 .nil))))))))))))))))))))))))))))) [_, _] (by kernel_rfl) (by kernel_rfl) (pick_mem [0, 1] rfl) ?_
  refine Cov.dq (.load_own_a 0 [_, _, _, _, _, _, _, _, _, _] rfl rfl ty29 rfl) rfl ?_
  obtain ⟨u3, hu3, r4⟩ := bind_some h; clear h
  refine Cov.callS (b1 := []) (b2 := [_, _]) (s1 := []) [_] [] .d1 rfl rfl Try.call22 rfl rfl (ref29_Valid_c (G := G) List.mem_cons_self  hu3) rfl (fun v6 bo so h5 => ?_)
  obtain ⟨rfl, rfl, rfl⟩ := h5
  refine Cov.same (bl' := [_, _]) (sl' := []) rfl rfl rfl ?_
  refine Cov.clsL (HpLe.refl _) (pick_mem [0, 1] rfl) ?_
  refine Cov.dq (.move rfl) rfl ?_
  obtain ⟨u13, h14, r15⟩ := bind_some r4; clear r4
  refine Cov.cutD 3 (β := Unit) (fun y => [(10, .bool u13)]) [(2, _), (3, _), (4, _)] (fun y => G :: Fs) (fun y => []) [_, _] (fun y => []) [] (fun y => True) ⟨rfl, rfl, rfl, trivial⟩ [0, 1] rfl [] rfl ?_ ?_
  · rintro _ _
    refine Cov.prune [(10, .bool u13), (2, _), (3, _), (4, _)] ⟨rfl, rfl, rfl, rfl, trivial⟩ ?_
    refine Cov.same (bl' := [_, _]) (sl' := []) (Fs' := G :: Fs) rfl rfl rfl ?_
    refine Cov.dq (.move rfl) rfl ?_
    refine Cov.cutD 6 (β := Unit) (fun y => [(17, .bool (decide ((u13 = true) ∧ (x0_1 = x1_0))))]) [(2, _), (3, _), (4, _)] (fun y => G :: Fs) (fun y => []) [_, _] (fun y => []) [] (fun y => True) ⟨rfl, rfl, rfl, trivial⟩ [0, 1] rfl [] rfl ?_ ?_
    · rintro _ _
      refine Cov.prune [(17, .bool (decide ((u13 = true) ∧ (x0_1 = x1_0)))), (2, _), (3, _), (4, _)] ⟨rfl, rfl, rfl, rfl, trivial⟩ ?_
      refine Cov.same (bl' := [_, _]) (sl' := []) (Fs' := G :: Fs) rfl rfl rfl ?_
      refine Cov.dq (.move rfl) rfl ?_
      obtain ⟨u28, h29, r30⟩ := bind_some r15; clear r15
      refine Cov.cutD 6 (β := Unit) (fun y => [(24, .bool u28)]) [(2, _), (3, _), (4, _)] (fun y => G :: Fs) (fun y => []) [_, _] (fun y => []) [] (fun y => True) ⟨rfl, rfl, rfl, trivial⟩ [0, 1] rfl [] rfl ?_ ?_
      · rintro _ _
        refine Cov.prune [(24, .bool u28), (2, _), (3, _), (4, _)] ⟨rfl, rfl, rfl, rfl, trivial⟩ ?_
        refine Cov.same (bl' := [_, _]) (sl' := []) (Fs' := G :: Fs) rfl rfl rfl ?_
        refine Cov.dq (.move rfl) rfl ?_
        obtain ⟨u39, h40, r41⟩ := bind_some r30; clear r30
        refine Cov.cutD 7 (β := Unit) (fun y => [(32, .bool u39)]) [(4, _)] (fun y => G :: Fs) (fun y => []) [_, _] (fun y => []) [] (fun y => True) ⟨rfl, trivial⟩ [0, 1] rfl [] rfl ?_ ?_
        · rintro _ _
          refine Cov.prune [(32, .bool u39), (4, _)] ⟨rfl, rfl, trivial⟩ ?_
          refine Cov.same (bl' := [_, _]) (sl' := []) (Fs' := G :: Fs) rfl rfl rfl ?_
          refine Cov.dq (.assign rfl) rfl ?_
          refine Cov.draw_end ?_
          cases r41
          refine Cov.drop 2 0 [] _ rfl rfl ?_
          refine Cov.retS (c := ⟨23, none⟩) (.inr ⟨_, rfl⟩) [.tmp 4] [_] rfl Try.func23 Try.results23 ⟨RV.tmp rfl, trivial⟩ (fun _ h => List.mem_cons_of_mem _ h) ⟨rfl, rfl, rfl⟩
        · intro hb38
          refine Cov.split_b 25 rfl (fun c37 => ?_) (fun c37 => ?_)
          · have r44 := ifT h40 c37
            refine Cov.dgq_on rfl ?_
            refine Cov.dq (.load_own_a 1 [_, _, _, _] rfl rfl ty33 rfl) rfl ?_
            refine Cov.dgq_on rfl ?_
            refine Cov.dq (.fieldAddr 2 rfl fl29_2 ty3.sz rfl) rfl ?_
            refine Cov.dgq_on rfl ?_
            refine Cov.dq (.load_own 0 rfl rfl ty3 rfl) rfl ?_
            refine Cov.dgq_on rfl ?_
            refine Cov.dq (.fieldAddr 3 rfl fl29_3 ty3.sz rfl) rfl ?_
            refine Cov.dgq_on rfl ?_
            refine Cov.dq (.load_own 0 rfl rfl ty3 rfl) rfl ?_
            refine Cov.dge_on rfl ?_
            obtain ⟨u45, hu45, r46⟩ := bind_some r44; clear r44
            refine Cov.callS (b1 := []) (b2 := [_, _]) (s1 := []) [_, _, _] [] .d1 rfl rfl Try.call21 rfl rfl (ref23_Bears_c (G := G) List.mem_cons_self  hu45) rfl (fun v48 bo so h47 => ?_)
            obtain ⟨rfl, rfl, rfl⟩ := h47
            refine Cov.same (bl' := [_, _]) (sl' := []) rfl rfl rfl ?_
            refine Cov.clsL (HpLe.refl _) (pick_mem [0, 1] rfl) ?_
            refine Cov.dq (.pick_t rfl rfl) rfl ?_
            refine Cov.prune _ ?_ (Cov.same rfl rfl rfl (hb38 () trivial))
            exact ⟨sval r46, rfl, trivial⟩
          · have r49 := ifBF h40 c37
            refine Cov.dgq_off rfl rfl rfl ?_
            refine Cov.dgq_off rfl rfl rfl ?_
            refine Cov.dgq_off rfl rfl rfl ?_
            refine Cov.dgq_off rfl rfl rfl ?_
            refine Cov.dgq_off rfl rfl rfl ?_
            refine Cov.dge_offL rfl rfl rfl (HpLe.refl _) (pick_mem [0, 1] rfl) ?_
            refine Cov.dq (.pick_f rfl rfl) rfl ?_
            refine Cov.prune _ ?_ (Cov.same rfl rfl rfl (hb38 () trivial))
            exact ⟨sval r49, rfl, trivial⟩
      · intro hb27
        refine Cov.split 18 rfl (fun c26 => ?_) (fun c26 => ?_)
        · have r50 := ifT h29 c26
          refine Cov.dgq_on rfl ?_
          refine Cov.dq (.load_own_a 1 [_, _, _, _] rfl rfl ty33 rfl) rfl ?_
          refine Cov.dgq_on rfl ?_
          refine Cov.dq (.fieldAddr 1 rfl fl29_1 ty3.sz rfl) rfl ?_
          refine Cov.dgq_on rfl ?_
          refine Cov.dq (.load_own 0 rfl rfl ty3 rfl) rfl ?_
          refine Cov.dge_on rfl ?_
          obtain ⟨u51, hu51, r52⟩ := bind_some r50; clear r50
          refine Cov.callS (b1 := []) (b2 := [_, _]) (s1 := []) [_] [] .d1 rfl rfl Try.call20 rfl rfl (ref23_Threshold_c (G := G) List.mem_cons_self  hu51) rfl (fun v54 bo so h53 => ?_)
          obtain ⟨rfl, rfl, rfl⟩ := h53
          refine Cov.same (bl' := [_, _]) (sl' := []) rfl rfl rfl ?_
          refine Cov.clsL (HpLe.refl _) (pick_mem [0, 1] rfl) ?_
          refine Cov.dgq_on rfl ?_
          refine Cov.dq (.geq rfl rfl) rfl ?_
          refine Cov.dq (.pick_t rfl rfl) rfl ?_
          refine Cov.prune _ ?_ (Cov.same rfl rfl rfl (hb27 () trivial))
          exact ⟨sval r52, rfl, rfl, rfl, trivial⟩
        · have r55 := ifF h29 c26
          refine Cov.dgq_off rfl rfl rfl ?_
          refine Cov.dgq_off rfl rfl rfl ?_
          refine Cov.dgq_off rfl rfl rfl ?_
          refine Cov.dge_offL rfl rfl rfl (HpLe.refl _) (pick_mem [0, 1] rfl) ?_
          refine Cov.dgq_off rfl rfl rfl ?_
          refine Cov.dq (.pick_f rfl rfl) rfl ?_
          refine Cov.prune _ ?_ (Cov.same rfl rfl rfl (hb27 () trivial))
          exact ⟨sval r55, rfl, rfl, rfl, trivial⟩
    · intro hb19
      refine Cov.split_b 11 rfl (fun c18 => ?_) (fun c18 => ?_)
      · refine Cov.dgq_on rfl ?_
        refine Cov.dq (.fieldAddr 1 rfl fl33_1 ty3.sz rfl) rfl ?_
        refine Cov.dgq_on rfl ?_
        refine Cov.dq (.load_own 1 rfl rfl ty3 rfl) rfl ?_
        refine Cov.dgq_on rfl ?_
        refine Cov.dq (.fieldAddr 0 rfl fl29_0 ty3.sz rfl) rfl ?_
        refine Cov.dgq_on rfl ?_
        refine Cov.dq (.load_own 0 rfl rfl ty3 rfl) rfl ?_
        refine Cov.dgq_on rfl ?_
        refine Cov.dq (.eql rfl rfl) rfl ?_
        refine Cov.dq (.pick_t rfl rfl) rfl ?_
        refine Cov.prune _ ?_ (Cov.same rfl rfl rfl (hb19 () trivial))
        exact ⟨dand_t c18, rfl, rfl, rfl, trivial⟩
      · refine Cov.dgq_off rfl rfl rfl ?_
        refine Cov.dgq_off rfl rfl rfl ?_
        refine Cov.dgq_off rfl rfl rfl ?_
        refine Cov.dgq_off rfl rfl rfl ?_
        refine Cov.dgq_off rfl rfl rfl ?_
        refine Cov.dq (.pick_f rfl rfl) rfl ?_
        refine Cov.prune _ ?_ (Cov.same rfl rfl rfl (hb19 () trivial))
        exact ⟨dand_f (bne_of c18), rfl, rfl, rfl, trivial⟩
  · intro hb12
    refine Cov.split_b 7 rfl (fun c11 => ?_) (fun c11 => ?_)
    · have r56 := ifT h14 c11
      refine Cov.dgq_on rfl ?_
      refine Cov.dq (.load_own_a 1 [_, _, _, _] rfl rfl ty33 rfl) rfl ?_
      refine Cov.dge_on rfl ?_
      obtain ⟨u57, hu57, r58⟩ := bind_some r56; clear r56
      refine Cov.callS (b1 := []) (b2 := [_, _]) (s1 := []) [_] [] .d1 rfl rfl Try.call38 rfl rfl (ref23_Shape_c (G := G) List.mem_cons_self  hu57) rfl (fun v60 bo so h59 => ?_)
      obtain ⟨rfl, rfl, rfl⟩ := h59
      refine Cov.same (bl' := [_, _]) (sl' := []) rfl rfl rfl ?_
      refine Cov.clsL (HpLe.refl _) (pick_mem [0, 1] rfl) ?_
      refine Cov.dq (.pick_t rfl rfl) rfl ?_
      refine Cov.prune _ ?_ (Cov.same rfl rfl rfl (hb12 () trivial))
      exact ⟨sval r58, rfl, rfl, rfl, trivial⟩
    · have r61 := ifBF h14 c11
      refine Cov.dgq_off rfl rfl rfl ?_
      refine Cov.dge_offL rfl rfl rfl (HpLe.refl _) (pick_mem [0, 1] rfl) ?_
      refine Cov.dq (.pick_f rfl rfl) rfl ?_
      refine Cov.prune _ ?_ (Cov.same rfl rfl rfl (hb12 () trivial))
      exact ⟨sval r61, rfl, rfl, rfl, trivial⟩

set_option maxHeartbeats 4000000 in
theorem ref29_Candidates_c {Fs : List Hp} {G : Hp} {x0_0 : Int} {x0_1 : Int} {x0_2 : Int} {x0_3 : Int} {x0_4 : Int} {x0_5 : Int} {x0_6 : Int} {x0_7 : Int} {x0_8 : Int} {x0_9 : Int} {r : ((List ((Int × Int × Int × Int) × (Int × Int × Int) × Int)) × Int)} (hG : G ∈ Fs)  (h : ref29_Candidates (x0_0, x0_1, x0_2, x0_3, x0_4, x0_5, x0_6, (x0_7, x0_8, x0_9)) = some r) : RetS Try.prog 24 #[.agg #[.int .i64 x0_0, .int .i64 x0_1, .int .i64 x0_2, .int .i64 x0_3, .int .i64 x0_4, .int .i64 x0_5, .int .i64 x0_6, .int .i64 x0_7, .int .i64 x0_8, .int .i64 x0_9]] Fs [] [] (fun v bo so => ∃ (oa0 : Option Addr) (ok0 : Nat) (oc0 : List Value), v = .tuple #[.slice oa0 r.1.length ok0, .int .i64 r.2] ∧ bo = [] ∧ so = [.s (.slice oa0 r.1.length ok0) 35 8 r.1.length oc0] ∧ OL (Rep.pair (Rep.pair (Rep.int .i64) (Rep.pair (Rep.int .i64) (Rep.pair (Rep.int .i64) (Rep.int .i64)))) (Rep.pair (Rep.pair (Rep.int .i64) (Rep.pair (Rep.int .i64) (Rep.int .i64))) (Rep.int .i64))) G oc0 r.1) := by
  unfold ref29_Candidates at h
  try dsimp only at h
  refine RetS.of (vs := [_]) Try.func24 rfl Try.ntmps24 [(0, _)] ⟨rfl, trivial⟩ rfl hG fun w0 S0 hS0 B0 => ?_
  refine Cov.seq ?_
  refine Cov.region rfl ?_
  refine Cov.box [_, _, _, _, _, _, _, _, _, _] .ro rfl rfl rfl (fun b1 hb1 => ?_)
  refine Cov.q .ro (.assign rfl) rfl ?_
  refine Cov.q .ro (.assign rfl) rfl ?_
  refine Cov.region_end ?_
  refine Cov.seq ?_
  refine Cov.seq ?_
  refine Cov.region rfl ?_
  refine Cov.q .ro (.load_own_a 0 [_, _, _, _, _, _, _, _, _, _] rfl rfl ty29 rfl) rfl ?_
  obtain ⟨u2, hu2, r3⟩ := bind_some h; clear h
  refine Cov.callS (b1 := []) (b2 := [_]) (s1 := []) [_] [] .ro rfl rfl Try.call22 rfl rfl (ref29_Valid_c (G := G) List.mem_cons_self  hu2) rfl (fun v5 bo so h4 => ?_)
  obtain ⟨rfl, rfl, rfl⟩ := h4
  refine Cov.same (bl' := [_]) (sl' := []) rfl rfl rfl ?_
  refine Cov.q .ro (.not rfl) rfl ?_
  refine Cov.region_end ?_
  refine Cov.cond rfl (fun c6 => ?_) (fun c6 => ?_)
  · have r7 := ifT r3 c6; clear r3
    refine Cov.seq ?_
    refine Cov.region rfl ?_
    refine Cov.q .ro (.assign rfl) rfl ?_
    refine Cov.q .ro (.assign rfl) rfl ?_
    refine Cov.region_end ?_
    refine Cov.own_nil 35 8 ?_
    cases r7
    refine Cov.drop 1 0 [] _ rfl rfl ?_
    refine Cov.retS (c := ⟨24, none⟩) (.inr ⟨_, rfl⟩) [.tmp 2, .tmp 3] [_, _] rfl Try.func24 Try.results24 ⟨RV.tmp rfl, RV.tmp rfl, trivial⟩ (fun _ h => List.mem_cons_of_mem _ h) ⟨none, 0, [], rfl, rfl, rfl, (OL.nil (Rp' := (Rep.pair (Rep.pair (Rep.int .i64) (Rep.pair (Rep.int .i64) (Rep.pair (Rep.int .i64) (Rep.int .i64)))) (Rep.pair (Rep.pair (Rep.int .i64) (Rep.pair (Rep.int .i64) (Rep.int .i64))) (Rep.int .i64)))))⟩
  · have r9 := ifBF r3 c6; clear r3
    refine Cov.skip ?_
    refine Cov.seq ?_
    refine Cov.region rfl ?_
    refine Cov.q .ro (.fieldAddr 0 rfl fl29_0 ty3.sz rfl) rfl ?_
    refine Cov.q .ro (.load_own 0 rfl rfl ty3 rfl) rfl ?_
    refine Cov.q .ro (.build [_, _, _, _] [(0, _), (1, _)] ty33 pl33 rfl rfl) rfl ?_
    refine Cov.lit [_, _, _, _] [(0, _)] .ro sl53 ty33 rfl rfl rfl rfl rfl rfl (fun b10 hb10 => ?_)
    have o11 : OL (Rep.pair (Rep.int .i64) (Rep.pair (Rep.int .i64) (Rep.pair (Rep.int .i64) (Rep.int .i64)))) G [.int .i64 1, .int .i64 x0_0, .int .i64 0, .int .i64 0] ([(1, x0_0, 0, 0)] : List (Int × Int × Int × Int)) := ((OL.cons rfl (Rep.pairI (Rep.intI .i64 1) (Rep.pairI (Rep.intI .i64 x0_0) (Rep.pairI (Rep.intI .i64 0) (Rep.intI .i64 0)))) (OL.nil (Rp' := (Rep.pair (Rep.int .i64) (Rep.pair (Rep.int .i64) (Rep.pair (Rep.int .i64) (Rep.int .i64))))))) :)
    refine Cov.reval 18 (n' := ([(1, x0_0, 0, 0)] : List (Int × Int × Int × Int)).length) rfl rfl ?_
    refine Cov.q .ro (.assign rfl) rfl ?_
    refine Cov.region_end ?_
    refine Cov.seq ?_
    refine Cov.seq ?_
    refine Cov.region rfl ?_
    refine Cov.q .ro (.assign rfl) rfl ?_
    refine Cov.region_end ?_
    refine Cov.cutB (β := (List (Int × Int × Int × Int)) × Option Addr × Nat × List Value × Int × Int × Int × Int × Int × Int × Int × Int × Int × Int) (fun y => [(4, .slice y.2.1 y.1.length y.2.2.1)]) [(1, _)] (fun y => G :: Fs) (fun y => [(b1, .cells #[.int .i64 y.2.2.2.2.1, .int .i64 y.2.2.2.2.2.1, .int .i64 y.2.2.2.2.2.2.1, .int .i64 y.2.2.2.2.2.2.2.1, .int .i64 y.2.2.2.2.2.2.2.2.1, .int .i64 y.2.2.2.2.2.2.2.2.2.1, .int .i64 y.2.2.2.2.2.2.2.2.2.2.1, .int .i64 y.2.2.2.2.2.2.2.2.2.2.2.1, .int .i64 y.2.2.2.2.2.2.2.2.2.2.2.2.1, .int .i64 y.2.2.2.2.2.2.2.2.2.2.2.2.2] 29 (0, 0))]) [] (fun y => [.s (.slice y.2.1 y.1.length y.2.2.1) 33 4 y.1.length y.2.2.2.1]) [] (fun y => OL (Rep.pair (Rep.int .i64) (Rep.pair (Rep.int .i64) (Rep.pair (Rep.int .i64) (Rep.int .i64)))) G y.2.2.2.1 y.1 ∧ ref29_Candidates_J5 y.1 y.2.2.2.2.1 y.2.2.2.2.2.1 y.2.2.2.2.2.2.1 y.2.2.2.2.2.2.2.1 y.2.2.2.2.2.2.2.2.1 y.2.2.2.2.2.2.2.2.2.1 y.2.2.2.2.2.2.2.2.2.2.1 y.2.2.2.2.2.2.2.2.2.2.2.1 y.2.2.2.2.2.2.2.2.2.2.2.2.1 y.2.2.2.2.2.2.2.2.2.2.2.2.2 = some r) ⟨rfl, trivial⟩ [] rfl [] rfl ?_ ?_
    · intro y hI
      obtain ⟨v78, a79, k80, cs81, v84, v85, v86, v87, v88, v89, v90, v91, v92, v93⟩ := y
      obtain ⟨o82, r95⟩ := hI
      try dsimp only at o82 r95
      refine Cov.prune [(4, .slice a79 v78.length k80), (1, _)] ⟨rfl, rfl, trivial⟩ ?_
      refine Cov.same (bl' := [(b1, .cells #[.int .i64 v84, .int .i64 v85, .int .i64 v86, .int .i64 v87, .int .i64 v88, .int .i64 v89, .int .i64 v90, .int .i64 v91, .int .i64 v92, .int .i64 v93] 29 (0, 0))]) (sl' := [.s (.slice a79 v78.length k80) 33 4 v78.length cs81]) (Fs' := G :: Fs) rfl rfl rfl ?_
      unfold ref29_Candidates_J5 at r95
      try dsimp only at r95
      refine Cov.seq ?_
      refine Cov.seq ?_
      refine Cov.region rfl ?_
      refine Cov.q .ro (.assign rfl) rfl ?_
      refine Cov.region_end ?_
      refine Cov.cutB (β := (List (Int × Int × Int × Int)) × Option Addr × Nat × List Value × Int × Int × Int × Int × Int × Int × Int × Int × Int × Int) (fun y => [(4, .slice y.2.1 y.1.length y.2.2.1)]) [(1, _)] (fun y => G :: Fs) (fun y => [(b1, .cells #[.int .i64 y.2.2.2.2.1, .int .i64 y.2.2.2.2.2.1, .int .i64 y.2.2.2.2.2.2.1, .int .i64 y.2.2.2.2.2.2.2.1, .int .i64 y.2.2.2.2.2.2.2.2.1, .int .i64 y.2.2.2.2.2.2.2.2.2.1, .int .i64 y.2.2.2.2.2.2.2.2.2.2.1, .int .i64 y.2.2.2.2.2.2.2.2.2.2.2.1, .int .i64 y.2.2.2.2.2.2.2.2.2.2.2.2.1, .int .i64 y.2.2.2.2.2.2.2.2.2.2.2.2.2] 29 (0, 0))]) [] (fun y => [.s (.slice y.2.1 y.1.length y.2.2.1) 33 4 y.1.length y.2.2.2.1]) [] (fun y => OL (Rep.pair (Rep.int .i64) (Rep.pair (Rep.int .i64) (Rep.pair (Rep.int .i64) (Rep.int .i64)))) G y.2.2.2.1 y.1 ∧ ref29_Candidates_J2 y.1 y.2.2.2.2.1 y.2.2.2.2.2.1 y.2.2.2.2.2.2.1 y.2.2.2.2.2.2.2.1 y.2.2.2.2.2.2.2.2.1 y.2.2.2.2.2.2.2.2.2.1 y.2.2.2.2.2.2.2.2.2.2.1 y.2.2.2.2.2.2.2.2.2.2.2.1 y.2.2.2.2.2.2.2.2.2.2.2.2.1 y.2.2.2.2.2.2.2.2.2.2.2.2.2 = some r) ⟨rfl, trivial⟩ [] rfl [] rfl ?_ ?_
      · intro y hI
        obtain ⟨v273, a274, k275, cs276, v279, v280, v281, v282, v283, v284, v285, v286, v287, v288⟩ := y
        obtain ⟨o277, r290⟩ := hI
        try dsimp only at o277 r290
        refine Cov.prune [(4, .slice a274 v273.length k275), (1, _)] ⟨rfl, rfl, trivial⟩ ?_
        refine Cov.same (bl' := [(b1, .cells #[.int .i64 v279, .int .i64 v280, .int .i64 v281, .int .i64 v282, .int .i64 v283, .int .i64 v284, .int .i64 v285, .int .i64 v286, .int .i64 v287, .int .i64 v288] 29 (0, 0))]) (sl' := [.s (.slice a274 v273.length k275) 33 4 v273.length cs276]) (Fs' := G :: Fs) rfl rfl rfl ?_
        unfold ref29_Candidates_J2 at r290
        try dsimp only at r290
        refine Cov.seq ?_
        refine Cov.region rfl ?_
        refine Cov.q .ro (.assign rfl) rfl ?_
        refine Cov.region_end ?_
        refine Cov.seq ?_
        refine Cov.seq ?_
        refine Cov.region rfl ?_
        refine Cov.q .ro (.assign rfl) rfl ?_
        refine Cov.region_end ?_
        refine Cov.block ?_
        refine Cov.own_nil 35 8 ?_
        refine Cov.loop2 (α := Nat × (List ((Int × Int × Int × Int) × (Int × Int × Int) × Int)) × Option Addr × Nat × List Value × Int) (fun y => [(8, .slice y.2.2.1 y.2.1.length y.2.2.2.1), (9, .int .i64 y.2.2.2.2.2)]) [(4, _), (1, _)] (fun y => []) (fun y => []) [_] (fun y => [.s (.slice y.2.2.1 y.2.1.length y.2.2.2.1) 35 8 y.2.1.length y.2.2.2.2.1]) [_] (fun y => OL (Rep.pair (Rep.pair (Rep.int .i64) (Rep.pair (Rep.int .i64) (Rep.pair (Rep.int .i64) (Rep.int .i64)))) (Rep.pair (Rep.pair (Rep.int .i64) (Rep.pair (Rep.int .i64) (Rep.int .i64))) (Rep.int .i64))) G y.2.2.2.2.1 y.2.1 ∧ ref29_Candidates_L1 v279 v280 v281 v282 v283 v284 v285 v286 v287 v288 v273 y.1 y.2.1 y.2.2.2.2.2 = some r) (fun y => y.1) (big, ([] : List ((Int × Int × Int × Int) × (Int × Int × Int) × Int)), none, 0, [], 0) ⟨(OL.nil (Rp' := (Rep.pair (Rep.pair (Rep.int .i64) (Rep.pair (Rep.int .i64) (Rep.pair (Rep.int .i64) (Rep.int .i64)))) (Rep.pair (Rep.pair (Rep.int .i64) (Rep.pair (Rep.int .i64) (Rep.int .i64))) (Rep.int .i64))))), r290⟩ ⟨rfl, rfl, rfl, rfl, trivial⟩ rfl rfl rfl (fun y hI hb16459 => ?_)
        obtain ⟨n16449, v16451, a16452, k16453, cs16454, v16457⟩ := y
        obtain ⟨o16455, r16458⟩ := hI
        try dsimp only at o16455 r16458
        refine Cov.prune [(8, .slice a16452 v16451.length k16453), (9, .int .i64 v16457), (4, _), (1, _)] ⟨rfl, rfl, rfl, rfl, trivial⟩ ?_
        refine Cov.same (bl' := [_]) (sl' := [.s (.slice a16452 v16451.length k16453) 35 8 v16451.length cs16454, _]) (Fs' := G :: Fs) rfl rfl rfl ?_
        obtain ⟨m16472, rfl⟩ : ∃ m, n16449 = m + 1 := by cases n16449 with | zero => exact absurd (show (none : Option _) = some _ from r16458) (by simp) | succ m => exact ⟨m, rfl⟩
        have r16471 : ref29_Candidates_B1 v279 v280 v281 v282 v283 v284 v285 v286 v287 v288 v273 (ref29_Candidates_L1 v279 v280 v281 v282 v283 v284 v285 v286 v287 v288 v273 m16472) v16451 v16457 = some r := r16458; clear r16458; unfold ref29_Candidates_B1 at r16471; try dsimp only at r16471
        refine Cov.seq ?_
        refine Cov.seq ?_
        refine Cov.region rfl ?_
        refine Cov.q .ro (.move rfl) rfl ?_
        refine Cov.q .ro (.move rfl) rfl ?_
        refine Cov.q .ro (.len_sl rfl rfl sl53) rfl ?_
        refine Cov.q .ro (.lss rfl rfl) rfl ?_
        refine Cov.region_end ?_
        refine Cov.cond_dec rfl (fun c16473 => ?_) (fun c16473 => ?_)
        · have r16474 := ifT r16471 c16473; clear r16471
          refine Cov.skip ?_
          refine Cov.seq ?_
          refine Cov.block ?_
          refine Cov.seq ?_
          refine Cov.drawL (.q 0 (.q 1 (.q 4 (.e 2 1 (.e 3 1 (.e 5 2 .nil)))))) [_] (by kernel_rfl) (by kernel_rfl) (pick_mem [0] rfl) ?_
          refine Cov.dq (.move rfl) rfl ?_
          refine Cov.dq (.move rfl) rfl ?_
          refine Cov.dq (.load_own_a 0 [_, _, _, _, _, _, _, _, _, _] rfl rfl ty29 rfl) rfl ?_
          obtain ⟨u16475, hu16475, r16476⟩ := bind_some r16474; clear r16474
          obtain ⟨c16477, p16478, h16479⟩ := OL.get o277 hu16475
          obtain ⟨_, _, rfl, rfl, _, _, rfl, rfl, _, _, rfl, rfl, rfl⟩ := h16479
          refine Cov.q .d1 (.idxO 1 rfl rfl rfl hu16475 sl53 ty33.sz) rfl ?_
          refine Cov.clsL (HpLe.refl _) (pick_mem [0] rfl) ?_
          refine Cov.q .d1 (.loadO_a 1 0 [_, _, _, _] rfl hu16475 p16478 rfl (.inl ⟨rfl, rfl⟩) ty33 rfl) rfl ?_
          refine Cov.clsL (HpLe.refl _) (pick_mem [0] rfl) ?_
          obtain ⟨u16480, hu16480, r16481⟩ := bind_some r16476; clear r16476
          refine Cov.callS (b1 := []) (b2 := [_]) (s1 := []) [_, _] [] .d2 rfl rfl Try.call23 rfl rfl (ref29_Serves_c (G := G) List.mem_cons_self  hu16480) rfl (fun v16483 bo so h16482 => ?_)
          obtain ⟨rfl, rfl, rfl⟩ := h16482
          refine Cov.same (bl' := [_]) (sl' := [_, _]) rfl rfl rfl ?_
          refine Cov.draw_end ?_
          refine Cov.cond rfl (fun c16484 => ?_) (fun c16484 => ?_)
          · have r16485 := ifT r16481 c16484; clear r16481
            refine Cov.seq ?_
            refine Cov.drawL (.q 0 (.q 1 (.q 4 (.q 5 (.q 6 (.q 7 (.q 8 (.q 9 (.alt (.e 2 1 (.alt (.e 3 1 (.alt (.e 10 1 (.q 11 (.q 12 (.q 13 (.e 14 1 (.e 15 1 (.q 16 .nil))))))) (.e 14 1 (.e 10 1 (.q 11 (.q 12 (.q 13 (.e 15 1 (.q 16 .nil))))))))) (.e 14 1 (.e 3 1 (.e 10 1 (.q 11 (.q 12 (.q 13 (.e 15 1 (.q 16 .nil)))))))))) (.e 14 1 (.e 2 1 (.e 3 1 (.e 10 1 (.q 11 (.q 12 (.q 13 (.e 15 1 (.q 16 .nil)))))))))))))))))) [_] (by kernel_rfl) (by kernel_rfl) (pick_mem [0] rfl) ?_
            obtain ⟨u16486, hu16486, r16494⟩ := bind_some r16485; clear r16485
            obtain ⟨u16490, hu16490, r16495⟩ := bind_some r16494; clear r16494
            refine Cov.dq (.move rfl) rfl ?_
            refine Cov.dq (.move rfl) rfl ?_
            refine Cov.dq (.fieldAddr 4 rfl fl29_4 ty3.sz rfl) rfl ?_
            refine Cov.dq (.load_own 0 rfl rfl ty3 rfl) rfl ?_
            refine Cov.dq (.fieldAddr 5 rfl fl29_5 ty3.sz rfl) rfl ?_
            refine Cov.dq (.load_own 0 rfl rfl ty3 rfl) rfl ?_
            refine Cov.dq (.fieldAddr 6 rfl fl29_6 ty3.sz rfl) rfl ?_
            refine Cov.dq (.load_own 0 rfl rfl ty3 rfl) rfl ?_
            refine Cov.alt ?_ ?_
            · obtain ⟨c16496, p16497, h16498⟩ := OL.get o277 hu16486
              obtain ⟨_, _, rfl, rfl, _, _, rfl, rfl, _, _, rfl, rfl, rfl⟩ := h16498
              refine Cov.q .d1 (.idxO 1 rfl rfl rfl hu16486 sl53 ty33.sz) rfl ?_
              refine Cov.clsL (HpLe.refl _) (pick_mem [0] rfl) ?_
              refine Cov.alt ?_ ?_
              · refine Cov.q .d1 (.loadO_a 1 0 [_, _, _, _] rfl hu16486 p16497 rfl (.inl ⟨rfl, rfl⟩) ty33 rfl) rfl ?_
                refine Cov.clsL (HpLe.refl _) (pick_mem [0] rfl) ?_
                refine Cov.alt ?_ ?_
                · refine Cov.callS (b1 := []) (b2 := [_]) (s1 := []) [_, _, _, _] [] .d1 rfl rfl Try.call14 rfl rfl (ref28_Of_c (G := G) List.mem_cons_self  hu16490) rfl (fun v16500 bo so h16499 => ?_)
                  obtain ⟨rfl, rfl, rfl⟩ := h16499
                  refine Cov.same (bl' := [_]) (sl' := [_, _]) rfl rfl rfl ?_
                  refine Cov.clsL (HpLe.refl _) (pick_mem [0] rfl) ?_
                  refine Cov.dq (.move rfl) rfl ?_
                  refine Cov.dq (.extract rfl rfl) rfl ?_
                  refine Cov.dq (.extract rfl rfl) rfl ?_
                  refine Cov.alloc .d1 ty27 rfl (fun b16501 hb16501 => ?_)
                  refine Cov.clsL (HpLe.refl _) (pick_mem [1] rfl) ?_
                  refine Cov.store 0 [_, _, _] [_, _] .d1 rfl rfl rfl ty27 rfl rfl rfl rfl ?_
                  refine Cov.clsL (HpLe.refl _) (pick_mem [1] rfl) ?_
                  refine Cov.dq (.assign rfl) rfl ?_
                  refine Cov.draw_end ?_
                  refine Cov.prune [(8, _), (9, _), (4, _), (1, _), (10, _)] ⟨rfl, rfl, rfl, rfl, rfl, trivial⟩ ?_
                  refine Cov.drawL (.q 0 (.q 1 (.q 2 (.q 5 (.q 6 (.q 7 (.q 8 (.alt (.e 3 1 (.alt (.e 4 1 (.e 9 1 (.q 10 (.e 11 1 (.e 12 1 (.q 13 .nil)))))) (.e 9 1 (.e 4 1 (.q 10 (.e 11 1 (.e 12 1 (.q 13 .nil)))))))) (.e 9 1 (.e 3 1 (.e 4 1 (.q 10 (.e 11 1 (.e 12 1 (.q 13 .nil))))))))))))))) [_, _] (by kernel_rfl) (by kernel_rfl) (pick_mem [0, 1] rfl) ?_
                  obtain ⟨u20501, hu20501, r20517⟩ := bind_some r16495; clear r16495
                  obtain ⟨u20505, hu20505, r20518⟩ := bind_some r20517; clear r20517
                  obtain ⟨u20515, hu20515, r20519⟩ := bind_some r20518; clear r20518
                  refine Cov.dq (.move rfl) rfl ?_
                  refine Cov.dq (.move rfl) rfl ?_
                  refine Cov.dq (.move rfl) rfl ?_
                  refine Cov.dq (.load_own_a 0 [_, _, _] rfl rfl ty27 rfl) rfl ?_
                  refine Cov.dq (.load_own_a 0 [_, _, _] rfl rfl ty27 rfl) rfl ?_
                  refine Cov.dq (.fieldAddr 7 rfl fl29_7 ty27.sz rfl) rfl ?_
                  refine Cov.dq (.load_own_a 1 [_, _, _] rfl rfl ty27 rfl) rfl ?_
                  refine Cov.alt ?_ ?_
                  · obtain ⟨c20520, p20521, h20522⟩ := OL.get o277 hu20501
                    obtain ⟨_, _, rfl, rfl, _, _, rfl, rfl, _, _, rfl, rfl, rfl⟩ := h20522
                    refine Cov.q .d1 (.idxO 1 rfl rfl rfl hu20501 sl53 ty33.sz) rfl ?_
                    refine Cov.clsL (HpLe.refl _) (pick_mem [0, 1] rfl) ?_
                    refine Cov.alt ?_ ?_
                    · refine Cov.q .d1 (.loadO_a 1 0 [_, _, _, _] rfl hu20501 p20521 rfl (.inl ⟨rfl, rfl⟩) ty33 rfl) rfl ?_
                      refine Cov.clsL (HpLe.refl _) (pick_mem [0, 1] rfl) ?_
                      refine Cov.callS (b1 := []) (b2 := [_, _]) (s1 := []) [_, _] [] .d1 rfl rfl Try.call15 rfl rfl (ref28_Sum_c (G := G) List.mem_cons_self  hu20505) rfl (fun v20524 bo so h20523 => ?_)
                      obtain ⟨rfl, rfl, rfl⟩ := h20523
                      refine Cov.same (bl' := [_, _]) (sl' := [_, _]) rfl rfl rfl ?_
                      refine Cov.clsL (HpLe.refl _) (pick_mem [0, 1] rfl) ?_
                      refine Cov.dq (.build [_, _, _, _, _, _, _, _] [(0, _), (1, _), (2, _)] ty35 pl35 rfl rfl) rfl ?_
                      refine Cov.lit [_, _, _, _, _, _, _, _] [(0, _)] .d1 sl39 ty35 rfl rfl rfl rfl rfl rfl (fun b20525 hb20525 => ?_)
                      have o20526 : OL (Rep.pair (Rep.pair (Rep.int .i64) (Rep.pair (Rep.int .i64) (Rep.pair (Rep.int .i64) (Rep.int .i64)))) (Rep.pair (Rep.pair (Rep.int .i64) (Rep.pair (Rep.int .i64) (Rep.int .i64))) (Rep.int .i64))) G [.int .i64 u20501.1, .int .i64 u20501.2.1, .int .i64 u20501.2.2.1, .int .i64 u20501.2.2.2, .int .i64 u16490.1.1, .int .i64 u16490.1.2.1, .int .i64 u16490.1.2.2, .int .i64 u20505] ([((u20501.1, u20501.2.1, u20501.2.2.1, u20501.2.2.2), (u16490.1.1, u16490.1.2.1, u16490.1.2.2), u20505)] : List ((Int × Int × Int × Int) × (Int × Int × Int) × Int)) := ((OL.cons rfl (Rep.pairI (Rep.pairI (Rep.intI .i64 u20501.1) (Rep.pairI (Rep.intI .i64 u20501.2.1) (Rep.pairI (Rep.intI .i64 u20501.2.2.1) (Rep.intI .i64 u20501.2.2.2)))) (Rep.pairI (Rep.pairI (Rep.intI .i64 u16490.1.1) (Rep.pairI (Rep.intI .i64 u16490.1.2.1) (Rep.intI .i64 u16490.1.2.2))) (Rep.intI .i64 u20505))) (OL.nil (Rp' := (Rep.pair (Rep.pair (Rep.int .i64) (Rep.pair (Rep.int .i64) (Rep.pair (Rep.int .i64) (Rep.int .i64)))) (Rep.pair (Rep.pair (Rep.int .i64) (Rep.pair (Rep.int .i64) (Rep.int .i64))) (Rep.int .i64)))))) :)
                      refine Cov.reval 89 (n' := ([((u20501.1, u20501.2.1, u20501.2.2.1, u20501.2.2.2), (u16490.1.1, u16490.1.2.1, u16490.1.2.2), u20505)] : List ((Int × Int × Int × Int) × (Int × Int × Int) × Int)).length) rfl rfl ?_
                      refine Cov.clsL (HpLe.refl _) (pick_mem [0, 1] rfl) ?_
                      refine Cov.appO (Q := (Rep.pair (Rep.pair (Rep.int .i64) (Rep.pair (Rep.int .i64) (Rep.pair (Rep.int .i64) (Rep.int .i64)))) (Rep.pair (Rep.pair (Rep.int .i64) (Rep.pair (Rep.int .i64) (Rep.int .i64))) (Rep.int .i64)))) 0 .d1 sl39 ty35 rfl rfl rfl rfl rfl rfl o16455 o20526 rfl rfl rfl B0 hu20515 rfl (fun a20528 k20529 cs20530 o20531 => ?_)
                      refine Cov.clsL (HpLe.refl _) (pick_mem [0, 1] rfl) ?_
                      refine Cov.dq (.assign rfl) rfl ?_
                      refine Cov.draw_end ?_
                      refine Cov.prune [(8, _), (9, _), (4, _), (1, _)] ⟨rfl, rfl, rfl, rfl, trivial⟩ ?_
                      refine Cov.inBlock ?_
                      refine Cov.region rfl ?_
                      refine Cov.q .ro (.move rfl) rfl ?_
                      refine Cov.q .ro (.addw rfl rfl) rfl ?_
                      refine Cov.q .ro (.assign rfl) rfl ?_
                      refine Cov.region_end ?_
                      refine Cov.drop 1 0 [_] _ rfl rfl ?_
                      refine Cov.prune _ ?_ (Cov.same rfl rfl rfl (hb16459 (m16472, u20515, a20528, k20529, cs20530, (w64 (v16457 + 1))) ⟨o20531, r20519⟩ (Nat.lt_succ_self _)))
                      exact ⟨rfl, rfl, rfl, rfl, trivial⟩
                    · refine Cov.callS (b1 := []) (b2 := [_, _]) (s1 := []) [_, _] [] .d1 rfl rfl Try.call15 rfl rfl (ref28_Sum_c (G := G) List.mem_cons_self  hu20505) rfl (fun v20534 bo so h20533 => ?_)
                      obtain ⟨rfl, rfl, rfl⟩ := h20533
                      refine Cov.same (bl' := [_, _]) (sl' := [_, _]) rfl rfl rfl ?_
                      refine Cov.clsL (HpLe.refl _) (pick_mem [0, 1] rfl) ?_
                      refine Cov.q .d1 (.loadO_a 1 0 [_, _, _, _] rfl hu20501 p20521 rfl (.inl ⟨rfl, rfl⟩) ty33 rfl) rfl ?_
                      refine Cov.clsL (HpLe.refl _) (pick_mem [0, 1] rfl) ?_
                      refine Cov.dq (.build [_, _, _, _, _, _, _, _] [(0, _), (1, _), (2, _)] ty35 pl35 rfl rfl) rfl ?_
                      refine Cov.lit [_, _, _, _, _, _, _, _] [(0, _)] .d1 sl39 ty35 rfl rfl rfl rfl rfl rfl (fun b20535 hb20535 => ?_)
                      have o20536 : OL (Rep.pair (Rep.pair (Rep.int .i64) (Rep.pair (Rep.int .i64) (Rep.pair (Rep.int .i64) (Rep.int .i64)))) (Rep.pair (Rep.pair (Rep.int .i64) (Rep.pair (Rep.int .i64) (Rep.int .i64))) (Rep.int .i64))) G [.int .i64 u20501.1, .int .i64 u20501.2.1, .int .i64 u20501.2.2.1, .int .i64 u20501.2.2.2, .int .i64 u16490.1.1, .int .i64 u16490.1.2.1, .int .i64 u16490.1.2.2, .int .i64 u20505] ([((u20501.1, u20501.2.1, u20501.2.2.1, u20501.2.2.2), (u16490.1.1, u16490.1.2.1, u16490.1.2.2), u20505)] : List ((Int × Int × Int × Int) × (Int × Int × Int) × Int)) := ((OL.cons rfl (Rep.pairI (Rep.pairI (Rep.intI .i64 u20501.1) (Rep.pairI (Rep.intI .i64 u20501.2.1) (Rep.pairI (Rep.intI .i64 u20501.2.2.1) (Rep.intI .i64 u20501.2.2.2)))) (Rep.pairI (Rep.pairI (Rep.intI .i64 u16490.1.1) (Rep.pairI (Rep.intI .i64 u16490.1.2.1) (Rep.intI .i64 u16490.1.2.2))) (Rep.intI .i64 u20505))) (OL.nil (Rp' := (Rep.pair (Rep.pair (Rep.int .i64) (Rep.pair (Rep.int .i64) (Rep.pair (Rep.int .i64) (Rep.int .i64)))) (Rep.pair (Rep.pair (Rep.int .i64) (Rep.pair (Rep.int .i64) (Rep.int .i64))) (Rep.int .i64)))))) :)
                      refine Cov.reval 89 (n' := ([((u20501.1, u20501.2.1, u20501.2.2.1, u20501.2.2.2), (u16490.1.1, u16490.1.2.1, u16490.1.2.2), u20505)] : List ((Int × Int × Int × Int) × (Int × Int × Int) × Int)).length) rfl rfl ?_
                      refine Cov.clsL (HpLe.refl _) (pick_mem [0, 1] rfl) ?_
                      refine Cov.appO (Q := (Rep.pair (Rep.pair (Rep.int .i64) (Rep.pair (Rep.int .i64) (Rep.pair (Rep.int .i64) (Rep.int .i64)))) (Rep.pair (Rep.pair (Rep.int .i64) (Rep.pair (Rep.int .i64) (Rep.int .i64))) (Rep.int .i64)))) 0 .d1 sl39 ty35 rfl rfl rfl rfl rfl rfl o16455 o20536 rfl rfl rfl B0 hu20515 rfl (fun a20538 k20539 cs20540 o20541 => ?_)
                      refine Cov.clsL (HpLe.refl _) (pick_mem [0, 1] rfl) ?_
                      refine Cov.dq (.assign rfl) rfl ?_
                      refine Cov.draw_end ?_
                      refine Cov.prune [(8, _), (9, _), (4, _), (1, _)] ⟨rfl, rfl, rfl, rfl, trivial⟩ ?_
                      refine Cov.inBlock ?_
                      refine Cov.region rfl ?_
                      refine Cov.q .ro (.move rfl) rfl ?_
                      refine Cov.q .ro (.addw rfl rfl) rfl ?_
                      refine Cov.q .ro (.assign rfl) rfl ?_
                      refine Cov.region_end ?_
                      refine Cov.drop 1 0 [_] _ rfl rfl ?_
                      refine Cov.prune _ ?_ (Cov.same rfl rfl rfl (hb16459 (m16472, u20515, a20538, k20539, cs20540, (w64 (v16457 + 1))) ⟨o20541, r20519⟩ (Nat.lt_succ_self _)))
                      exact ⟨rfl, rfl, rfl, rfl, trivial⟩
                  · refine Cov.callS (b1 := []) (b2 := [_, _]) (s1 := []) [_, _] [] .d1 rfl rfl Try.call15 rfl rfl (ref28_Sum_c (G := G) List.mem_cons_self  hu20505) rfl (fun v20544 bo so h20543 => ?_)
                    obtain ⟨rfl, rfl, rfl⟩ := h20543
                    refine Cov.same (bl' := [_, _]) (sl' := [_, _]) rfl rfl rfl ?_
                    refine Cov.clsL (HpLe.refl _) (pick_mem [0, 1] rfl) ?_
                    obtain ⟨c20545, p20546, h20547⟩ := OL.get o277 hu20501
                    obtain ⟨_, _, rfl, rfl, _, _, rfl, rfl, _, _, rfl, rfl, rfl⟩ := h20547
                    refine Cov.q .d1 (.idxO 1 rfl rfl rfl hu20501 sl53 ty33.sz) rfl ?_
                    refine Cov.clsL (HpLe.refl _) (pick_mem [0, 1] rfl) ?_
                    refine Cov.q .d1 (.loadO_a 1 0 [_, _, _, _] rfl hu20501 p20546 rfl (.inl ⟨rfl, rfl⟩) ty33 rfl) rfl ?_
                    refine Cov.clsL (HpLe.refl _) (pick_mem [0, 1] rfl) ?_
                    refine Cov.dq (.build [_, _, _, _, _, _, _, _] [(0, _), (1, _), (2, _)] ty35 pl35 rfl rfl) rfl ?_
                    refine Cov.lit [_, _, _, _, _, _, _, _] [(0, _)] .d1 sl39 ty35 rfl rfl rfl rfl rfl rfl (fun b20548 hb20548 => ?_)
                    have o20549 : OL (Rep.pair (Rep.pair (Rep.int .i64) (Rep.pair (Rep.int .i64) (Rep.pair (Rep.int .i64) (Rep.int .i64)))) (Rep.pair (Rep.pair (Rep.int .i64) (Rep.pair (Rep.int .i64) (Rep.int .i64))) (Rep.int .i64))) G [.int .i64 u20501.1, .int .i64 u20501.2.1, .int .i64 u20501.2.2.1, .int .i64 u20501.2.2.2, .int .i64 u16490.1.1, .int .i64 u16490.1.2.1, .int .i64 u16490.1.2.2, .int .i64 u20505] ([((u20501.1, u20501.2.1, u20501.2.2.1, u20501.2.2.2), (u16490.1.1, u16490.1.2.1, u16490.1.2.2), u20505)] : List ((Int × Int × Int × Int) × (Int × Int × Int) × Int)) := ((OL.cons rfl (Rep.pairI (Rep.pairI (Rep.intI .i64 u20501.1) (Rep.pairI (Rep.intI .i64 u20501.2.1) (Rep.pairI (Rep.intI .i64 u20501.2.2.1) (Rep.intI .i64 u20501.2.2.2)))) (Rep.pairI (Rep.pairI (Rep.intI .i64 u16490.1.1) (Rep.pairI (Rep.intI .i64 u16490.1.2.1) (Rep.intI .i64 u16490.1.2.2))) (Rep.intI .i64 u20505))) (OL.nil (Rp' := (Rep.pair (Rep.pair (Rep.int .i64) (Rep.pair (Rep.int .i64) (Rep.pair (Rep.int .i64) (Rep.int .i64)))) (Rep.pair (Rep.pair (Rep.int .i64) (Rep.pair (Rep.int .i64) (Rep.int .i64))) (Rep.int .i64)))))) :)
                    refine Cov.reval 89 (n' := ([((u20501.1, u20501.2.1, u20501.2.2.1, u20501.2.2.2), (u16490.1.1, u16490.1.2.1, u16490.1.2.2), u20505)] : List ((Int × Int × Int × Int) × (Int × Int × Int) × Int)).length) rfl rfl ?_
                    refine Cov.clsL (HpLe.refl _) (pick_mem [0, 1] rfl) ?_
                    refine Cov.appO (Q := (Rep.pair (Rep.pair (Rep.int .i64) (Rep.pair (Rep.int .i64) (Rep.pair (Rep.int .i64) (Rep.int .i64)))) (Rep.pair (Rep.pair (Rep.int .i64) (Rep.pair (Rep.int .i64) (Rep.int .i64))) (Rep.int .i64)))) 0 .d1 sl39 ty35 rfl rfl rfl rfl rfl rfl o16455 o20549 rfl rfl rfl B0 hu20515 rfl (fun a20551 k20552 cs20553 o20554 => ?_)
                    refine Cov.clsL (HpLe.refl _) (pick_mem [0, 1] rfl) ?_
                    refine Cov.dq (.assign rfl) rfl ?_
                    refine Cov.draw_end ?_
                    refine Cov.prune [(8, _), (9, _), (4, _), (1, _)] ⟨rfl, rfl, rfl, rfl, trivial⟩ ?_
                    refine Cov.inBlock ?_
                    refine Cov.region rfl ?_
                    refine Cov.q .ro (.move rfl) rfl ?_
                    refine Cov.q .ro (.addw rfl rfl) rfl ?_
                    refine Cov.q .ro (.assign rfl) rfl ?_
                    refine Cov.region_end ?_
                    refine Cov.drop 1 0 [_] _ rfl rfl ?_
                    refine Cov.prune _ ?_ (Cov.same rfl rfl rfl (hb16459 (m16472, u20515, a20551, k20552, cs20553, (w64 (v16457 + 1))) ⟨o20554, r20519⟩ (Nat.lt_succ_self _)))
                    exact ⟨rfl, rfl, rfl, rfl, trivial⟩
                · refine Cov.alloc .d1 ty27 rfl (fun b16502 hb16502 => ?_)
                  refine Cov.clsL (HpLe.refl _) (pick_mem [1] rfl) ?_
                  refine Cov.callS (b1 := []) (b2 := [_, _]) (s1 := []) [_, _, _, _] [] .d1 rfl rfl Try.call14 rfl rfl (ref28_Of_c (G := G) List.mem_cons_self  hu16490) rfl (fun v16504 bo so h16503 => ?_)
                  obtain ⟨rfl, rfl, rfl⟩ := h16503
                  refine Cov.same (bl' := [_, _]) (sl' := [_, _]) rfl rfl rfl ?_
                  refine Cov.clsL (HpLe.refl _) (pick_mem [1] rfl) ?_
                  refine Cov.dq (.move rfl) rfl ?_
                  refine Cov.dq (.extract rfl rfl) rfl ?_
                  refine Cov.dq (.extract rfl rfl) rfl ?_
                  refine Cov.store 0 [_, _, _] [_, _] .d1 rfl rfl rfl ty27 rfl rfl rfl rfl ?_
                  refine Cov.clsL (HpLe.refl _) (pick_mem [1] rfl) ?_
                  refine Cov.dq (.assign rfl) rfl ?_
                  refine Cov.draw_end ?_
                  refine Cov.prune [(8, _), (9, _), (4, _), (1, _), (10, _)] ⟨rfl, rfl, rfl, rfl, rfl, trivial⟩ ?_
                  refine Cov.drawL (.q 0 (.q 1 (.q 2 (.q 5 (.q 6 (.q 7 (.q 8 (.alt (.e 3 1 (.alt (.e 4 1 (.e 9 1 (.q 10 (.e 11 1 (.e 12 1 (.q 13 .nil)))))) (.e 9 1 (.e 4 1 (.q 10 (.e 11 1 (.e 12 1 (.q 13 .nil)))))))) (.e 9 1 (.e 3 1 (.e 4 1 (.q 10 (.e 11 1 (.e 12 1 (.q 13 .nil))))))))))))))) [_, _] (by kernel_rfl) (by kernel_rfl) (pick_mem [0, 1] rfl) ?_
                  obtain ⟨u20501, hu20501, r20517⟩ := bind_some r16495; clear r16495
                  obtain ⟨u20505, hu20505, r20518⟩ := bind_some r20517; clear r20517
                  obtain ⟨u20515, hu20515, r20519⟩ := bind_some r20518; clear r20518
                  refine Cov.dq (.move rfl) rfl ?_
                  refine Cov.dq (.move rfl) rfl ?_
                  refine Cov.dq (.move rfl) rfl ?_
                  refine Cov.dq (.load_own_a 0 [_, _, _] rfl rfl ty27 rfl) rfl ?_
                  refine Cov.dq (.load_own_a 0 [_, _, _] rfl rfl ty27 rfl) rfl ?_
                  refine Cov.dq (.fieldAddr 7 rfl fl29_7 ty27.sz rfl) rfl ?_
                  refine Cov.dq (.load_own_a 1 [_, _, _] rfl rfl ty27 rfl) rfl ?_
                  refine Cov.alt ?_ ?_
                  · obtain ⟨c20520, p20521, h20522⟩ := OL.get o277 hu20501
                    obtain ⟨_, _, rfl, rfl, _, _, rfl, rfl, _, _, rfl, rfl, rfl⟩ := h20522
                    refine Cov.q .d1 (.idxO 1 rfl rfl rfl hu20501 sl53 ty33.sz) rfl ?_
                    refine Cov.clsL (HpLe.refl _) (pick_mem [0, 1] rfl) ?_
                    refine Cov.alt ?_ ?_
                    · refine Cov.q .d1 (.loadO_a 1 0 [_, _, _, _] rfl hu20501 p20521 rfl (.inl ⟨rfl, rfl⟩) ty33 rfl) rfl ?_
                      refine Cov.clsL (HpLe.refl _) (pick_mem [0, 1] rfl) ?_
                      refine Cov.callS (b1 := []) (b2 := [_, _]) (s1 := []) [_, _] [] .d1 rfl rfl Try.call15 rfl rfl (ref28_Sum_c (G := G) List.mem_cons_self  hu20505) rfl (fun v20524 bo so h20523 => ?_)
                      obtain ⟨rfl, rfl, rfl⟩ := h20523
                      refine Cov.same (bl' := [_, _]) (sl' := [_, _]) rfl rfl rfl ?_
                      refine Cov.clsL (HpLe.refl _) (pick_mem [0, 1] rfl) ?_
                      refine Cov.dq (.build [_, _, _, _, _, _, _, _] [(0, _), (1, _), (2, _)] ty35 pl35 rfl rfl) rfl ?_
                      refine Cov.lit [_, _, _, _, _, _, _, _] [(0, _)] .d1 sl39 ty35 rfl rfl rfl rfl rfl rfl (fun b20525 hb20525 => ?_)
                      have o20526 : OL (Rep.pair (Rep.pair (Rep.int .i64) (Rep.pair (Rep.int .i64) (Rep.pair (Rep.int .i64) (Rep.int .i64)))) (Rep.pair (Rep.pair (Rep.int .i64) (Rep.pair (Rep.int .i64) (Rep.int .i64))) (Rep.int .i64))) G [.int .i64 u20501.1, .int .i64 u20501.2.1, .int .i64 u20501.2.2.1, .int .i64 u20501.2.2.2, .int .i64 u16490.1.1, .int .i64 u16490.1.2.1, .int .i64 u16490.1.2.2, .int .i64 u20505] ([((u20501.1, u20501.2.1, u20501.2.2.1, u20501.2.2.2), (u16490.1.1, u16490.1.2.1, u16490.1.2.2), u20505)] : List ((Int × Int × Int × Int) × (Int × Int × Int) × Int)) := ((OL.cons rfl (Rep.pairI (Rep.pairI (Rep.intI .i64 u20501.1) (Rep.pairI (Rep.intI .i64 u20501.2.1) (Rep.pairI (Rep.intI .i64 u20501.2.2.1) (Rep.intI .i64 u20501.2.2.2)))) (Rep.pairI (Rep.pairI (Rep.intI .i64 u16490.1.1) (Rep.pairI (Rep.intI .i64 u16490.1.2.1) (Rep.intI .i64 u16490.1.2.2))) (Rep.intI .i64 u20505))) (OL.nil (Rp' := (Rep.pair (Rep.pair (Rep.int .i64) (Rep.pair (Rep.int .i64) (Rep.pair (Rep.int .i64) (Rep.int .i64)))) (Rep.pair (Rep.pair (Rep.int .i64) (Rep.pair (Rep.int .i64) (Rep.int .i64))) (Rep.int .i64)))))) :)
                      refine Cov.reval 89 (n' := ([((u20501.1, u20501.2.1, u20501.2.2.1, u20501.2.2.2), (u16490.1.1, u16490.1.2.1, u16490.1.2.2), u20505)] : List ((Int × Int × Int × Int) × (Int × Int × Int) × Int)).length) rfl rfl ?_
                      refine Cov.clsL (HpLe.refl _) (pick_mem [0, 1] rfl) ?_
                      refine Cov.appO (Q := (Rep.pair (Rep.pair (Rep.int .i64) (Rep.pair (Rep.int .i64) (Rep.pair (Rep.int .i64) (Rep.int .i64)))) (Rep.pair (Rep.pair (Rep.int .i64) (Rep.pair (Rep.int .i64) (Rep.int .i64))) (Rep.int .i64)))) 0 .d1 sl39 ty35 rfl rfl rfl rfl rfl rfl o16455 o20526 rfl rfl rfl B0 hu20515 rfl (fun a20528 k20529 cs20530 o20531 => ?_)
                      refine Cov.clsL (HpLe.refl _) (pick_mem [0, 1] rfl) ?_
                      refine Cov.dq (.assign rfl) rfl ?_
                      refine Cov.draw_end ?_
                      refine Cov.prune [(8, _), (9, _), (4, _), (1, _)] ⟨rfl, rfl, rfl, rfl, trivial⟩ ?_
                      refine Cov.inBlock ?_
                      refine Cov.region rfl ?_
                      refine Cov.q .ro (.move rfl) rfl ?_
                      refine Cov.q .ro (.addw rfl rfl) rfl ?_
                      refine Cov.q .ro (.assign rfl) rfl ?_
                      refine Cov.region_end ?_
                      refine Cov.drop 1 0 [_] _ rfl rfl ?_
                      refine Cov.prune _ ?_ (Cov.same rfl rfl rfl (hb16459 (m16472, u20515, a20528, k20529, cs20530, (w64 (v16457 + 1))) ⟨o20531, r20519⟩ (Nat.lt_succ_self _)))
                      exact ⟨rfl, rfl, rfl, rfl, trivial⟩
                    · refine Cov.callS (b1 := []) (b2 := [_, _]) (s1 := []) [_, _] [] .d1 rfl rfl Try.call15 rfl rfl (ref28_Sum_c (G := G) List.mem_cons_self  hu20505) rfl (fun v20534 bo so h20533 => ?_)
                      obtain ⟨rfl, rfl, rfl⟩ := h20533
                      refine Cov.same (bl' := [_, _]) (sl' := [_, _]) rfl rfl rfl ?_
                      refine Cov.clsL (HpLe.refl _) (pick_mem [0, 1] rfl) ?_
                      refine Cov.q .d1 (.loadO_a 1 0 [_, _, _, _] rfl hu20501 p20521 rfl (.inl ⟨rfl, rfl⟩) ty33 rfl) rfl ?_
                      refine Cov.clsL (HpLe.refl _) (pick_mem [0, 1] rfl) ?_
                      refine Cov.dq (.build [_, _, _, _, _, _, _, _] [(0, _), (1, _), (2, _)] ty35 pl35 rfl rfl) rfl ?_
                      refine Cov.lit [_, _, _, _, _, _, _, _] [(0, _)] .d1 sl39 ty35 rfl rfl rfl rfl rfl rfl (fun b20535 hb20535 => ?_)
                      have o20536 : OL (Rep.pair (Rep.pair (Rep.int .i64) (Rep.pair (Rep.int .i64) (Rep.pair (Rep.int .i64) (Rep.int .i64)))) (Rep.pair (Rep.pair (Rep.int .i64) (Rep.pair (Rep.int .i64) (Rep.int .i64))) (Rep.int .i64))) G [.int .i64 u20501.1, .int .i64 u20501.2.1, .int .i64 u20501.2.2.1, .int .i64 u20501.2.2.2, .int .i64 u16490.1.1, .int .i64 u16490.1.2.1, .int .i64 u16490.1.2.2, .int .i64 u20505] ([((u20501.1, u20501.2.1, u20501.2.2.1, u20501.2.2.2), (u16490.1.1, u16490.1.2.1, u16490.1.2.2), u20505)] : List ((Int × Int × Int × Int) × (Int × Int × Int) × Int)) := ((OL.cons rfl (Rep.pairI (Rep.pairI (Rep.intI .i64 u20501.1) (Rep.pairI (Rep.intI .i64 u20501.2.1) (Rep.pairI (Rep.intI .i64 u20501.2.2.1) (Rep.intI .i64 u20501.2.2.2)))) (Rep.pairI (Rep.pairI (Rep.intI .i64 u16490.1.1) (Rep.pairI (Rep.intI .i64 u16490.1.2.1) (Rep.intI .i64 u16490.1.2.2))) (Rep.intI .i64 u20505))) (OL.nil (Rp' := (Rep.pair (Rep.pair (Rep.int .i64) (Rep.pair (Rep.int .i64) (Rep.pair (Rep.int .i64) (Rep.int .i64)))) (Rep.pair (Rep.pair (Rep.int .i64) (Rep.pair (Rep.int .i64) (Rep.int .i64))) (Rep.int .i64)))))) :)
                      refine Cov.reval 89 (n' := ([((u20501.1, u20501.2.1, u20501.2.2.1, u20501.2.2.2), (u16490.1.1, u16490.1.2.1, u16490.1.2.2), u20505)] : List ((Int × Int × Int × Int) × (Int × Int × Int) × Int)).length) rfl rfl ?_
                      refine Cov.clsL (HpLe.refl _) (pick_mem [0, 1] rfl) ?_
                      refine Cov.appO (Q := (Rep.pair (Rep.pair (Rep.int .i64) (Rep.pair (Rep.int .i64) (Rep.pair (Rep.int .i64) (Rep.int .i64)))) (Rep.pair (Rep.pair (Rep.int .i64) (Rep.pair (Rep.int .i64) (Rep.int .i64))) (Rep.int .i64)))) 0 .d1 sl39 ty35 rfl rfl rfl rfl rfl rfl o16455 o20536 rfl rfl rfl B0 hu20515 rfl (fun a20538 k20539 cs20540 o20541 => ?_)
                      refine Cov.clsL (HpLe.refl _) (pick_mem [0, 1] rfl) ?_
                      refine Cov.dq (.assign rfl) rfl ?_
                      refine Cov.draw_end ?_
                      refine Cov.prune [(8, _), (9, _), (4, _), (1, _)] ⟨rfl, rfl, rfl, rfl, trivial⟩ ?_
                      refine Cov.inBlock ?_
                      refine Cov.region rfl ?_
                      refine Cov.q .ro (.move rfl) rfl ?_
                      refine Cov.q .ro (.addw rfl rfl) rfl ?_
                      refine Cov.q .ro (.assign rfl) rfl ?_
                      refine Cov.region_end ?_
                      refine Cov.drop 1 0 [_] _ rfl rfl ?_
                      refine Cov.prune _ ?_ (Cov.same rfl rfl rfl (hb16459 (m16472, u20515, a20538, k20539, cs20540, (w64 (v16457 + 1))) ⟨o20541, r20519⟩ (Nat.lt_succ_self _)))
                      exact ⟨rfl, rfl, rfl, rfl, trivial⟩
                  · refine Cov.callS (b1 := []) (b2 := [_, _]) (s1 := []) [_, _] [] .d1 rfl rfl Try.call15 rfl rfl (ref28_Sum_c (G := G) List.mem_cons_self  hu20505) rfl (fun v20544 bo so h20543 => ?_)
                    obtain ⟨rfl, rfl, rfl⟩ := h20543
                    refine Cov.same (bl' := [_, _]) (sl' := [_, _]) rfl rfl rfl ?_
                    refine Cov.clsL (HpLe.refl _) (pick_mem [0, 1] rfl) ?_
                    obtain ⟨c20545, p20546, h20547⟩ := OL.get o277 hu20501
                    obtain ⟨_, _, rfl, rfl, _, _, rfl, rfl, _, _, rfl, rfl, rfl⟩ := h20547
                    refine Cov.q .d1 (.idxO 1 rfl rfl rfl hu20501 sl53 ty33.sz) rfl ?_
                    refine Cov.clsL (HpLe.refl _) (pick_mem [0, 1] rfl) ?_
                    refine Cov.q .d1 (.loadO_a 1 0 [_, _, _, _] rfl hu20501 p20546 rfl (.inl ⟨rfl, rfl⟩) ty33 rfl) rfl ?_
                    refine Cov.clsL (HpLe.refl _) (pick_mem [0, 1] rfl) ?_
                    refine Cov.dq (.build [_, _, _, _, _, _, _, _] [(0, _), (1, _), (2, _)] ty35 pl35 rfl rfl) rfl ?_
                    refine Cov.lit [_, _, _, _, _, _, _, _] [(0, _)] .d1 sl39 ty35 rfl rfl rfl rfl rfl rfl (fun b20548 hb20548 => ?_)
                    have o20549 : OL (Rep.pair (Rep.pair (Rep.int .i64) (Rep.pair (Rep.int .i64) (Rep.pair (Rep.int .i64) (Rep.int .i64)))) (Rep.pair (Rep.pair (Rep.int .i64) (Rep.pair (Rep.int .i64) (Rep.int .i64))) (Rep.int .i64))) G [.int .i64 u20501.1, .int .i64 u20501.2.1, .int .i64 u20501.2.2.1, .int .i64 u20501.2.2.2, .int .i64 u16490.1.1, .int .i64 u16490.1.2.1, .int .i64 u16490.1.2.2, .int .i64 u20505] ([((u20501.1, u20501.2.1, u20501.2.2.1, u20501.2.2.2), (u16490.1.1, u16490.1.2.1, u16490.1.2.2), u20505)] : List ((Int × Int × Int × Int) × (Int × Int × Int) × Int)) := ((OL.cons rfl (Rep.pairI (Rep.pairI (Rep.intI .i64 u20501.1) (Rep.pairI (Rep.intI .i64 u20501.2.1) (Rep.pairI (Rep.intI .i64 u20501.2.2.1) (Rep.intI .i64 u20501.2.2.2)))) (Rep.pairI (Rep.pairI (Rep.intI .i64 u16490.1.1) (Rep.pairI (Rep.intI .i64 u16490.1.2.1) (Rep.intI .i64 u16490.1.2.2))) (Rep.intI .i64 u20505))) (OL.nil (Rp' := (Rep.pair (Rep.pair (Rep.int .i64) (Rep.pair (Rep.int .i64) (Rep.pair (Rep.int .i64) (Rep.int .i64)))) (Rep.pair (Rep.pair (Rep.int .i64) (Rep.pair (Rep.int .i64) (Rep.int .i64))) (Rep.int .i64)))))) :)
                    refine Cov.reval 89 (n' := ([((u20501.1, u20501.2.1, u20501.2.2.1, u20501.2.2.2), (u16490.1.1, u16490.1.2.1, u16490.1.2.2), u20505)] : List ((Int × Int × Int × Int) × (Int × Int × Int) × Int)).length) rfl rfl ?_
                    refine Cov.clsL (HpLe.refl _) (pick_mem [0, 1] rfl) ?_
                    refine Cov.appO (Q := (Rep.pair (Rep.pair (Rep.int .i64) (Rep.pair (Rep.int .i64) (Rep.pair (Rep.int .i64) (Rep.int .i64)))) (Rep.pair (Rep.pair (Rep.int .i64) (Rep.pair (Rep.int .i64) (Rep.int .i64))) (Rep.int .i64)))) 0 .d1 sl39 ty35 rfl rfl rfl rfl rfl rfl o16455 o20549 rfl rfl rfl B0 hu20515 rfl (fun a20551 k20552 cs20553 o20554 => ?_)
                    refine Cov.clsL (HpLe.refl _) (pick_mem [0, 1] rfl) ?_
                    refine Cov.dq (.assign rfl) rfl ?_
                    refine Cov.draw_end ?_
                    refine Cov.prune [(8, _), (9, _), (4, _), (1, _)] ⟨rfl, rfl, rfl, rfl, trivial⟩ ?_
                    refine Cov.inBlock ?_
                    refine Cov.region rfl ?_
                    refine Cov.q .ro (.move rfl) rfl ?_
                    refine Cov.q .ro (.addw rfl rfl) rfl ?_
                    refine Cov.q .ro (.assign rfl) rfl ?_
                    refine Cov.region_end ?_
                    refine Cov.drop 1 0 [_] _ rfl rfl ?_
                    refine Cov.prune _ ?_ (Cov.same rfl rfl rfl (hb16459 (m16472, u20515, a20551, k20552, cs20553, (w64 (v16457 + 1))) ⟨o20554, r20519⟩ (Nat.lt_succ_self _)))
                    exact ⟨rfl, rfl, rfl, rfl, trivial⟩
              · refine Cov.alloc .d1 ty27 rfl (fun b16505 hb16505 => ?_)
                refine Cov.clsL (HpLe.refl _) (pick_mem [1] rfl) ?_
                refine Cov.q .d1 (.loadO_a 1 0 [_, _, _, _] rfl hu16486 p16497 rfl (.inl ⟨rfl, rfl⟩) ty33 rfl) rfl ?_
                refine Cov.clsL (HpLe.refl _) (pick_mem [1] rfl) ?_
                refine Cov.callS (b1 := []) (b2 := [_, _]) (s1 := []) [_, _, _, _] [] .d1 rfl rfl Try.call14 rfl rfl (ref28_Of_c (G := G) List.mem_cons_self  hu16490) rfl (fun v16507 bo so h16506 => ?_)
                obtain ⟨rfl, rfl, rfl⟩ := h16506
                refine Cov.same (bl' := [_, _]) (sl' := [_, _]) rfl rfl rfl ?_
                refine Cov.clsL (HpLe.refl _) (pick_mem [1] rfl) ?_
                refine Cov.dq (.move rfl) rfl ?_
                refine Cov.dq (.extract rfl rfl) rfl ?_
                refine Cov.dq (.extract rfl rfl) rfl ?_
                refine Cov.store 0 [_, _, _] [_, _] .d1 rfl rfl rfl ty27 rfl rfl rfl rfl ?_
                refine Cov.clsL (HpLe.refl _) (pick_mem [1] rfl) ?_
                refine Cov.dq (.assign rfl) rfl ?_
                refine Cov.draw_end ?_
                refine Cov.prune [(8, _), (9, _), (4, _), (1, _), (10, _)] ⟨rfl, rfl, rfl, rfl, rfl, trivial⟩ ?_
                refine Cov.drawL (.q 0 (.q 1 (.q 2 (.q 5 (.q 6 (.q 7 (.q 8 (.alt (.e 3 1 (.alt (.e 4 1 (.e 9 1 (.q 10 (.e 11 1 (.e 12 1 (.q 13 .nil)))))) (.e 9 1 (.e 4 1 (.q 10 (.e 11 1 (.e 12 1 (.q 13 .nil)))))))) (.e 9 1 (.e 3 1 (.e 4 1 (.q 10 (.e 11 1 (.e 12 1 (.q 13 .nil))))))))))))))) [_, _] (by kernel_rfl) (by kernel_rfl) (pick_mem [0, 1] rfl) ?_
                obtain ⟨u20501, hu20501, r20517⟩ := bind_some r16495; clear r16495
                obtain ⟨u20505, hu20505, r20518⟩ := bind_some r20517; clear r20517
                obtain ⟨u20515, hu20515, r20519⟩ := bind_some r20518; clear r20518
                refine Cov.dq (.move rfl) rfl ?_
                refine Cov.dq (.move rfl) rfl ?_
                refine Cov.dq (.move rfl) rfl ?_
                refine Cov.dq (.load_own_a 0 [_, _, _] rfl rfl ty27 rfl) rfl ?_
                refine Cov.dq (.load_own_a 0 [_, _, _] rfl rfl ty27 rfl) rfl ?_
                refine Cov.dq (.fieldAddr 7 rfl fl29_7 ty27.sz rfl) rfl ?_
                refine Cov.dq (.load_own_a 1 [_, _, _] rfl rfl ty27 rfl) rfl ?_
                refine Cov.alt ?_ ?_
                · obtain ⟨c20520, p20521, h20522⟩ := OL.get o277 hu20501
                  obtain ⟨_, _, rfl, rfl, _, _, rfl, rfl, _, _, rfl, rfl, rfl⟩ := h20522
                  refine Cov.q .d1 (.idxO 1 rfl rfl rfl hu20501 sl53 ty33.sz) rfl ?_
                  refine Cov.clsL (HpLe.refl _) (pick_mem [0, 1] rfl) ?_
                  refine Cov.alt ?_ ?_
                  · refine Cov.q .d1 (.loadO_a 1 0 [_, _, _, _] rfl hu20501 p20521 rfl (.inl ⟨rfl, rfl⟩) ty33 rfl) rfl ?_
                    refine Cov.clsL (HpLe.refl _) (pick_mem [0, 1] rfl) ?_
                    refine Cov.callS (b1 := []) (b2 := [_, _]) (s1 := []) [_, _] [] .d1 rfl rfl Try.call15 rfl rfl (ref28_Sum_c (G := G) List.mem_cons_self  hu20505) rfl (fun v20524 bo so h20523 => ?_)
                    obtain ⟨rfl, rfl, rfl⟩ := h20523
                    refine Cov.same (bl' := [_, _]) (sl' := [_, _]) rfl rfl rfl ?_
                    refine Cov.clsL (HpLe.refl _) (pick_mem [0, 1] rfl) ?_
                    refine Cov.dq (.build [_, _, _, _, _, _, _, _] [(0, _), (1, _), (2, _)] ty35 pl35 rfl rfl) rfl ?_
                    refine Cov.lit [_, _, _, _, _, _, _, _] [(0, _)] .d1 sl39 ty35 rfl rfl rfl rfl rfl rfl (fun b20525 hb20525 => ?_)
                    have o20526 : OL (Rep.pair (Rep.pair (Rep.int .i64) (Rep.pair (Rep.int .i64) (Rep.pair (Rep.int .i64) (Rep.int .i64)))) (Rep.pair (Rep.pair (Rep.int .i64) (Rep.pair (Rep.int .i64) (Rep.int .i64))) (Rep.int .i64))) G [.int .i64 u20501.1, .int .i64 u20501.2.1, .int .i64 u20501.2.2.1, .int .i64 u20501.2.2.2, .int .i64 u16490.1.1, .int .i64 u16490.1.2.1, .int .i64 u16490.1.2.2, .int .i64 u20505] ([((u20501.1, u20501.2.1, u20501.2.2.1, u20501.2.2.2), (u16490.1.1, u16490.1.2.1, u16490.1.2.2), u20505)] : List ((Int × Int × Int × Int) × (Int × Int × Int) × Int)) := ((OL.cons rfl (Rep.pairI (Rep.pairI (Rep.intI .i64 u20501.1) (Rep.pairI (Rep.intI .i64 u20501.2.1) (Rep.pairI (Rep.intI .i64 u20501.2.2.1) (Rep.intI .i64 u20501.2.2.2)))) (Rep.pairI (Rep.pairI (Rep.intI .i64 u16490.1.1) (Rep.pairI (Rep.intI .i64 u16490.1.2.1) (Rep.intI .i64 u16490.1.2.2))) (Rep.intI .i64 u20505))) (OL.nil (Rp' := (Rep.pair (Rep.pair (Rep.int .i64) (Rep.pair (Rep.int .i64) (Rep.pair (Rep.int .i64) (Rep.int .i64)))) (Rep.pair (Rep.pair (Rep.int .i64) (Rep.pair (Rep.int .i64) (Rep.int .i64))) (Rep.int .i64)))))) :)
                    refine Cov.reval 89 (n' := ([((u20501.1, u20501.2.1, u20501.2.2.1, u20501.2.2.2), (u16490.1.1, u16490.1.2.1, u16490.1.2.2), u20505)] : List ((Int × Int × Int × Int) × (Int × Int × Int) × Int)).length) rfl rfl ?_
                    refine Cov.clsL (HpLe.refl _) (pick_mem [0, 1] rfl) ?_
                    refine Cov.appO (Q := (Rep.pair (Rep.pair (Rep.int .i64) (Rep.pair (Rep.int .i64) (Rep.pair (Rep.int .i64) (Rep.int .i64)))) (Rep.pair (Rep.pair (Rep.int .i64) (Rep.pair (Rep.int .i64) (Rep.int .i64))) (Rep.int .i64)))) 0 .d1 sl39 ty35 rfl rfl rfl rfl rfl rfl o16455 o20526 rfl rfl rfl B0 hu20515 rfl (fun a20528 k20529 cs20530 o20531 => ?_)
                    refine Cov.clsL (HpLe.refl _) (pick_mem [0, 1] rfl) ?_
                    refine Cov.dq (.assign rfl) rfl ?_
                    refine Cov.draw_end ?_
                    refine Cov.prune [(8, _), (9, _), (4, _), (1, _)] ⟨rfl, rfl, rfl, rfl, trivial⟩ ?_
                    refine Cov.inBlock ?_
                    refine Cov.region rfl ?_
                    refine Cov.q .ro (.move rfl) rfl ?_
                    refine Cov.q .ro (.addw rfl rfl) rfl ?_
                    refine Cov.q .ro (.assign rfl) rfl ?_
                    refine Cov.region_end ?_
                    refine Cov.drop 1 0 [_] _ rfl rfl ?_
                    refine Cov.prune _ ?_ (Cov.same rfl rfl rfl (hb16459 (m16472, u20515, a20528, k20529, cs20530, (w64 (v16457 + 1))) ⟨o20531, r20519⟩ (Nat.lt_succ_self _)))
                    exact ⟨rfl, rfl, rfl, rfl, trivial⟩
                  · refine Cov.callS (b1 := []) (b2 := [_, _]) (s1 := []) [_, _] [] .d1 rfl rfl Try.call15 rfl rfl (ref28_Sum_c (G := G) List.mem_cons_self  hu20505) rfl (fun v20534 bo so h20533 => ?_)
                    obtain ⟨rfl, rfl, rfl⟩ := h20533
                    refine Cov.same (bl' := [_, _]) (sl' := [_, _]) rfl rfl rfl ?_
                    refine Cov.clsL (HpLe.refl _) (pick_mem [0, 1] rfl) ?_
                    refine Cov.q .d1 (.loadO_a 1 0 [_, _, _, _] rfl hu20501 p20521 rfl (.inl ⟨rfl, rfl⟩) ty33 rfl) rfl ?_
                    refine Cov.clsL (HpLe.refl _) (pick_mem [0, 1] rfl) ?_
                    refine Cov.dq (.build [_, _, _, _, _, _, _, _] [(0, _), (1, _), (2, _)] ty35 pl35 rfl rfl) rfl ?_
                    refine Cov.lit [_, _, _, _, _, _, _, _] [(0, _)] .d1 sl39 ty35 rfl rfl rfl rfl rfl rfl (fun b20535 hb20535 => ?_)
                    have o20536 : OL (Rep.pair (Rep.pair (Rep.int .i64) (Rep.pair (Rep.int .i64) (Rep.pair (Rep.int .i64) (Rep.int .i64)))) (Rep.pair (Rep.pair (Rep.int .i64) (Rep.pair (Rep.int .i64) (Rep.int .i64))) (Rep.int .i64))) G [.int .i64 u20501.1, .int .i64 u20501.2.1, .int .i64 u20501.2.2.1, .int .i64 u20501.2.2.2, .int .i64 u16490.1.1, .int .i64 u16490.1.2.1, .int .i64 u16490.1.2.2, .int .i64 u20505] ([((u20501.1, u20501.2.1, u20501.2.2.1, u20501.2.2.2), (u16490.1.1, u16490.1.2.1, u16490.1.2.2), u20505)] : List ((Int × Int × Int × Int) × (Int × Int × Int) × Int)) := ((OL.cons rfl (Rep.pairI (Rep.pairI (Rep.intI .i64 u20501.1) (Rep.pairI (Rep.intI .i64 u20501.2.1) (Rep.pairI (Rep.intI .i64 u20501.2.2.1) (Rep.intI .i64 u20501.2.2.2)))) (Rep.pairI (Rep.pairI (Rep.intI .i64 u16490.1.1) (Rep.pairI (Rep.intI .i64 u16490.1.2.1) (Rep.intI .i64 u16490.1.2.2))) (Rep.intI .i64 u20505))) (OL.nil (Rp' := (Rep.pair (Rep.pair (Rep.int .i64) (Rep.pair (Rep.int .i64) (Rep.pair (Rep.int .i64) (Rep.int .i64)))) (Rep.pair (Rep.pair (Rep.int .i64) (Rep.pair (Rep.int .i64) (Rep.int .i64))) (Rep.int .i64)))))) :)
                    refine Cov.reval 89 (n' := ([((u20501.1, u20501.2.1, u20501.2.2.1, u20501.2.2.2), (u16490.1.1, u16490.1.2.1, u16490.1.2.2), u20505)] : List ((Int × Int × Int × Int) × (Int × Int × Int) × Int)).length) rfl rfl ?_
                    refine Cov.clsL (HpLe.refl _) (pick_mem [0, 1] rfl) ?_
                    refine Cov.appO (Q := (Rep.pair (Rep.pair (Rep.int .i64) (Rep.pair (Rep.int .i64) (Rep.pair (Rep.int .i64) (Rep.int .i64)))) (Rep.pair (Rep.pair (Rep.int .i64) (Rep.pair (Rep.int .i64) (Rep.int .i64))) (Rep.int .i64)))) 0 .d1 sl39 ty35 rfl rfl rfl rfl rfl rfl o16455 o20536 rfl rfl rfl B0 hu20515 rfl (fun a20538 k20539 cs20540 o20541 => ?_)
                    refine Cov.clsL (HpLe.refl _) (pick_mem [0, 1] rfl) ?_
                    refine Cov.dq (.assign rfl) rfl ?_
                    refine Cov.draw_end ?_
                    refine Cov.prune [(8, _), (9, _), (4, _), (1, _)] ⟨rfl, rfl, rfl, rfl, trivial⟩ ?_
                    refine Cov.inBlock ?_
                    refine Cov.region rfl ?_
                    refine Cov.q .ro (.move rfl) rfl ?_
                    refine Cov.q .ro (.addw rfl rfl) rfl ?_
                    refine Cov.q .ro (.assign rfl) rfl ?_
                    refine Cov.region_end ?_
                    refine Cov.drop 1 0 [_] _ rfl rfl ?_
                    refine Cov.prune _ ?_ (Cov.same rfl rfl rfl (hb16459 (m16472, u20515, a20538, k20539, cs20540, (w64 (v16457 + 1))) ⟨o20541, r20519⟩ (Nat.lt_succ_self _)))
                    exact ⟨rfl, rfl, rfl, rfl, trivial⟩
                · refine Cov.callS (b1 := []) (b2 := [_, _]) (s1 := []) [_, _] [] .d1 rfl rfl Try.call15 rfl rfl (ref28_Sum_c (G := G) List.mem_cons_self  hu20505) rfl (fun v20544 bo so h20543 => ?_)
                  obtain ⟨rfl, rfl, rfl⟩ := h20543
                  refine Cov.same (bl' := [_, _]) (sl' := [_, _]) rfl rfl rfl ?_
                  refine Cov.clsL (HpLe.refl _) (pick_mem [0, 1] rfl) ?_
                  obtain ⟨c20545, p20546, h20547⟩ := OL.get o277 hu20501
                  obtain ⟨_, _, rfl, rfl, _, _, rfl, rfl, _, _, rfl, rfl, rfl⟩ := h20547
                  refine Cov.q .d1 (.idxO 1 rfl rfl rfl hu20501 sl53 ty33.sz) rfl ?_
                  refine Cov.clsL (HpLe.refl _) (pick_mem [0, 1] rfl) ?_
                  refine Cov.q .d1 (.loadO_a 1 0 [_, _, _, _] rfl hu20501 p20546 rfl (.inl ⟨rfl, rfl⟩) ty33 rfl) rfl ?_
                  refine Cov.clsL (HpLe.refl _) (pick_mem [0, 1] rfl) ?_
                  refine Cov.dq (.build [_, _, _, _, _, _, _, _] [(0, _), (1, _), (2, _)] ty35 pl35 rfl rfl) rfl ?_
                  refine Cov.lit [_, _, _, _, _, _, _, _] [(0, _)] .d1 sl39 ty35 rfl rfl rfl rfl rfl rfl (fun b20548 hb20548 => ?_)
                  have o20549 : OL (Rep.pair (Rep.pair (Rep.int .i64) (Rep.pair (Rep.int .i64) (Rep.pair (Rep.int .i64) (Rep.int .i64)))) (Rep.pair (Rep.pair (Rep.int .i64) (Rep.pair (Rep.int .i64) (Rep.int .i64))) (Rep.int .i64))) G [.int .i64 u20501.1, .int .i64 u20501.2.1, .int .i64 u20501.2.2.1, .int .i64 u20501.2.2.2, .int .i64 u16490.1.1, .int .i64 u16490.1.2.1, .int .i64 u16490.1.2.2, .int .i64 u20505] ([((u20501.1, u20501.2.1, u20501.2.2.1, u20501.2.2.2), (u16490.1.1, u16490.1.2.1, u16490.1.2.2), u20505)] : List ((Int × Int × Int × Int) × (Int × Int × Int) × Int)) := ((OL.cons rfl (Rep.pairI (Rep.pairI (Rep.intI .i64 u20501.1) (Rep.pairI (Rep.intI .i64 u20501.2.1) (Rep.pairI (Rep.intI .i64 u20501.2.2.1) (Rep.intI .i64 u20501.2.2.2)))) (Rep.pairI (Rep.pairI (Rep.intI .i64 u16490.1.1) (Rep.pairI (Rep.intI .i64 u16490.1.2.1) (Rep.intI .i64 u16490.1.2.2))) (Rep.intI .i64 u20505))) (OL.nil (Rp' := (Rep.pair (Rep.pair (Rep.int .i64) (Rep.pair (Rep.int .i64) (Rep.pair (Rep.int .i64) (Rep.int .i64)))) (Rep.pair (Rep.pair (Rep.int .i64) (Rep.pair (Rep.int .i64) (Rep.int .i64))) (Rep.int .i64)))))) :)
                  refine Cov.reval 89 (n' := ([((u20501.1, u20501.2.1, u20501.2.2.1, u20501.2.2.2), (u16490.1.1, u16490.1.2.1, u16490.1.2.2), u20505)] : List ((Int × Int × Int × Int) × (Int × Int × Int) × Int)).length) rfl rfl ?_
                  refine Cov.clsL (HpLe.refl _) (pick_mem [0, 1] rfl) ?_
                  refine Cov.appO (Q := (Rep.pair (Rep.pair (Rep.int .i64) (Rep.pair (Rep.int .i64) (Rep.pair (Rep.int .i64) (Rep.int .i64)))) (Rep.pair (Rep.pair (Rep.int .i64) (Rep.pair (Rep.int .i64) (Rep.int .i64))) (Rep.int .i64)))) 0 .d1 sl39 ty35 rfl rfl rfl rfl rfl rfl o16455 o20549 rfl rfl rfl B0 hu20515 rfl (fun a20551 k20552 cs20553 o20554 => ?_)
                  refine Cov.clsL (HpLe.refl _) (pick_mem [0, 1] rfl) ?_
                  refine Cov.dq (.assign rfl) rfl ?_
                  refine Cov.draw_end ?_
                  refine Cov.prune [(8, _), (9, _), (4, _), (1, _)] ⟨rfl, rfl, rfl, rfl, trivial⟩ ?_
                  refine Cov.inBlock ?_
                  refine Cov.region rfl ?_
                  refine Cov.q .ro (.move rfl) rfl ?_
                  refine Cov.q .ro (.addw rfl rfl) rfl ?_
                  refine Cov.q .ro (.assign rfl) rfl ?_
                  refine Cov.region_end ?_
                  refine Cov.drop 1 0 [_] _ rfl rfl ?_
                  refine Cov.prune _ ?_ (Cov.same rfl rfl rfl (hb16459 (m16472, u20515, a20551, k20552, cs20553, (w64 (v16457 + 1))) ⟨o20554, r20519⟩ (Nat.lt_succ_self _)))
                  exact ⟨rfl, rfl, rfl, rfl, trivial⟩
            · refine Cov.alloc .d1 ty27 rfl (fun b16508 hb16508 => ?_)
              refine Cov.clsL (HpLe.refl _) (pick_mem [1] rfl) ?_
              obtain ⟨c16509, p16510, h16511⟩ := OL.get o277 hu16486
              obtain ⟨_, _, rfl, rfl, _, _, rfl, rfl, _, _, rfl, rfl, rfl⟩ := h16511
              refine Cov.q .d1 (.idxO 1 rfl rfl rfl hu16486 sl53 ty33.sz) rfl ?_
              refine Cov.clsL (HpLe.refl _) (pick_mem [1] rfl) ?_
              refine Cov.q .d1 (.loadO_a 1 0 [_, _, _, _] rfl hu16486 p16510 rfl (.inl ⟨rfl, rfl⟩) ty33 rfl) rfl ?_
              refine Cov.clsL (HpLe.refl _) (pick_mem [1] rfl) ?_
              refine Cov.callS (b1 := []) (b2 := [_, _]) (s1 := []) [_, _, _, _] [] .d1 rfl rfl Try.call14 rfl rfl (ref28_Of_c (G := G) List.mem_cons_self  hu16490) rfl (fun v16513 bo so h16512 => ?_)
              obtain ⟨rfl, rfl, rfl⟩ := h16512
              refine Cov.same (bl' := [_, _]) (sl' := [_, _]) rfl rfl rfl ?_
              refine Cov.clsL (HpLe.refl _) (pick_mem [1] rfl) ?_
              refine Cov.dq (.move rfl) rfl ?_
              refine Cov.dq (.extract rfl rfl) rfl ?_
              refine Cov.dq (.extract rfl rfl) rfl ?_
              refine Cov.store 0 [_, _, _] [_, _] .d1 rfl rfl rfl ty27 rfl rfl rfl rfl ?_
              refine Cov.clsL (HpLe.refl _) (pick_mem [1] rfl) ?_
              refine Cov.dq (.assign rfl) rfl ?_
              refine Cov.draw_end ?_
              refine Cov.prune [(8, _), (9, _), (4, _), (1, _), (10, _)] ⟨rfl, rfl, rfl, rfl, rfl, trivial⟩ ?_
              refine Cov.drawL (.q 0 (.q 1 (.q 2 (.q 5 (.q 6 (.q 7 (.q 8 (.alt (.e 3 1 (.alt (.e 4 1 (.e 9 1 (.q 10 (.e 11 1 (.e 12 1 (.q 13 .nil)))))) (.e 9 1 (.e 4 1 (.q 10 (.e 11 1 (.e 12 1 (.q 13 .nil)))))))) (.e 9 1 (.e 3 1 (.e 4 1 (.q 10 (.e 11 1 (.e 12 1 (.q 13 .nil))))))))))))))) [_, _] (by kernel_rfl) (by kernel_rfl) (pick_mem [0, 1] rfl) ?_
              obtain ⟨u20501, hu20501, r20517⟩ := bind_some r16495; clear r16495
              obtain ⟨u20505, hu20505, r20518⟩ := bind_some r20517; clear r20517
              obtain ⟨u20515, hu20515, r20519⟩ := bind_some r20518; clear r20518
              refine Cov.dq (.move rfl) rfl ?_
              refine Cov.dq (.move rfl) rfl ?_
              refine Cov.dq (.move rfl) rfl ?_
              refine Cov.dq (.load_own_a 0 [_, _, _] rfl rfl ty27 rfl) rfl ?_
              refine Cov.dq (.load_own_a 0 [_, _, _] rfl rfl ty27 rfl) rfl ?_
              refine Cov.dq (.fieldAddr 7 rfl fl29_7 ty27.sz rfl) rfl ?_
              refine Cov.dq (.load_own_a 1 [_, _, _] rfl rfl ty27 rfl) rfl ?_
              refine Cov.alt ?_ ?_
              · obtain ⟨c20520, p20521, h20522⟩ := OL.get o277 hu20501
                obtain ⟨_, _, rfl, rfl, _, _, rfl, rfl, _, _, rfl, rfl, rfl⟩ := h20522
                refine Cov.q .d1 (.idxO 1 rfl rfl rfl hu20501 sl53 ty33.sz) rfl ?_
                refine Cov.clsL (HpLe.refl _) (pick_mem [0, 1] rfl) ?_
                refine Cov.alt ?_ ?_
                · refine Cov.q .d1 (.loadO_a 1 0 [_, _, _, _] rfl hu20501 p20521 rfl (.inl ⟨rfl, rfl⟩) ty33 rfl) rfl ?_
                  refine Cov.clsL (HpLe.refl _) (pick_mem [0, 1] rfl) ?_
                  refine Cov.callS (b1 := []) (b2 := [_, _]) (s1 := []) [_, _] [] .d1 rfl rfl Try.call15 rfl rfl (ref28_Sum_c (G := G) List.mem_cons_self  hu20505) rfl (fun v20524 bo so h20523 => ?_)
                  obtain ⟨rfl, rfl, rfl⟩ := h20523
                  refine Cov.same (bl' := [_, _]) (sl' := [_, _]) rfl rfl rfl ?_
                  refine Cov.clsL (HpLe.refl _) (pick_mem [0, 1] rfl) ?_
                  refine Cov.dq (.build [_, _, _, _, _, _, _, _] [(0, _), (1, _), (2, _)] ty35 pl35 rfl rfl) rfl ?_
                  refine Cov.lit [_, _, _, _, _, _, _, _] [(0, _)] .d1 sl39 ty35 rfl rfl rfl rfl rfl rfl (fun b20525 hb20525 => ?_)
                  have o20526 : OL (Rep.pair (Rep.pair (Rep.int .i64) (Rep.pair (Rep.int .i64) (Rep.pair (Rep.int .i64) (Rep.int .i64)))) (Rep.pair (Rep.pair (Rep.int .i64) (Rep.pair (Rep.int .i64) (Rep.int .i64))) (Rep.int .i64))) G [.int .i64 u20501.1, .int .i64 u20501.2.1, .int .i64 u20501.2.2.1, .int .i64 u20501.2.2.2, .int .i64 u16490.1.1, .int .i64 u16490.1.2.1, .int .i64 u16490.1.2.2, .int .i64 u20505] ([((u20501.1, u20501.2.1, u20501.2.2.1, u20501.2.2.2), (u16490.1.1, u16490.1.2.1, u16490.1.2.2), u20505)] : List ((Int × Int × Int × Int) × (Int × Int × Int) × Int)) := ((OL.cons rfl (Rep.pairI (Rep.pairI (Rep.intI .i64 u20501.1) (Rep.pairI (Rep.intI .i64 u20501.2.1) (Rep.pairI (Rep.intI .i64 u20501.2.2.1) (Rep.intI .i64 u20501.2.2.2)))) (Rep.pairI (Rep.pairI (Rep.intI .i64 u16490.1.1) (Rep.pairI (Rep.intI .i64 u16490.1.2.1) (Rep.intI .i64 u16490.1.2.2))) (Rep.intI .i64 u20505))) (OL.nil (Rp' := (Rep.pair (Rep.pair (Rep.int .i64) (Rep.pair (Rep.int .i64) (Rep.pair (Rep.int .i64) (Rep.int .i64)))) (Rep.pair (Rep.pair (Rep.int .i64) (Rep.pair (Rep.int .i64) (Rep.int .i64))) (Rep.int .i64)))))) :)
                  refine Cov.reval 89 (n' := ([((u20501.1, u20501.2.1, u20501.2.2.1, u20501.2.2.2), (u16490.1.1, u16490.1.2.1, u16490.1.2.2), u20505)] : List ((Int × Int × Int × Int) × (Int × Int × Int) × Int)).length) rfl rfl ?_
                  refine Cov.clsL (HpLe.refl _) (pick_mem [0, 1] rfl) ?_
                  refine Cov.appO (Q := (Rep.pair (Rep.pair (Rep.int .i64) (Rep.pair (Rep.int .i64) (Rep.pair (Rep.int .i64) (Rep.int .i64)))) (Rep.pair (Rep.pair (Rep.int .i64) (Rep.pair (Rep.int .i64) (Rep.int .i64))) (Rep.int .i64)))) 0 .d1 sl39 ty35 rfl rfl rfl rfl rfl rfl o16455 o20526 rfl rfl rfl B0 hu20515 rfl (fun a20528 k20529 cs20530 o20531 => ?_)
                  refine Cov.clsL (HpLe.refl _) (pick_mem [0, 1] rfl) ?_
                  refine Cov.dq (.assign rfl) rfl ?_
                  refine Cov.draw_end ?_
                  refine Cov.prune [(8, _), (9, _), (4, _), (1, _)] ⟨rfl, rfl, rfl, rfl, trivial⟩ ?_
                  refine Cov.inBlock ?_
                  refine Cov.region rfl ?_
                  refine Cov.q .ro (.move rfl) rfl ?_
                  refine Cov.q .ro (.addw rfl rfl) rfl ?_
                  refine Cov.q .ro (.assign rfl) rfl ?_
                  refine Cov.region_end ?_
                  refine Cov.drop 1 0 [_] _ rfl rfl ?_
                  refine Cov.prune _ ?_ (Cov.same rfl rfl rfl (hb16459 (m16472, u20515, a20528, k20529, cs20530, (w64 (v16457 + 1))) ⟨o20531, r20519⟩ (Nat.lt_succ_self _)))
                  exact ⟨rfl, rfl, rfl, rfl, trivial⟩
                · refine Cov.callS (b1 := []) (b2 := [_, _]) (s1 := []) [_, _] [] .d1 rfl rfl Try.call15 rfl rfl (ref28_Sum_c (G := G) List.mem_cons_self  hu20505) rfl (fun v20534 bo so h20533 => ?_)
                  obtain ⟨rfl, rfl, rfl⟩ := h20533
                  refine Cov.same (bl' := [_, _]) (sl' := [_, _]) rfl rfl rfl ?_
                  refine Cov.clsL (HpLe.refl _) (pick_mem [0, 1] rfl) ?_
                  refine Cov.q .d1 (.loadO_a 1 0 [_, _, _, _] rfl hu20501 p20521 rfl (.inl ⟨rfl, rfl⟩) ty33 rfl) rfl ?_
                  refine Cov.clsL (HpLe.refl _) (pick_mem [0, 1] rfl) ?_
                  refine Cov.dq (.build [_, _, _, _, _, _, _, _] [(0, _), (1, _), (2, _)] ty35 pl35 rfl rfl) rfl ?_
                  refine Cov.lit [_, _, _, _, _, _, _, _] [(0, _)] .d1 sl39 ty35 rfl rfl rfl rfl rfl rfl (fun b20535 hb20535 => ?_)
                  have o20536 : OL (Rep.pair (Rep.pair (Rep.int .i64) (Rep.pair (Rep.int .i64) (Rep.pair (Rep.int .i64) (Rep.int .i64)))) (Rep.pair (Rep.pair (Rep.int .i64) (Rep.pair (Rep.int .i64) (Rep.int .i64))) (Rep.int .i64))) G [.int .i64 u20501.1, .int .i64 u20501.2.1, .int .i64 u20501.2.2.1, .int .i64 u20501.2.2.2, .int .i64 u16490.1.1, .int .i64 u16490.1.2.1, .int .i64 u16490.1.2.2, .int .i64 u20505] ([((u20501.1, u20501.2.1, u20501.2.2.1, u20501.2.2.2), (u16490.1.1, u16490.1.2.1, u16490.1.2.2), u20505)] : List ((Int × Int × Int × Int) × (Int × Int × Int) × Int)) := ((OL.cons rfl (Rep.pairI (Rep.pairI (Rep.intI .i64 u20501.1) (Rep.pairI (Rep.intI .i64 u20501.2.1) (Rep.pairI (Rep.intI .i64 u20501.2.2.1) (Rep.intI .i64 u20501.2.2.2)))) (Rep.pairI (Rep.pairI (Rep.intI .i64 u16490.1.1) (Rep.pairI (Rep.intI .i64 u16490.1.2.1) (Rep.intI .i64 u16490.1.2.2))) (Rep.intI .i64 u20505))) (OL.nil (Rp' := (Rep.pair (Rep.pair (Rep.int .i64) (Rep.pair (Rep.int .i64) (Rep.pair (Rep.int .i64) (Rep.int .i64)))) (Rep.pair (Rep.pair (Rep.int .i64) (Rep.pair (Rep.int .i64) (Rep.int .i64))) (Rep.int .i64)))))) :)
                  refine Cov.reval 89 (n' := ([((u20501.1, u20501.2.1, u20501.2.2.1, u20501.2.2.2), (u16490.1.1, u16490.1.2.1, u16490.1.2.2), u20505)] : List ((Int × Int × Int × Int) × (Int × Int × Int) × Int)).length) rfl rfl ?_
                  refine Cov.clsL (HpLe.refl _) (pick_mem [0, 1] rfl) ?_
                  refine Cov.appO (Q := (Rep.pair (Rep.pair (Rep.int .i64) (Rep.pair (Rep.int .i64) (Rep.pair (Rep.int .i64) (Rep.int .i64)))) (Rep.pair (Rep.pair (Rep.int .i64) (Rep.pair (Rep.int .i64) (Rep.int .i64))) (Rep.int .i64)))) 0 .d1 sl39 ty35 rfl rfl rfl rfl rfl rfl o16455 o20536 rfl rfl rfl B0 hu20515 rfl (fun a20538 k20539 cs20540 o20541 => ?_)
                  refine Cov.clsL (HpLe.refl _) (pick_mem [0, 1] rfl) ?_
                  refine Cov.dq (.assign rfl) rfl ?_
                  refine Cov.draw_end ?_
                  refine Cov.prune [(8, _), (9, _), (4, _), (1, _)] ⟨rfl, rfl, rfl, rfl, trivial⟩ ?_
                  refine Cov.inBlock ?_
                  refine Cov.region rfl ?_
                  refine Cov.q .ro (.move rfl) rfl ?_
                  refine Cov.q .ro (.addw rfl rfl) rfl ?_
                  refine Cov.q .ro (.assign rfl) rfl ?_
                  refine Cov.region_end ?_
                  refine Cov.drop 1 0 [_] _ rfl rfl ?_
                  refine Cov.prune _ ?_ (Cov.same rfl rfl rfl (hb16459 (m16472, u20515, a20538, k20539, cs20540, (w64 (v16457 + 1))) ⟨o20541, r20519⟩ (Nat.lt_succ_self _)))
                  exact ⟨rfl, rfl, rfl, rfl, trivial⟩
              · refine Cov.callS (b1 := []) (b2 := [_, _]) (s1 := []) [_, _] [] .d1 rfl rfl Try.call15 rfl rfl (ref28_Sum_c (G := G) List.mem_cons_self  hu20505) rfl (fun v20544 bo so h20543 => ?_)
                obtain ⟨rfl, rfl, rfl⟩ := h20543
                refine Cov.same (bl' := [_, _]) (sl' := [_, _]) rfl rfl rfl ?_
                refine Cov.clsL (HpLe.refl _) (pick_mem [0, 1] rfl) ?_
                obtain ⟨c20545, p20546, h20547⟩ := OL.get o277 hu20501
                obtain ⟨_, _, rfl, rfl, _, _, rfl, rfl, _, _, rfl, rfl, rfl⟩ := h20547
                refine Cov.q .d1 (.idxO 1 rfl rfl rfl hu20501 sl53 ty33.sz) rfl ?_
                refine Cov.clsL (HpLe.refl _) (pick_mem [0, 1] rfl) ?_
                refine Cov.q .d1 (.loadO_a 1 0 [_, _, _, _] rfl hu20501 p20546 rfl (.inl ⟨rfl, rfl⟩) ty33 rfl) rfl ?_
                refine Cov.clsL (HpLe.refl _) (pick_mem [0, 1] rfl) ?_
                refine Cov.dq (.build [_, _, _, _, _, _, _, _] [(0, _), (1, _), (2, _)] ty35 pl35 rfl rfl) rfl ?_
                refine Cov.lit [_, _, _, _, _, _, _, _] [(0, _)] .d1 sl39 ty35 rfl rfl rfl rfl rfl rfl (fun b20548 hb20548 => ?_)
                have o20549 : OL (Rep.pair (Rep.pair (Rep.int .i64) (Rep.pair (Rep.int .i64) (Rep.pair (Rep.int .i64) (Rep.int .i64)))) (Rep.pair (Rep.pair (Rep.int .i64) (Rep.pair (Rep.int .i64) (Rep.int .i64))) (Rep.int .i64))) G [.int .i64 u20501.1, .int .i64 u20501.2.1, .int .i64 u20501.2.2.1, .int .i64 u20501.2.2.2, .int .i64 u16490.1.1, .int .i64 u16490.1.2.1, .int .i64 u16490.1.2.2, .int .i64 u20505] ([((u20501.1, u20501.2.1, u20501.2.2.1, u20501.2.2.2), (u16490.1.1, u16490.1.2.1, u16490.1.2.2), u20505)] : List ((Int × Int × Int × Int) × (Int × Int × Int) × Int)) := ((OL.cons rfl (Rep.pairI (Rep.pairI (Rep.intI .i64 u20501.1) (Rep.pairI (Rep.intI .i64 u20501.2.1) (Rep.pairI (Rep.intI .i64 u20501.2.2.1) (Rep.intI .i64 u20501.2.2.2)))) (Rep.pairI (Rep.pairI (Rep.intI .i64 u16490.1.1) (Rep.pairI (Rep.intI .i64 u16490.1.2.1) (Rep.intI .i64 u16490.1.2.2))) (Rep.intI .i64 u20505))) (OL.nil (Rp' := (Rep.pair (Rep.pair (Rep.int .i64) (Rep.pair (Rep.int .i64) (Rep.pair (Rep.int .i64) (Rep.int .i64)))) (Rep.pair (Rep.pair (Rep.int .i64) (Rep.pair (Rep.int .i64) (Rep.int .i64))) (Rep.int .i64)))))) :)
                refine Cov.reval 89 (n' := ([((u20501.1, u20501.2.1, u20501.2.2.1, u20501.2.2.2), (u16490.1.1, u16490.1.2.1, u16490.1.2.2), u20505)] : List ((Int × Int × Int × Int) × (Int × Int × Int) × Int)).length) rfl rfl ?_
                refine Cov.clsL (HpLe.refl _) (pick_mem [0, 1] rfl) ?_
                refine Cov.appO (Q := (Rep.pair (Rep.pair (Rep.int .i64) (Rep.pair (Rep.int .i64) (Rep.pair (Rep.int .i64) (Rep.int .i64)))) (Rep.pair (Rep.pair (Rep.int .i64) (Rep.pair (Rep.int .i64) (Rep.int .i64))) (Rep.int .i64)))) 0 .d1 sl39 ty35 rfl rfl rfl rfl rfl rfl o16455 o20549 rfl rfl rfl B0 hu20515 rfl (fun a20551 k20552 cs20553 o20554 => ?_)
                refine Cov.clsL (HpLe.refl _) (pick_mem [0, 1] rfl) ?_
                refine Cov.dq (.assign rfl) rfl ?_
                refine Cov.draw_end ?_
                refine Cov.prune [(8, _), (9, _), (4, _), (1, _)] ⟨rfl, rfl, rfl, rfl, trivial⟩ ?_
                refine Cov.inBlock ?_
                refine Cov.region rfl ?_
                refine Cov.q .ro (.move rfl) rfl ?_
                refine Cov.q .ro (.addw rfl rfl) rfl ?_
                refine Cov.q .ro (.assign rfl) rfl ?_
                refine Cov.region_end ?_
                refine Cov.drop 1 0 [_] _ rfl rfl ?_
                refine Cov.prune _ ?_ (Cov.same rfl rfl rfl (hb16459 (m16472, u20515, a20551, k20552, cs20553, (w64 (v16457 + 1))) ⟨o20554, r20519⟩ (Nat.lt_succ_self _)))
                exact ⟨rfl, rfl, rfl, rfl, trivial⟩
          · have r24535 := ifBF r16481 c16484; clear r16481
            refine Cov.skip ?_
            refine Cov.inBlock ?_
            refine Cov.region rfl ?_
            refine Cov.q .ro (.move rfl) rfl ?_
            refine Cov.q .ro (.addw rfl rfl) rfl ?_
            refine Cov.q .ro (.assign rfl) rfl ?_
            refine Cov.region_end ?_
            refine Cov.prune _ ?_ (Cov.same rfl rfl rfl (hb16459 (m16472, v16451, a16452, k16453, cs16454, (w64 (v16457 + 1))) ⟨o16455, r24535⟩ (Nat.lt_succ_self _)))
            exact ⟨rfl, rfl, rfl, rfl, trivial⟩
        · have r24536 := ifF r16471 c16473; clear r16471
          refine Cov.exit rfl ?_
          refine Cov.seq ?_
          refine Cov.region rfl ?_
          refine Cov.q .ro (.move rfl) rfl ?_
          refine Cov.q .ro (.assign rfl) rfl ?_
          refine Cov.q .ro (.assign rfl) rfl ?_
          refine Cov.region_end ?_
          cases r24536
          refine Cov.drop 1 0 [] _ rfl rfl ?_
          refine Cov.pullS 1 rfl [_, _] rfl ?_
          refine Cov.drop 0 1 _ [_] rfl rfl ?_
          refine Cov.retS (c := ⟨24, none⟩) (.inr ⟨_, rfl⟩) [.tmp 2, .tmp 3] [_, _] rfl Try.func24 Try.results24 ⟨RV.tmp rfl, RV.tmp rfl, trivial⟩ (fun _ h => List.mem_cons_of_mem _ h) ⟨a16452, k16453, cs16454, rfl, rfl, rfl, o16455⟩
      · intro hb24537
        refine Cov.block ?_
        refine Cov.loop2 (α := Nat × (List (Int × Int × Int × Int)) × Option Addr × Nat × List Value × Int × Int × Int × Int × Int × Int × Int × Int × Int × Int × Int) (fun y => [(4, .slice y.2.2.1 y.2.1.length y.2.2.2.1), (6, .int .i64 y.2.2.2.2.2.1)]) [(1, _)] (fun y => []) (fun y => [(b1, .cells #[.int .i64 y.2.2.2.2.2.2.1, .int .i64 y.2.2.2.2.2.2.2.1, .int .i64 y.2.2.2.2.2.2.2.2.1, .int .i64 y.2.2.2.2.2.2.2.2.2.1, .int .i64 y.2.2.2.2.2.2.2.2.2.2.1, .int .i64 y.2.2.2.2.2.2.2.2.2.2.2.1, .int .i64 y.2.2.2.2.2.2.2.2.2.2.2.2.1, .int .i64 y.2.2.2.2.2.2.2.2.2.2.2.2.2.1, .int .i64 y.2.2.2.2.2.2.2.2.2.2.2.2.2.2.1, .int .i64 y.2.2.2.2.2.2.2.2.2.2.2.2.2.2.2] 29 (0, 0))]) [] (fun y => [.s (.slice y.2.2.1 y.2.1.length y.2.2.2.1) 33 4 y.2.1.length y.2.2.2.2.1]) [] (fun y => OL (Rep.pair (Rep.int .i64) (Rep.pair (Rep.int .i64) (Rep.pair (Rep.int .i64) (Rep.int .i64)))) G y.2.2.2.2.1 y.2.1 ∧ ref29_Candidates_L4 ref29_Candidates_J2 y.1 y.2.1 y.2.2.2.2.2.1 y.2.2.2.2.2.2.1 y.2.2.2.2.2.2.2.1 y.2.2.2.2.2.2.2.2.1 y.2.2.2.2.2.2.2.2.2.1 y.2.2.2.2.2.2.2.2.2.2.1 y.2.2.2.2.2.2.2.2.2.2.2.1 y.2.2.2.2.2.2.2.2.2.2.2.2.1 y.2.2.2.2.2.2.2.2.2.2.2.2.2.1 y.2.2.2.2.2.2.2.2.2.2.2.2.2.2.1 y.2.2.2.2.2.2.2.2.2.2.2.2.2.2.2 = some r) (fun y => y.1) (big, v78, a79, k80, cs81, 1, v84, v85, v86, v87, v88, v89, v90, v91, v92, v93) ⟨o82, r95⟩ ⟨rfl, rfl, rfl, trivial⟩ rfl rfl rfl (fun y hI hb24643 => ?_)
        obtain ⟨n24623, v24625, a24626, k24627, cs24628, v24631, v24632, v24633, v24634, v24635, v24636, v24637, v24638, v24639, v24640, v24641⟩ := y
        obtain ⟨o24629, r24642⟩ := hI
        try dsimp only at o24629 r24642
        refine Cov.prune [(4, .slice a24626 v24625.length k24627), (6, .int .i64 v24631), (1, _)] ⟨rfl, rfl, rfl, trivial⟩ ?_
        refine Cov.same (bl' := [(b1, .cells #[.int .i64 v24632, .int .i64 v24633, .int .i64 v24634, .int .i64 v24635, .int .i64 v24636, .int .i64 v24637, .int .i64 v24638, .int .i64 v24639, .int .i64 v24640, .int .i64 v24641] 29 (0, 0))]) (sl' := [.s (.slice a24626 v24625.length k24627) 33 4 v24625.length cs24628]) (Fs' := G :: Fs) rfl rfl rfl ?_
        obtain ⟨m24645, rfl⟩ : ∃ m, n24623 = m + 1 := by cases n24623 with | zero => exact absurd (show (none : Option _) = some _ from r24642) (by simp) | succ m => exact ⟨m, rfl⟩
        have r24644 : ref29_Candidates_B4 ref29_Candidates_J2 (ref29_Candidates_L4 ref29_Candidates_J2 m24645) v24625 v24631 v24632 v24633 v24634 v24635 v24636 v24637 v24638 v24639 v24640 v24641 = some r := r24642; clear r24642; unfold ref29_Candidates_B4 at r24644; try dsimp only at r24644
        refine Cov.seq ?_
        refine Cov.seq ?_
        refine Cov.region rfl ?_
        refine Cov.q .ro (.move rfl) rfl ?_
        refine Cov.q .ro (.fieldAddr 0 rfl fl29_0 ty3.sz rfl) rfl ?_
        refine Cov.q .ro (.load_own 0 rfl rfl ty3 rfl) rfl ?_
        refine Cov.q .ro (.leq rfl rfl) rfl ?_
        refine Cov.region_end ?_
        refine Cov.cond_dec rfl (fun c24646 => ?_) (fun c24646 => ?_)
        · have r24647 := ifT r24644 c24646; clear r24644
          refine Cov.skip ?_
          refine Cov.seq ?_
          refine Cov.block ?_
          refine Cov.seq ?_
          refine Cov.region rfl ?_
          refine Cov.q .ro (.assign rfl) rfl ?_
          refine Cov.region_end ?_
          refine Cov.block ?_
          refine Cov.loop2 (α := Nat × (List (Int × Int × Int × Int)) × Option Addr × Nat × List Value × Int) (fun y => [(4, .slice y.2.2.1 y.2.1.length y.2.2.2.1), (7, .int .i64 y.2.2.2.2.2)]) [(6, _), (1, _)] (fun y => []) (fun y => []) [_] (fun y => [.s (.slice y.2.2.1 y.2.1.length y.2.2.2.1) 33 4 y.2.1.length y.2.2.2.2.1]) [] (fun y => OL (Rep.pair (Rep.int .i64) (Rep.pair (Rep.int .i64) (Rep.pair (Rep.int .i64) (Rep.int .i64)))) G y.2.2.2.2.1 y.2.1 ∧ ref29_Candidates_L3 (ref29_Candidates_L4 ref29_Candidates_J2 m24645) v24631 v24632 v24633 v24634 v24635 v24636 v24637 v24638 v24639 v24640 v24641 y.1 y.2.1 y.2.2.2.2.2 = some r) (fun y => y.1) (big, v24625, a24626, k24627, cs24628, 1) ⟨o24629, r24647⟩ ⟨rfl, rfl, rfl, rfl, trivial⟩ rfl rfl rfl (fun y hI hb24687 => ?_)
          obtain ⟨n24677, v24679, a24680, k24681, cs24682, v24685⟩ := y
          obtain ⟨o24683, r24686⟩ := hI
          try dsimp only at o24683 r24686
          refine Cov.prune [(4, .slice a24680 v24679.length k24681), (7, .int .i64 v24685), (6, _), (1, _)] ⟨rfl, rfl, rfl, rfl, trivial⟩ ?_
          refine Cov.same (bl' := [_]) (sl' := [.s (.slice a24680 v24679.length k24681) 33 4 v24679.length cs24682]) (Fs' := G :: Fs) rfl rfl rfl ?_
          obtain ⟨m24700, rfl⟩ : ∃ m, n24677 = m + 1 := by cases n24677 with | zero => exact absurd (show (none : Option _) = some _ from r24686) (by simp) | succ m => exact ⟨m, rfl⟩
          have r24699 : ref29_Candidates_B3 (ref29_Candidates_L4 ref29_Candidates_J2 m24645) v24631 v24632 v24633 v24634 v24635 v24636 v24637 v24638 v24639 v24640 v24641 (ref29_Candidates_L3 (ref29_Candidates_L4 ref29_Candidates_J2 m24645) v24631 v24632 v24633 v24634 v24635 v24636 v24637 v24638 v24639 v24640 v24641 m24700) v24679 v24685 = some r := r24686; clear r24686; unfold ref29_Candidates_B3 at r24699; try dsimp only at r24699
          refine Cov.seq ?_
          refine Cov.seq ?_
          refine Cov.region rfl ?_
          refine Cov.q .ro (.move rfl) rfl ?_
          refine Cov.q .ro (.fieldAddr 0 rfl fl29_0 ty3.sz rfl) rfl ?_
          refine Cov.q .ro (.load_own 0 rfl rfl ty3 rfl) rfl ?_
          refine Cov.q .ro (.leq rfl rfl) rfl ?_
          refine Cov.region_end ?_
          refine Cov.cond_dec rfl (fun c24701 => ?_) (fun c24701 => ?_)
          · have r24702 := ifT r24699 c24701; clear r24699
            refine Cov.skip ?_
            refine Cov.seq ?_
            refine Cov.block ?_
            refine Cov.region rfl ?_
            refine Cov.q .ro (.move rfl) rfl ?_
            refine Cov.q .ro (.fieldAddr 0 rfl fl29_0 ty3.sz rfl) rfl ?_
            refine Cov.q .ro (.load_own 0 rfl rfl ty3 rfl) rfl ?_
            refine Cov.q .ro (.move rfl) rfl ?_
            refine Cov.q .ro (.move rfl) rfl ?_
            refine Cov.q .ro (.build [_, _, _, _] [(0, _), (1, _), (2, _), (3, _)] ty33 pl33 rfl rfl) rfl ?_
            refine Cov.lit [_, _, _, _] [(0, _)] .ro sl53 ty33 rfl rfl rfl rfl rfl rfl (fun b24703 hb24703 => ?_)
            have o24704 : OL (Rep.pair (Rep.int .i64) (Rep.pair (Rep.int .i64) (Rep.pair (Rep.int .i64) (Rep.int .i64)))) G [.int .i64 3, .int .i64 v24632, .int .i64 v24685, .int .i64 v24631] ([(3, v24632, v24685, v24631)] : List (Int × Int × Int × Int)) := ((OL.cons rfl (Rep.pairI (Rep.intI .i64 3) (Rep.pairI (Rep.intI .i64 v24632) (Rep.pairI (Rep.intI .i64 v24685) (Rep.intI .i64 v24631)))) (OL.nil (Rp' := (Rep.pair (Rep.int .i64) (Rep.pair (Rep.int .i64) (Rep.pair (Rep.int .i64) (Rep.int .i64))))))) :)
            refine Cov.reval 50 (n' := ([(3, v24632, v24685, v24631)] : List (Int × Int × Int × Int)).length) rfl rfl ?_
            obtain ⟨u24710, hu24710, r24711⟩ := bind_some r24702; clear r24702
            refine Cov.appO (Q := (Rep.pair (Rep.int .i64) (Rep.pair (Rep.int .i64) (Rep.pair (Rep.int .i64) (Rep.int .i64))))) 0 .ro sl53 ty33 rfl rfl rfl rfl rfl rfl o24683 o24704 rfl rfl rfl B0 hu24710 rfl (fun a24706 k24707 cs24708 o24709 => ?_)
            refine Cov.q .ro (.assign rfl) rfl ?_
            refine Cov.region_end ?_
            refine Cov.inBlock ?_
            refine Cov.region rfl ?_
            refine Cov.q .ro (.move rfl) rfl ?_
            refine Cov.q .ro (.addw rfl rfl) rfl ?_
            refine Cov.q .ro (.assign rfl) rfl ?_
            refine Cov.region_end ?_
            refine Cov.prune [(4, _), (7, _), (6, _), (1, _)] ⟨rfl, rfl, rfl, rfl, trivial⟩ ?_
            refine Cov.prune _ ?_ (Cov.same rfl rfl rfl (hb24687 (m24700, u24710, a24706, k24707, cs24708, (w64 (v24685 + 1))) ⟨o24709, r24711⟩ (Nat.lt_succ_self _)))
            exact ⟨rfl, rfl, rfl, rfl, trivial⟩
          · have r24713 := ifF r24699 c24701; clear r24699
            refine Cov.exit rfl ?_
            refine Cov.inBlock ?_
            refine Cov.region rfl ?_
            refine Cov.q .ro (.move rfl) rfl ?_
            refine Cov.q .ro (.addw rfl rfl) rfl ?_
            refine Cov.q .ro (.assign rfl) rfl ?_
            refine Cov.region_end ?_
            refine Cov.prune _ ?_ (Cov.same rfl rfl rfl (hb24643 (m24645, v24679, a24680, k24681, cs24682, (w64 (v24631 + 1)), v24632, v24633, v24634, v24635, v24636, v24637, v24638, v24639, v24640, v24641) ⟨o24683, r24713⟩ (Nat.lt_succ_self _)))
            exact ⟨rfl, rfl, rfl, trivial⟩
        · have r24714 := ifF r24644 c24646; clear r24644
          refine Cov.exit rfl ?_
          refine Cov.prune _ ?_ (Cov.same rfl rfl rfl (hb24537 (v24625, a24626, k24627, cs24628, v24632, v24633, v24634, v24635, v24636, v24637, v24638, v24639, v24640, v24641) ⟨o24629, r24714⟩))
          exact ⟨rfl, rfl, trivial⟩
    · intro hb24715
      refine Cov.block ?_
      refine Cov.loop2 (α := Nat × (List (Int × Int × Int × Int)) × Option Addr × Nat × List Value × Int) (fun y => [(4, .slice y.2.2.1 y.2.1.length y.2.2.2.1), (5, .int .i64 y.2.2.2.2.2)]) [(1, _)] (fun y => []) (fun y => []) [_] (fun y => [.s (.slice y.2.2.1 y.2.1.length y.2.2.2.1) 33 4 y.2.1.length y.2.2.2.2.1]) [] (fun y => OL (Rep.pair (Rep.int .i64) (Rep.pair (Rep.int .i64) (Rep.pair (Rep.int .i64) (Rep.int .i64)))) G y.2.2.2.2.1 y.2.1 ∧ ref29_Candidates_L6 ref29_Candidates_J5 x0_0 x0_1 x0_2 x0_3 x0_4 x0_5 x0_6 x0_7 x0_8 x0_9 y.1 y.2.1 y.2.2.2.2.2 = some r) (fun y => y.1) (big, ([(1, x0_0, 0, 0)] : List (Int × Int × Int × Int)), (some ⟨b10, 0, none⟩), 1, [.int .i64 1, .int .i64 x0_0, .int .i64 0, .int .i64 0], 1) ⟨o11, r9⟩ ⟨rfl, rfl, rfl, trivial⟩ rfl rfl rfl (fun y hI hb24755 => ?_)
      obtain ⟨n24745, v24747, a24748, k24749, cs24750, v24753⟩ := y
      obtain ⟨o24751, r24754⟩ := hI
      try dsimp only at o24751 r24754
      refine Cov.prune [(4, .slice a24748 v24747.length k24749), (5, .int .i64 v24753), (1, _)] ⟨rfl, rfl, rfl, trivial⟩ ?_
      refine Cov.same (bl' := [_]) (sl' := [.s (.slice a24748 v24747.length k24749) 33 4 v24747.length cs24750]) (Fs' := G :: Fs) rfl rfl rfl ?_
      obtain ⟨m24767, rfl⟩ : ∃ m, n24745 = m + 1 := by cases n24745 with | zero => exact absurd (show (none : Option _) = some _ from r24754) (by simp) | succ m => exact ⟨m, rfl⟩
      have r24766 : ref29_Candidates_B6 ref29_Candidates_J5 x0_0 x0_1 x0_2 x0_3 x0_4 x0_5 x0_6 x0_7 x0_8 x0_9 (ref29_Candidates_L6 ref29_Candidates_J5 x0_0 x0_1 x0_2 x0_3 x0_4 x0_5 x0_6 x0_7 x0_8 x0_9 m24767) v24747 v24753 = some r := r24754; clear r24754; unfold ref29_Candidates_B6 at r24766; try dsimp only at r24766
      refine Cov.seq ?_
      refine Cov.seq ?_
      refine Cov.region rfl ?_
      refine Cov.q .ro (.move rfl) rfl ?_
      refine Cov.q .ro (.fieldAddr 0 rfl fl29_0 ty3.sz rfl) rfl ?_
      refine Cov.q .ro (.load_own 0 rfl rfl ty3 rfl) rfl ?_
      refine Cov.q .ro (.lss rfl rfl) rfl ?_
      refine Cov.region_end ?_
      refine Cov.cond_dec rfl (fun c24768 => ?_) (fun c24768 => ?_)
      · have r24769 := ifT r24766 c24768; clear r24766
        refine Cov.skip ?_
        refine Cov.seq ?_
        refine Cov.block ?_
        refine Cov.region rfl ?_
        refine Cov.q .ro (.move rfl) rfl ?_
        refine Cov.q .ro (.fieldAddr 0 rfl fl29_0 ty3.sz rfl) rfl ?_
        refine Cov.q .ro (.load_own 0 rfl rfl ty3 rfl) rfl ?_
        refine Cov.q .ro (.move rfl) rfl ?_
        refine Cov.q .ro (.build [_, _, _, _] [(0, _), (1, _), (2, _)] ty33 pl33 rfl rfl) rfl ?_
        refine Cov.lit [_, _, _, _] [(0, _)] .ro sl53 ty33 rfl rfl rfl rfl rfl rfl (fun b24770 hb24770 => ?_)
        have o24771 : OL (Rep.pair (Rep.int .i64) (Rep.pair (Rep.int .i64) (Rep.pair (Rep.int .i64) (Rep.int .i64)))) G [.int .i64 2, .int .i64 x0_0, .int .i64 v24753, .int .i64 0] ([(2, x0_0, v24753, 0)] : List (Int × Int × Int × Int)) := ((OL.cons rfl (Rep.pairI (Rep.intI .i64 2) (Rep.pairI (Rep.intI .i64 x0_0) (Rep.pairI (Rep.intI .i64 v24753) (Rep.intI .i64 0)))) (OL.nil (Rp' := (Rep.pair (Rep.int .i64) (Rep.pair (Rep.int .i64) (Rep.pair (Rep.int .i64) (Rep.int .i64))))))) :)
        refine Cov.reval 30 (n' := ([(2, x0_0, v24753, 0)] : List (Int × Int × Int × Int)).length) rfl rfl ?_
        obtain ⟨u24777, hu24777, r24778⟩ := bind_some r24769; clear r24769
        refine Cov.appO (Q := (Rep.pair (Rep.int .i64) (Rep.pair (Rep.int .i64) (Rep.pair (Rep.int .i64) (Rep.int .i64))))) 0 .ro sl53 ty33 rfl rfl rfl rfl rfl rfl o24751 o24771 rfl rfl rfl B0 hu24777 rfl (fun a24773 k24774 cs24775 o24776 => ?_)
        refine Cov.q .ro (.assign rfl) rfl ?_
        refine Cov.region_end ?_
        refine Cov.inBlock ?_
        refine Cov.region rfl ?_
        refine Cov.q .ro (.move rfl) rfl ?_
        refine Cov.q .ro (.addw rfl rfl) rfl ?_
        refine Cov.q .ro (.assign rfl) rfl ?_
        refine Cov.region_end ?_
        refine Cov.prune [(4, _), (5, _), (1, _)] ⟨rfl, rfl, rfl, trivial⟩ ?_
        refine Cov.prune _ ?_ (Cov.same rfl rfl rfl (hb24755 (m24767, u24777, a24773, k24774, cs24775, (w64 (v24753 + 1))) ⟨o24776, r24778⟩ (Nat.lt_succ_self _)))
        exact ⟨rfl, rfl, rfl, trivial⟩
      · have r24780 := ifF r24766 c24768; clear r24766
        refine Cov.exit rfl ?_
        refine Cov.prune _ ?_ (Cov.same rfl rfl rfl (hb24715 (v24747, a24748, k24749, cs24750, x0_0, x0_1, x0_2, x0_3, x0_4, x0_5, x0_6, x0_7, x0_8, x0_9) ⟨o24751, r24780⟩))
        exact ⟨rfl, rfl, trivial⟩

set_option maxHeartbeats 4000000 in
theorem ref29_Better_c {Fs : List Hp} {G : Hp} {x0_0 : Int} {x0_1 : Int} {x0_2 : Int} {x0_3 : Int} {x0_4 : Int} {x0_5 : Int} {x0_6 : Int} {x0_7 : Int} {x1_0 : Int} {x1_1 : Int} {x1_2 : Int} {x1_3 : Int} {x1_4 : Int} {x1_5 : Int} {x1_6 : Int} {x1_7 : Int} {r : Bool} (hG : G ∈ Fs)  (h : ref29_Better ((x0_0, x0_1, x0_2, x0_3), (x0_4, x0_5, x0_6), x0_7) ((x1_0, x1_1, x1_2, x1_3), (x1_4, x1_5, x1_6), x1_7) = some r) : RetS Try.prog 29 #[.agg #[.int .i64 x0_0, .int .i64 x0_1, .int .i64 x0_2, .int .i64 x0_3, .int .i64 x0_4, .int .i64 x0_5, .int .i64 x0_6, .int .i64 x0_7], .agg #[.int .i64 x1_0, .int .i64 x1_1, .int .i64 x1_2, .int .i64 x1_3, .int .i64 x1_4, .int .i64 x1_5, .int .i64 x1_6, .int .i64 x1_7]] Fs [] [] (fun v bo so => v = .bool r ∧ bo = [] ∧ so = []) := by
  unfold ref29_Better at h
  try dsimp only at h
  refine RetS.of (vs := [_, _]) Try.func29 rfl Try.ntmps29 [(0, _), (1, _)] ⟨rfl, rfl, trivial⟩ rfl hG fun w0 S0 hS0 B0 => ?_
  refine Cov.seq ?_
  refine Cov.region rfl ?_
  refine Cov.box [_, _, _, _, _, _, _, _] .ro rfl rfl rfl (fun b1 hb1 => ?_)
  refine Cov.box [_, _, _, _, _, _, _, _] .ro rfl rfl rfl (fun b2 hb2 => ?_)
  refine Cov.q .ro (.assign rfl) rfl ?_
  refine Cov.region_end ?_
  refine Cov.seq ?_
  refine Cov.region rfl ?_
  refine Cov.q .ro (.fieldAddr 7 rfl fl35_2 ty3.sz rfl) rfl ?_
  refine Cov.q .ro (.load_own 1 rfl rfl ty3 rfl) rfl ?_
  refine Cov.q .ro (.fieldAddr 7 rfl fl35_2 ty3.sz rfl) rfl ?_
  refine Cov.q .ro (.load_own 0 rfl rfl ty3 rfl) rfl ?_
  refine Cov.q .ro (.lss rfl rfl) rfl ?_
  refine Cov.q .ro (.assign rfl) rfl ?_
  refine Cov.region_end ?_
  cases h
  refine Cov.drop 2 0 [] _ rfl rfl ?_
  refine Cov.retS (c := ⟨29, none⟩) (.inr ⟨_, rfl⟩) [.tmp 4] [_] rfl Try.func29 Try.results29 ⟨RV.tmp rfl, trivial⟩ (fun _ h => List.mem_cons_of_mem _ h) ⟨rfl, rfl, rfl⟩

end Go.Proofs.Ytmjidoadjinhgaa
