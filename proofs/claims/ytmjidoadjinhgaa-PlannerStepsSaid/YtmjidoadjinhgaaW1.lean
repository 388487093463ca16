/- The walks. Printed by wip/lift/drive.py. -/
import Derived.Test.YtmjidoadjinhgaaS
import Derived.Test.YtmjidoadjinhgaaL11
import Derived.Test.YtmjidoadjinhgaaRows
namespace Go.Proofs.Ytmjidoadjinhgaa
open Go.RowKit
set_option linter.unusedSimpArgs false
set_option linter.unusedVariables false
set_option synthInstance.maxSize 2000
set_option synthInstance.maxHeartbeats 400000

theorem ty3 : TyI Try.prog 3 false 1 8 [.int .i64 0] := ⟨by kernel_rfl, by kernel_rfl, by kernel_rfl, by kernel_rfl⟩
theorem ty5 : TyI Try.prog 5 false 1 1 [.int .u8 0] := ⟨by kernel_rfl, by kernel_rfl, by kernel_rfl, by kernel_rfl⟩
theorem ty22 : TyI Try.prog 22 false 1 24 [.slice none 0 0] := ⟨by kernel_rfl, by kernel_rfl, by kernel_rfl, by kernel_rfl⟩
theorem ty27 : TyI Try.prog 27 true 3 24 [.int .i64 0, .int .i64 0, .int .i64 0] := ⟨by kernel_rfl, by kernel_rfl, by kernel_rfl, by kernel_rfl⟩
theorem ty29 : TyI Try.prog 29 true 10 80 [.int .i64 0, .int .i64 0, .int .i64 0, .int .i64 0, .int .i64 0, .int .i64 0, .int .i64 0, .int .i64 0, .int .i64 0, .int .i64 0] := ⟨by kernel_rfl, by kernel_rfl, by kernel_rfl, by kernel_rfl⟩
theorem ty33 : TyI Try.prog 33 true 4 32 [.int .i64 0, .int .i64 0, .int .i64 0, .int .i64 0] := ⟨by kernel_rfl, by kernel_rfl, by kernel_rfl, by kernel_rfl⟩
theorem ty35 : TyI Try.prog 35 true 8 64 [.int .i64 0, .int .i64 0, .int .i64 0, .int .i64 0, .int .i64 0, .int .i64 0, .int .i64 0, .int .i64 0] := ⟨by kernel_rfl, by kernel_rfl, by kernel_rfl, by kernel_rfl⟩
theorem ty39 : TyI Try.prog 39 false 1 24 [.slice none 0 0] := ⟨by kernel_rfl, by kernel_rfl, by kernel_rfl, by kernel_rfl⟩
theorem ty58 : TyI Try.prog 58 true 2 32 [.slice none 0 0, .int .i64 0] := ⟨by kernel_rfl, by kernel_rfl, by kernel_rfl, by kernel_rfl⟩
theorem ty60 : TyI Try.prog 60 true 3 24 [.int .i64 0, .int .i64 0, .int .i64 0] := ⟨by kernel_rfl, by kernel_rfl, by kernel_rfl, by kernel_rfl⟩
theorem ty74 : TyI Try.prog 74 true 3 24 [.int .i64 0, .int .i64 0, .int .i64 0] := ⟨by kernel_rfl, by kernel_rfl, by kernel_rfl, by kernel_rfl⟩
theorem fl27_0 : fldOf Try.prog 27 0 = some (0, 3) := by kernel_rfl
theorem fl27_1 : fldOf Try.prog 27 1 = some (1, 3) := by kernel_rfl
theorem fl27_2 : fldOf Try.prog 27 2 = some (2, 3) := by kernel_rfl
theorem fl29_0 : fldOf Try.prog 29 0 = some (0, 3) := by kernel_rfl
theorem fl29_1 : fldOf Try.prog 29 1 = some (1, 3) := by kernel_rfl
theorem fl29_2 : fldOf Try.prog 29 2 = some (2, 3) := by kernel_rfl
theorem fl29_3 : fldOf Try.prog 29 3 = some (3, 3) := by kernel_rfl
theorem fl29_4 : fldOf Try.prog 29 4 = some (4, 3) := by kernel_rfl
theorem fl29_5 : fldOf Try.prog 29 5 = some (5, 3) := by kernel_rfl
theorem fl29_6 : fldOf Try.prog 29 6 = some (6, 3) := by kernel_rfl
theorem fl29_7 : fldOf Try.prog 29 7 = some (7, 27) := by kernel_rfl
theorem fl33_0 : fldOf Try.prog 33 0 = some (0, 3) := by kernel_rfl
theorem fl33_1 : fldOf Try.prog 33 1 = some (1, 3) := by kernel_rfl
theorem fl33_2 : fldOf Try.prog 33 2 = some (2, 3) := by kernel_rfl
theorem fl33_3 : fldOf Try.prog 33 3 = some (3, 3) := by kernel_rfl
theorem fl35_0 : fldOf Try.prog 35 0 = some (0, 33) := by kernel_rfl
theorem fl35_1 : fldOf Try.prog 35 1 = some (4, 27) := by kernel_rfl
theorem fl35_2 : fldOf Try.prog 35 2 = some (7, 3) := by kernel_rfl
theorem fl58_0 : fldOf Try.prog 58 0 = some (0, 22) := by kernel_rfl
theorem fl58_1 : fldOf Try.prog 58 1 = some (1, 3) := by kernel_rfl
theorem fl73_2 : fldOf Try.prog 73 2 = some (2, 3) := by kernel_rfl
theorem pl27 : plOf Try.prog 27 = some [(0, 1), (1, 1), (2, 1)] := by kernel_rfl
theorem pl29 : plOf Try.prog 29 = some [(0, 1), (1, 1), (2, 1), (3, 1), (4, 1), (5, 1), (6, 1), (7, 3)] := by kernel_rfl
theorem pl33 : plOf Try.prog 33 = some [(0, 1), (1, 1), (2, 1), (3, 1)] := by kernel_rfl
theorem pl35 : plOf Try.prog 35 = some [(0, 4), (4, 3), (7, 1)] := by kernel_rfl
theorem pl58 : plOf Try.prog 58 = some [(0, 1), (1, 1)] := by kernel_rfl
theorem pl74 : plOf Try.prog 74 = some [(0, 1), (1, 1), (2, 1)] := by kernel_rfl
theorem sl22 : slOf Try.prog 22 = some 5 := by kernel_rfl
theorem sl39 : slOf Try.prog 39 = some 35 := by kernel_rfl
theorem sl52 : slOf Try.prog 52 = some 29 := by kernel_rfl
theorem sl53 : slOf Try.prog 53 = some 33 := by kernel_rfl
theorem sl59 : slOf Try.prog 59 = some 3 := by kernel_rfl
theorem ar60 : arOf Try.prog 60 = some (3, 3) := by kernel_rfl

set_option maxHeartbeats 4000000 in
theorem planner_within_c {Fs : List Hp} {G : Hp} {x0 : Int} {x1 : Int} {x2 : Int} {r : Bool} (hG : G ∈ Fs)  (h : planner_within x0 x1 x2 = some r) : RetS Try.prog 30 #[.int .i64 x0, .int .i64 x1, .int .i64 x2] Fs [] [] (fun v bo so => v = .bool r ∧ bo = [] ∧ so = []) := by
  unfold planner_within at h
  try dsimp only at h
  refine RetS.of (vs := [_, _, _]) Try.func30 rfl Try.ntmps30 [(0, _), (1, _), (2, _)] ⟨rfl, rfl, rfl, trivial⟩ rfl hG fun w0 S0 hS0 B0 => ?_
  refine Cov.seq ?_
  refine Cov.region rfl ?_
  refine Cov.q .ro (.assign rfl) rfl ?_
  refine Cov.region_end ?_
  refine Cov.seq ?_
  refine Cov.region rfl ?_
  refine Cov.q .ro (.move rfl) rfl ?_
  refine Cov.q .ro (.move rfl) rfl ?_
  refine Cov.q .ro (.geq rfl rfl) rfl ?_
  refine Cov.q .ro (.move rfl) rfl ?_
  refine Cov.cutR 4 (β := Unit) (fun y => [(14, .bool (decide ((x1 ≤ x0) ∧ (x0 ≤ x2))))]) [(6, _)] (fun y => G :: Fs) (fun y => []) [] (fun y => []) [] (fun y => True) ⟨rfl, trivial⟩ [] rfl [] rfl ?_ ?_
  · rintro _ _
    refine Cov.prune [(14, .bool (decide ((x1 ≤ x0) ∧ (x0 ≤ x2)))), (6, _)] ⟨rfl, rfl, trivial⟩ ?_
    refine Cov.same (bl' := []) (sl' := []) (Fs' := G :: Fs) rfl rfl rfl ?_
    refine Cov.q .ro (.assign rfl) rfl ?_
    refine Cov.region_end ?_
    cases h
    refine Cov.retS (c := ⟨30, none⟩) (.inr ⟨_, rfl⟩) [.tmp 6] [_] rfl Try.func30 Try.results30 ⟨RV.tmp rfl, trivial⟩ (fun _ h => List.mem_cons_of_mem _ h) ⟨rfl, rfl, rfl⟩
  · intro hb2
    refine Cov.split 10 rfl (fun c1 => ?_) (fun c1 => ?_)
    · refine Cov.g_on rfl ?_
      refine Cov.q .ro (.move rfl) rfl ?_
      refine Cov.g_on rfl ?_
      refine Cov.q .ro (.move rfl) rfl ?_
      refine Cov.g_on rfl ?_
      refine Cov.q .ro (.leq rfl rfl) rfl ?_
      refine Cov.q .ro (.pick_t rfl rfl) rfl ?_
      refine Cov.prune _ ?_ (Cov.same rfl rfl rfl (hb2 () trivial))
      exact ⟨dand_t c1, rfl, trivial⟩
    · refine Cov.g_off rfl rfl rfl ?_
      refine Cov.g_off rfl rfl rfl ?_
      refine Cov.g_off rfl rfl rfl ?_
      refine Cov.q .ro (.pick_f rfl rfl) rfl ?_
      refine Cov.prune _ ?_ (Cov.same rfl rfl rfl (hb2 () trivial))
      exact ⟨dand_f c1, rfl, trivial⟩

set_option maxHeartbeats 4000000 in
theorem planner_Valid_c {Fs : List Hp} {G : Hp} {x0_0 : Int} {x0_1 : Int} {x0_2 : Int} {x0_3 : Int} {x0_4 : Int} {x0_5 : Int} {x0_6 : Int} {x0_7 : Int} {x0_8 : Int} {x0_9 : Int} {r : Bool} (hG : G ∈ Fs)  (h : planner_Valid (x0_0, x0_1, x0_2, x0_3, x0_4, x0_5, x0_6, (x0_7, x0_8, x0_9)) = some r) : RetS Try.prog 11 #[.agg #[.int .i64 x0_0, .int .i64 x0_1, .int .i64 x0_2, .int .i64 x0_3, .int .i64 x0_4, .int .i64 x0_5, .int .i64 x0_6, .int .i64 x0_7, .int .i64 x0_8, .int .i64 x0_9]] Fs [] [] (fun v bo so => v = .bool r ∧ bo = [] ∧ so = []) := by
  unfold planner_Valid at h
  try dsimp only at h
  refine RetS.of (vs := [_]) Try.func11 rfl Try.ntmps11 [(0, _)] ⟨rfl, trivial⟩ rfl hG fun w0 S0 hS0 B0 => ?_
  refine Cov.seq ?_
  refine Cov.region rfl ?_
  refine Cov.box [_, _, _, _, _, _, _, _, _, _] .ro rfl rfl rfl (fun b1 hb1 => ?_)
  refine Cov.q .ro (.assign rfl) rfl ?_
  refine Cov.region_end ?_
  refine Cov.seq ?_
  refine Cov.seq ?_
  refine Cov.region rfl ?_
  refine Cov.q .ro (.fieldAddr 1 rfl fl29_1 ty3.sz rfl) rfl ?_
  refine Cov.q .ro (.load_own 0 rfl rfl ty3 rfl) rfl ?_
  refine Cov.q .ro (.fieldAddr 2 rfl fl29_2 ty3.sz rfl) rfl ?_
  refine Cov.q .ro (.load_own 0 rfl rfl ty3 rfl) rfl ?_
  refine Cov.q .ro (.fieldAddr 3 rfl fl29_3 ty3.sz rfl) rfl ?_
  refine Cov.q .ro (.load_own 0 rfl rfl ty3 rfl) rfl ?_
  refine Cov.q .ro (.build_a [_, _, _] [(0, _), (1, _), (2, _)] ty60 ar60 ty3.sz rfl rfl) rfl ?_
  refine Cov.q .ro (.move rfl) rfl ?_
  refine Cov.region_end ?_
  refine Cov.cutB (β := Int × Int × Int × Int × Int × Int × Int × Int × Int × Int) (fun y => []) [(1, _)] (fun y => G :: Fs) (fun y => [(b1, .cells #[.int .i64 y.1, .int .i64 y.2.1, .int .i64 y.2.2.1, .int .i64 y.2.2.2.1, .int .i64 y.2.2.2.2.1, .int .i64 y.2.2.2.2.2.1, .int .i64 y.2.2.2.2.2.2.1, .int .i64 y.2.2.2.2.2.2.2.1, .int .i64 y.2.2.2.2.2.2.2.2.1, .int .i64 y.2.2.2.2.2.2.2.2.2] 29 (0, 0))]) [] (fun y => []) [] (fun y => planner_Valid_J3 y.1 y.2.1 y.2.2.1 y.2.2.2.1 y.2.2.2.2.1 y.2.2.2.2.2.1 y.2.2.2.2.2.2.1 y.2.2.2.2.2.2.2.1 y.2.2.2.2.2.2.2.2.1 y.2.2.2.2.2.2.2.2.2 = some r) ⟨rfl, trivial⟩ [] rfl [] rfl ?_ ?_
  · intro y hI
    obtain ⟨v55, v56, v57, v58, v59, v60, v61, v62, v63, v64⟩ := y
    have r66 := hI; clear hI
    try dsimp only at r66
    refine Cov.prune [(1, _)] ⟨rfl, trivial⟩ ?_
    refine Cov.same (bl' := [(b1, .cells #[.int .i64 v55, .int .i64 v56, .int .i64 v57, .int .i64 v58, .int .i64 v59, .int .i64 v60, .int .i64 v61, .int .i64 v62, .int .i64 v63, .int .i64 v64] 29 (0, 0))]) (sl' := []) (Fs' := G :: Fs) rfl rfl rfl ?_
    unfold planner_Valid_J3 at r66
    try dsimp only at r66
    refine Cov.seq ?_
    refine Cov.seq ?_
    refine Cov.region rfl ?_
    refine Cov.q .ro (.fieldAddr 7 rfl fl29_7 ty27.sz rfl) rfl ?_
    refine Cov.q .ro (.fieldAddr 7 rfl fl27_0 ty3.sz rfl) rfl ?_
    refine Cov.q .ro (.load_own 0 rfl rfl ty3 rfl) rfl ?_
    refine Cov.q .ro (.fieldAddr 7 rfl fl29_7 ty27.sz rfl) rfl ?_
    refine Cov.q .ro (.fieldAddr 8 rfl fl27_1 ty3.sz rfl) rfl ?_
    refine Cov.q .ro (.load_own 0 rfl rfl ty3 rfl) rfl ?_
    refine Cov.q .ro (.fieldAddr 7 rfl fl29_7 ty27.sz rfl) rfl ?_
    refine Cov.q .ro (.fieldAddr 9 rfl fl27_2 ty3.sz rfl) rfl ?_
    refine Cov.q .ro (.load_own 0 rfl rfl ty3 rfl) rfl ?_
    refine Cov.q .ro (.build_a [_, _, _] [(0, _), (1, _), (2, _)] ty60 ar60 ty3.sz rfl rfl) rfl ?_
    refine Cov.q .ro (.move rfl) rfl ?_
    refine Cov.region_end ?_
    refine Cov.cutB (β := Int × Int × Int × Int × Int × Int × Int × Int × Int × Int) (fun y => []) [(1, _)] (fun y => G :: Fs) (fun y => [(b1, .cells #[.int .i64 y.1, .int .i64 y.2.1, .int .i64 y.2.2.1, .int .i64 y.2.2.2.1, .int .i64 y.2.2.2.2.1, .int .i64 y.2.2.2.2.2.1, .int .i64 y.2.2.2.2.2.2.1, .int .i64 y.2.2.2.2.2.2.2.1, .int .i64 y.2.2.2.2.2.2.2.2.1, .int .i64 y.2.2.2.2.2.2.2.2.2] 29 (0, 0))]) [] (fun y => []) [] (fun y => planner_Valid_J1 y.1 y.2.1 y.2.2.1 y.2.2.2.1 y.2.2.2.2.1 y.2.2.2.2.2.1 y.2.2.2.2.2.2.1 y.2.2.2.2.2.2.2.1 y.2.2.2.2.2.2.2.2.1 y.2.2.2.2.2.2.2.2.2 = some r) ⟨rfl, trivial⟩ [] rfl [] rfl ?_ ?_
    · intro y hI
      obtain ⟨v120, v121, v122, v123, v124, v125, v126, v127, v128, v129⟩ := y
      have r131 := hI; clear hI
      try dsimp only at r131
      refine Cov.prune [(1, _)] ⟨rfl, trivial⟩ ?_
      refine Cov.same (bl' := [(b1, .cells #[.int .i64 v120, .int .i64 v121, .int .i64 v122, .int .i64 v123, .int .i64 v124, .int .i64 v125, .int .i64 v126, .int .i64 v127, .int .i64 v128, .int .i64 v129] 29 (0, 0))]) (sl' := []) (Fs' := G :: Fs) rfl rfl rfl ?_
      unfold planner_Valid_J1 at r131
      try dsimp only at r131
      refine Cov.seq ?_
      refine Cov.region rfl ?_
      refine Cov.q .ro (.fieldAddr 0 rfl fl29_0 ty3.sz rfl) rfl ?_
      refine Cov.q .ro (.load_own 0 rfl rfl ty3 rfl) rfl ?_
      obtain ⟨u132, hu132, r133⟩ := bind_some r131; clear r131
      refine Cov.callS (b1 := []) (b2 := [_]) (s1 := []) [_, _, _] [] .ro rfl rfl Try.call30 rfl rfl (planner_within_c (G := G) List.mem_cons_self  hu132) rfl (fun v135 bo so h134 => ?_)
      obtain ⟨rfl, rfl, rfl⟩ := h134
      refine Cov.same (bl' := [_]) (sl' := []) rfl rfl rfl ?_
      refine Cov.q .ro (.move rfl) rfl ?_
      obtain ⟨u142, h143, r144⟩ := bind_some r133; clear r133
      refine Cov.cutR 4 (β := Unit) (fun y => [(47, .bool u142)]) [(1, _)] (fun y => G :: Fs) (fun y => []) [_] (fun y => []) [] (fun y => True) ⟨rfl, trivial⟩ [0] rfl [] rfl ?_ ?_
      · rintro _ _
        refine Cov.prune [(47, .bool u142), (1, _)] ⟨rfl, rfl, trivial⟩ ?_
        refine Cov.same (bl' := [_]) (sl' := []) (Fs' := G :: Fs) rfl rfl rfl ?_
        refine Cov.q .ro (.move rfl) rfl ?_
        obtain ⟨u153, h154, r155⟩ := bind_some r144; clear r144
        refine Cov.cutR 4 (β := Unit) (fun y => [(52, .bool u153)]) [(1, _)] (fun y => G :: Fs) (fun y => []) [_] (fun y => []) [] (fun y => True) ⟨rfl, trivial⟩ [0] rfl [] rfl ?_ ?_
        · rintro _ _
          refine Cov.prune [(52, .bool u153), (1, _)] ⟨rfl, rfl, trivial⟩ ?_
          refine Cov.same (bl' := [_]) (sl' := []) (Fs' := G :: Fs) rfl rfl rfl ?_
          refine Cov.q .ro (.move rfl) rfl ?_
          obtain ⟨u164, h165, r166⟩ := bind_some r155; clear r155
          refine Cov.cutR 4 (β := Unit) (fun y => [(57, .bool u164)]) [] (fun y => G :: Fs) (fun y => []) [_] (fun y => []) [] (fun y => True) trivial [0] rfl [] rfl ?_ ?_
          · rintro _ _
            refine Cov.prune [(57, .bool u164)] ⟨rfl, trivial⟩ ?_
            refine Cov.same (bl' := [_]) (sl' := []) (Fs' := G :: Fs) rfl rfl rfl ?_
            refine Cov.q .ro (.assign rfl) rfl ?_
            refine Cov.region_end ?_
            cases r166
            refine Cov.drop 1 0 [] _ rfl rfl ?_
            refine Cov.retS (c := ⟨11, none⟩) (.inr ⟨_, rfl⟩) [.tmp 2] [_] rfl Try.func11 Try.results11 ⟨RV.tmp rfl, trivial⟩ (fun _ h => List.mem_cons_of_mem _ h) ⟨rfl, rfl, rfl⟩
          · intro hb163
            refine Cov.split_b 53 rfl (fun c162 => ?_) (fun c162 => ?_)
            · have r169 := ifT h165 c162
              refine Cov.g_on rfl ?_
              refine Cov.q .ro (.fieldAddr 6 rfl fl29_6 ty3.sz rfl) rfl ?_
              refine Cov.g_on rfl ?_
              refine Cov.q .ro (.load_own 0 rfl rfl ty3 rfl) rfl ?_
              refine Cov.g_on rfl ?_
              obtain ⟨u170, hu170, r171⟩ := bind_some r169; clear r169
              refine Cov.callS (b1 := []) (b2 := [_]) (s1 := []) [_, _, _] [] .ro rfl rfl Try.call30 rfl rfl (planner_within_c (G := G) List.mem_cons_self  hu170) rfl (fun v173 bo so h172 => ?_)
              obtain ⟨rfl, rfl, rfl⟩ := h172
              refine Cov.same (bl' := [_]) (sl' := []) rfl rfl rfl ?_
              refine Cov.q .ro (.pick_t rfl rfl) rfl ?_
              refine Cov.prune _ ?_ (Cov.same rfl rfl rfl (hb163 () trivial))
              exact ⟨sval r171, trivial⟩
            · have r174 := ifBF h165 c162
              refine Cov.g_off rfl rfl rfl ?_
              refine Cov.g_off rfl rfl rfl ?_
              refine Cov.g_off rfl rfl rfl ?_
              refine Cov.q .ro (.pick_f rfl rfl) rfl ?_
              refine Cov.prune _ ?_ (Cov.same rfl rfl rfl (hb163 () trivial))
              exact ⟨sval r174, trivial⟩
        · intro hb152
          refine Cov.split_b 48 rfl (fun c151 => ?_) (fun c151 => ?_)
          · have r175 := ifT h154 c151
            refine Cov.g_on rfl ?_
            refine Cov.q .ro (.fieldAddr 5 rfl fl29_5 ty3.sz rfl) rfl ?_
            refine Cov.g_on rfl ?_
            refine Cov.q .ro (.load_own 0 rfl rfl ty3 rfl) rfl ?_
            refine Cov.g_on rfl ?_
            obtain ⟨u176, hu176, r177⟩ := bind_some r175; clear r175
            refine Cov.callS (b1 := []) (b2 := [_]) (s1 := []) [_, _, _] [] .ro rfl rfl Try.call30 rfl rfl (planner_within_c (G := G) List.mem_cons_self  hu176) rfl (fun v179 bo so h178 => ?_)
            obtain ⟨rfl, rfl, rfl⟩ := h178
            refine Cov.same (bl' := [_]) (sl' := []) rfl rfl rfl ?_
            refine Cov.q .ro (.pick_t rfl rfl) rfl ?_
            refine Cov.prune _ ?_ (Cov.same rfl rfl rfl (hb152 () trivial))
            exact ⟨sval r177, rfl, trivial⟩
          · have r180 := ifBF h154 c151
            refine Cov.g_off rfl rfl rfl ?_
            refine Cov.g_off rfl rfl rfl ?_
            refine Cov.g_off rfl rfl rfl ?_
            refine Cov.q .ro (.pick_f rfl rfl) rfl ?_
            refine Cov.prune _ ?_ (Cov.same rfl rfl rfl (hb152 () trivial))
            exact ⟨sval r180, rfl, trivial⟩
      · intro hb141
        refine Cov.split_b 43 rfl (fun c140 => ?_) (fun c140 => ?_)
        · have r181 := ifT h143 c140
          refine Cov.g_on rfl ?_
          refine Cov.q .ro (.fieldAddr 4 rfl fl29_4 ty3.sz rfl) rfl ?_
          refine Cov.g_on rfl ?_
          refine Cov.q .ro (.load_own 0 rfl rfl ty3 rfl) rfl ?_
          refine Cov.g_on rfl ?_
          obtain ⟨u182, hu182, r183⟩ := bind_some r181; clear r181
          refine Cov.callS (b1 := []) (b2 := [_]) (s1 := []) [_, _, _] [] .ro rfl rfl Try.call30 rfl rfl (planner_within_c (G := G) List.mem_cons_self  hu182) rfl (fun v185 bo so h184 => ?_)
          obtain ⟨rfl, rfl, rfl⟩ := h184
          refine Cov.same (bl' := [_]) (sl' := []) rfl rfl rfl ?_
          refine Cov.q .ro (.pick_t rfl rfl) rfl ?_
          refine Cov.prune _ ?_ (Cov.same rfl rfl rfl (hb141 () trivial))
          exact ⟨sval r183, rfl, trivial⟩
        · have r186 := ifBF h143 c140
          refine Cov.g_off rfl rfl rfl ?_
          refine Cov.g_off rfl rfl rfl ?_
          refine Cov.g_off rfl rfl rfl ?_
          refine Cov.q .ro (.pick_f rfl rfl) rfl ?_
          refine Cov.prune _ ?_ (Cov.same rfl rfl rfl (hb141 () trivial))
          exact ⟨sval r186, rfl, trivial⟩
    · intro hb187
      refine Cov.block ?_
      refine Cov.loop2 (α := Nat × Int) (fun y => [(33, .int .i64 y.2)]) [(1, _), (32, _)] (fun y => []) (fun y => []) [_] (fun y => []) [] (fun y => planner_Valid_L2 planner_Valid_J1 v62 v63 v64 v55 v56 v57 v58 v59 v60 v61 y.1 y.2 = some r) (fun y => y.1) (big, 0) r66 ⟨rfl, rfl, rfl, trivial⟩ rfl rfl rfl (fun y hI hb216 => ?_)
      obtain ⟨n212, v214⟩ := y
      have r215 := hI; clear hI
      try dsimp only at r215
      refine Cov.prune [(33, .int .i64 v214), (1, _), (32, _)] ⟨rfl, rfl, rfl, trivial⟩ ?_
      refine Cov.same (bl' := [_]) (sl' := []) (Fs' := G :: Fs) rfl rfl rfl ?_
      obtain ⟨m228, rfl⟩ : ∃ m, n212 = m + 1 := by cases n212 with | zero => exact absurd (show (none : Option _) = some _ from r215) (by simp) | succ m => exact ⟨m, rfl⟩
      have r227 : planner_Valid_B2 planner_Valid_J1 v62 v63 v64 v55 v56 v57 v58 v59 v60 v61 (planner_Valid_L2 planner_Valid_J1 v62 v63 v64 v55 v56 v57 v58 v59 v60 v61 m228) v214 = some r := r215; clear r215; unfold planner_Valid_B2 at r227; try dsimp only at r227
      refine Cov.seq ?_
      refine Cov.region rfl ?_
      refine Cov.q .ro (.lss rfl rfl) rfl ?_
      refine Cov.region_end ?_
      refine Cov.seq ?_
      refine Cov.cond_dec rfl (fun c229 => ?_) (fun c229 => ?_)
      · have r230 := ifT r227 c229; clear r227
        refine Cov.skip ?_
        refine Cov.seq ?_
        refine Cov.block ?_
        refine Cov.seq ?_
        refine Cov.region rfl ?_
        obtain ⟨u231, hu231, r232⟩ := bind_some r230; clear r230
        refine Cov.q .ro (.index_arD (l := ([v62, v63, v64] : List Int)) rfl rfl ar60 ty3 rfl hu231) rfl ?_
        refine Cov.q .ro (.assign rfl) rfl ?_
        refine Cov.region_end ?_
        refine Cov.seq ?_
        refine Cov.region rfl ?_
        refine Cov.q .ro (.move rfl) rfl ?_
        obtain ⟨u233, hu233, r234⟩ := bind_some r232; clear r232
        refine Cov.callS (b1 := []) (b2 := [_]) (s1 := []) [_, _, _] [] .ro rfl rfl Try.call30 rfl rfl (planner_within_c (G := G) List.mem_cons_self  hu233) rfl (fun v236 bo so h235 => ?_)
        obtain ⟨rfl, rfl, rfl⟩ := h235
        refine Cov.same (bl' := [_]) (sl' := []) rfl rfl rfl ?_
        refine Cov.q .ro (.not rfl) rfl ?_
        refine Cov.region_end ?_
        refine Cov.cond rfl (fun c237 => ?_) (fun c237 => ?_)
        · have r238 := ifT r234 c237; clear r234
          refine Cov.seq ?_
          refine Cov.region rfl ?_
          refine Cov.q .ro (.assign rfl) rfl ?_
          refine Cov.region_end ?_
          cases r238
          refine Cov.drop 1 0 [] _ rfl rfl ?_
          refine Cov.retS (c := ⟨11, none⟩) (.inr ⟨_, rfl⟩) [.tmp 2] [_] rfl Try.func11 Try.results11 ⟨RV.tmp rfl, trivial⟩ (fun _ h => List.mem_cons_of_mem _ h) ⟨rfl, rfl, rfl⟩
        · have r239 := ifBF r234 c237; clear r234
          refine Cov.skip ?_
          refine Cov.inBlock ?_
          refine Cov.region rfl ?_
          refine Cov.q .ro (.addw rfl rfl) rfl ?_
          refine Cov.q .ro (.move rfl) rfl ?_
          refine Cov.region_end ?_
          refine Cov.prune _ ?_ (Cov.same rfl rfl rfl (hb216 (m228, (w64 (v214 + 1))) r239 (Nat.lt_succ_self _)))
          exact ⟨rfl, rfl, rfl, trivial⟩
      · have r240 := ifF r227 c229; clear r227
        refine Cov.exit rfl ?_
        refine Cov.prune _ ?_ (Cov.same rfl rfl rfl (hb187 (v55, v56, v57, v58, v59, v60, v61, v62, v63, v64) r240))
        exact ⟨rfl, trivial⟩
  · intro hb241
    refine Cov.block ?_
    refine Cov.loop2 (α := Nat × Int) (fun y => [(14, .int .i64 y.2)]) [(1, _), (13, _)] (fun y => []) (fun y => []) [_] (fun y => []) [] (fun y => planner_Valid_L4 planner_Valid_J3 x0_1 x0_2 x0_3 x0_0 x0_4 x0_5 x0_6 x0_7 x0_8 x0_9 y.1 y.2 = some r) (fun y => y.1) (big, 0) h ⟨rfl, rfl, rfl, trivial⟩ rfl rfl rfl (fun y hI hb270 => ?_)
    obtain ⟨n266, v268⟩ := y
    have r269 := hI; clear hI
    try dsimp only at r269
    refine Cov.prune [(14, .int .i64 v268), (1, _), (13, _)] ⟨rfl, rfl, rfl, trivial⟩ ?_
    refine Cov.same (bl' := [_]) (sl' := []) (Fs' := G :: Fs) rfl rfl rfl ?_
    obtain ⟨m282, rfl⟩ : ∃ m, n266 = m + 1 := by cases n266 with | zero => exact absurd (show (none : Option _) = some _ from r269) (by simp) | succ m => exact ⟨m, rfl⟩
    have r281 : planner_Valid_B4 planner_Valid_J3 x0_1 x0_2 x0_3 x0_0 x0_4 x0_5 x0_6 x0_7 x0_8 x0_9 (planner_Valid_L4 planner_Valid_J3 x0_1 x0_2 x0_3 x0_0 x0_4 x0_5 x0_6 x0_7 x0_8 x0_9 m282) v268 = some r := r269; clear r269; unfold planner_Valid_B4 at r281; try dsimp only at r281
    refine Cov.seq ?_
    refine Cov.region rfl ?_
    refine Cov.q .ro (.lss rfl rfl) rfl ?_
    refine Cov.region_end ?_
    refine Cov.seq ?_
    refine Cov.cond_dec rfl (fun c283 => ?_) (fun c283 => ?_)
    · have r284 := ifT r281 c283; clear r281
      refine Cov.skip ?_
      refine Cov.seq ?_
      refine Cov.block ?_
      refine Cov.seq ?_
      refine Cov.region rfl ?_
      obtain ⟨u285, hu285, r286⟩ := bind_some r284; clear r284
      refine Cov.q .ro (.index_arD (l := ([x0_1, x0_2, x0_3] : List Int)) rfl rfl ar60 ty3 rfl hu285) rfl ?_
      refine Cov.q .ro (.assign rfl) rfl ?_
      refine Cov.region_end ?_
      refine Cov.seq ?_
      refine Cov.region rfl ?_
      refine Cov.q .ro (.move rfl) rfl ?_
      refine Cov.q .ro (.fieldAddr 0 rfl fl29_0 ty3.sz rfl) rfl ?_
      refine Cov.q .ro (.load_own 0 rfl rfl ty3 rfl) rfl ?_
      obtain ⟨u287, hu287, r288⟩ := bind_some r286; clear r286
      refine Cov.callS (b1 := []) (b2 := [_]) (s1 := []) [_, _, _] [] .ro rfl rfl Try.call30 rfl rfl (planner_within_c (G := G) List.mem_cons_self  hu287) rfl (fun v290 bo so h289 => ?_)
      obtain ⟨rfl, rfl, rfl⟩ := h289
      refine Cov.same (bl' := [_]) (sl' := []) rfl rfl rfl ?_
      refine Cov.q .ro (.not rfl) rfl ?_
      refine Cov.region_end ?_
      refine Cov.cond rfl (fun c291 => ?_) (fun c291 => ?_)
      · have r292 := ifT r288 c291; clear r288
        refine Cov.seq ?_
        refine Cov.region rfl ?_
        refine Cov.q .ro (.assign rfl) rfl ?_
        refine Cov.region_end ?_
        cases r292
        refine Cov.drop 1 0 [] _ rfl rfl ?_
        refine Cov.retS (c := ⟨11, none⟩) (.inr ⟨_, rfl⟩) [.tmp 2] [_] rfl Try.func11 Try.results11 ⟨RV.tmp rfl, trivial⟩ (fun _ h => List.mem_cons_of_mem _ h) ⟨rfl, rfl, rfl⟩
      · have r293 := ifBF r288 c291; clear r288
        refine Cov.skip ?_
        refine Cov.inBlock ?_
        refine Cov.region rfl ?_
        refine Cov.q .ro (.addw rfl rfl) rfl ?_
        refine Cov.q .ro (.move rfl) rfl ?_
        refine Cov.region_end ?_
        refine Cov.prune _ ?_ (Cov.same rfl rfl rfl (hb270 (m282, (w64 (v268 + 1))) r293 (Nat.lt_succ_self _)))
        exact ⟨rfl, rfl, rfl, trivial⟩
    · have r294 := ifF r281 c283; clear r281
      refine Cov.exit rfl ?_
      refine Cov.prune _ ?_ (Cov.same rfl rfl rfl (hb241 (x0_0, x0_1, x0_2, x0_3, x0_4, x0_5, x0_6, x0_7, x0_8, x0_9) r294))
      exact ⟨rfl, trivial⟩

set_option maxHeartbeats 4000000 in
theorem scheme_within_c {Fs : List Hp} {G : Hp} {x0 : Int} {x1 : Int} {x2 : Int} {r : Bool} (hG : G ∈ Fs)  (h : scheme_within x0 x1 x2 = some r) : RetS Try.prog 46 #[.int .i64 x0, .int .i64 x1, .int .i64 x2] Fs [] [] (fun v bo so => v = .bool r ∧ bo = [] ∧ so = []) := by
  unfold scheme_within at h
  try dsimp only at h
  refine RetS.of (vs := [_, _, _]) Try.func46 rfl Try.ntmps46 [(0, _), (1, _), (2, _)] ⟨rfl, rfl, rfl, trivial⟩ rfl hG fun w0 S0 hS0 B0 => ?_
  refine Cov.seq ?_
  refine Cov.region rfl ?_
  refine Cov.q .ro (.assign rfl) rfl ?_
  refine Cov.region_end ?_
  refine Cov.seq ?_
  refine Cov.region rfl ?_
  refine Cov.q .ro (.move rfl) rfl ?_
  refine Cov.q .ro (.move rfl) rfl ?_
  refine Cov.q .ro (.geq rfl rfl) rfl ?_
  refine Cov.q .ro (.move rfl) rfl ?_
  refine Cov.cutR 4 (β := Unit) (fun y => [(14, .bool (decide ((x1 ≤ x0) ∧ (x0 ≤ x2))))]) [(6, _)] (fun y => G :: Fs) (fun y => []) [] (fun y => []) [] (fun y => True) ⟨rfl, trivial⟩ [] rfl [] rfl ?_ ?_
  · rintro _ _
    refine Cov.prune [(14, .bool (decide ((x1 ≤ x0) ∧ (x0 ≤ x2)))), (6, _)] ⟨rfl, rfl, trivial⟩ ?_
    refine Cov.same (bl' := []) (sl' := []) (Fs' := G :: Fs) rfl rfl rfl ?_
    refine Cov.q .ro (.assign rfl) rfl ?_
    refine Cov.region_end ?_
    cases h
    refine Cov.retS (c := ⟨46, none⟩) (.inr ⟨_, rfl⟩) [.tmp 6] [_] rfl Try.func46 Try.results46 ⟨RV.tmp rfl, trivial⟩ (fun _ h => List.mem_cons_of_mem _ h) ⟨rfl, rfl, rfl⟩
  · intro hb2
    refine Cov.split 10 rfl (fun c1 => ?_) (fun c1 => ?_)
    · refine Cov.g_on rfl ?_
      refine Cov.q .ro (.move rfl) rfl ?_
      refine Cov.g_on rfl ?_
      refine Cov.q .ro (.move rfl) rfl ?_
      refine Cov.g_on rfl ?_
      refine Cov.q .ro (.leq rfl rfl) rfl ?_
      refine Cov.q .ro (.pick_t rfl rfl) rfl ?_
      refine Cov.prune _ ?_ (Cov.same rfl rfl rfl (hb2 () trivial))
      exact ⟨dand_t c1, rfl, trivial⟩
    · refine Cov.g_off rfl rfl rfl ?_
      refine Cov.g_off rfl rfl rfl ?_
      refine Cov.g_off rfl rfl rfl ?_
      refine Cov.q .ro (.pick_f rfl rfl) rfl ?_
      refine Cov.prune _ ?_ (Cov.same rfl rfl rfl (hb2 () trivial))
      exact ⟨dand_f c1, rfl, trivial⟩

set_option maxHeartbeats 4000000 in
theorem scheme_Shape_c {Fs : List Hp} {G : Hp} {x0_0 : Int} {x0_1 : Int} {x0_2 : Int} {x0_3 : Int} {r : Bool} (hG : G ∈ Fs)  (h : scheme_Shape (x0_0, x0_1, x0_2, x0_3) = some r) : RetS Try.prog 35 #[.agg #[.int .i64 x0_0, .int .i64 x0_1, .int .i64 x0_2, .int .i64 x0_3]] Fs [] [] (fun v bo so => v = .bool r ∧ bo = [] ∧ so = []) := by
  unfold scheme_Shape at h
  try dsimp only at h
  refine RetS.of (vs := [_]) Try.func35 rfl Try.ntmps35 [(0, _)] ⟨rfl, trivial⟩ rfl hG fun w0 S0 hS0 B0 => ?_
  refine Cov.seq ?_
  refine Cov.region rfl ?_
  refine Cov.box [_, _, _, _] .ro rfl rfl rfl (fun b1 hb1 => ?_)
  refine Cov.q .ro (.assign rfl) rfl ?_
  refine Cov.region_end ?_
  refine Cov.seq ?_
  refine Cov.seq ?_
  refine Cov.region rfl ?_
  refine Cov.q .ro (.fieldAddr 1 rfl fl33_1 ty3.sz rfl) rfl ?_
  refine Cov.q .ro (.load_own 0 rfl rfl ty3 rfl) rfl ?_
  obtain ⟨u2, hu2, r3⟩ := bind_some h; clear h
  refine Cov.callS (b1 := []) (b2 := [_]) (s1 := []) [_, _, _] [] .ro rfl rfl Try.call46 rfl rfl (scheme_within_c (G := G) List.mem_cons_self  hu2) rfl (fun v5 bo so h4 => ?_)
  obtain ⟨rfl, rfl, rfl⟩ := h4
  refine Cov.same (bl' := [_]) (sl' := []) rfl rfl rfl ?_
  refine Cov.q .ro (.not rfl) rfl ?_
  refine Cov.region_end ?_
  refine Cov.cond rfl (fun c6 => ?_) (fun c6 => ?_)
  · have r7 := ifT r3 c6; clear r3
    refine Cov.seq ?_
    refine Cov.region rfl ?_
    refine Cov.q .ro (.assign rfl) rfl ?_
    refine Cov.region_end ?_
    cases r7
    refine Cov.drop 1 0 [] _ rfl rfl ?_
    refine Cov.retS (c := ⟨35, none⟩) (.inr ⟨_, rfl⟩) [.tmp 2] [_] rfl Try.func35 Try.results35 ⟨RV.tmp rfl, trivial⟩ (fun _ h => List.mem_cons_of_mem _ h) ⟨rfl, rfl, rfl⟩
  · have r8 := ifBF r3 c6; clear r3
    refine Cov.skip ?_
    refine Cov.seq ?_
    refine Cov.seq ?_
    refine Cov.region rfl ?_
    refine Cov.q .ro (.fieldAddr 0 rfl fl33_0 ty3.sz rfl) rfl ?_
    refine Cov.q .ro (.load_own 0 rfl rfl ty3 rfl) rfl ?_
    refine Cov.region_end ?_
    refine Cov.block ?_
    refine Cov.seq ?_
    refine Cov.region rfl ?_
    refine Cov.q .ro (.eql rfl rfl) rfl ?_
    refine Cov.q .ro (.assign rfl) rfl ?_
    refine Cov.region_end ?_
    refine Cov.cond_dec rfl (fun c9 => ?_) (fun c9 => ?_)
    · have r10 := ifT r8 c9; clear r8
      refine Cov.seq ?_
      refine Cov.region rfl ?_
      refine Cov.q .ro (.fieldAddr 2 rfl fl33_2 ty3.sz rfl) rfl ?_
      refine Cov.q .ro (.load_own 0 rfl rfl ty3 rfl) rfl ?_
      refine Cov.q .ro (.eql rfl rfl) rfl ?_
      refine Cov.q .ro (.move rfl) rfl ?_
      refine Cov.cutR 4 (β := Unit) (fun y => [(18, .bool (decide ((x0_2 = 0) ∧ (x0_3 = 0))))]) [(2, _)] (fun y => G :: Fs) (fun y => []) [_] (fun y => []) [] (fun y => True) ⟨rfl, trivial⟩ [0] rfl [] rfl ?_ ?_
      · rintro _ _
        refine Cov.prune [(18, .bool (decide ((x0_2 = 0) ∧ (x0_3 = 0)))), (2, _)] ⟨rfl, rfl, trivial⟩ ?_
        refine Cov.same (bl' := [_]) (sl' := []) (Fs' := G :: Fs) rfl rfl rfl ?_
        refine Cov.q .ro (.assign rfl) rfl ?_
        refine Cov.region_end ?_
        cases r10
        refine Cov.drop 1 0 [] _ rfl rfl ?_
        refine Cov.retS (c := ⟨35, none⟩) (.inr ⟨_, rfl⟩) [.tmp 2] [_] rfl Try.func35 Try.results35 ⟨RV.tmp rfl, trivial⟩ (fun _ h => List.mem_cons_of_mem _ h) ⟨rfl, rfl, rfl⟩
      · intro hb12
        refine Cov.split 14 rfl (fun c11 => ?_) (fun c11 => ?_)
        · refine Cov.g_on rfl ?_
          refine Cov.q .ro (.fieldAddr 3 rfl fl33_3 ty3.sz rfl) rfl ?_
          refine Cov.g_on rfl ?_
          refine Cov.q .ro (.load_own 0 rfl rfl ty3 rfl) rfl ?_
          refine Cov.g_on rfl ?_
          refine Cov.q .ro (.eql rfl rfl) rfl ?_
          refine Cov.q .ro (.pick_t rfl rfl) rfl ?_
          refine Cov.prune _ ?_ (Cov.same rfl rfl rfl (hb12 () trivial))
          exact ⟨dand_t c11, rfl, trivial⟩
        · refine Cov.g_off rfl rfl rfl ?_
          refine Cov.g_off rfl rfl rfl ?_
          refine Cov.g_off rfl rfl rfl ?_
          refine Cov.q .ro (.pick_f rfl rfl) rfl ?_
          refine Cov.prune _ ?_ (Cov.same rfl rfl rfl (hb12 () trivial))
          exact ⟨dand_f c11, rfl, trivial⟩
    · have r15 := ifF r8 c9; clear r8
      refine Cov.seq ?_
      refine Cov.region rfl ?_
      refine Cov.q .ro (.eql rfl rfl) rfl ?_
      refine Cov.q .ro (.assign rfl) rfl ?_
      refine Cov.region_end ?_
      refine Cov.cond_dec rfl (fun c16 => ?_) (fun c16 => ?_)
      · have r17 := ifT r15 c16; clear r15
        refine Cov.seq ?_
        refine Cov.region rfl ?_
        refine Cov.q .ro (.fieldAddr 2 rfl fl33_2 ty3.sz rfl) rfl ?_
        refine Cov.q .ro (.load_own 0 rfl rfl ty3 rfl) rfl ?_
        refine Cov.q .ro (.fieldAddr 1 rfl fl33_1 ty3.sz rfl) rfl ?_
        refine Cov.q .ro (.load_own 0 rfl rfl ty3 rfl) rfl ?_
        refine Cov.q .ro (.subw rfl rfl) rfl ?_
        obtain ⟨u18, hu18, r19⟩ := bind_some r17; clear r17
        refine Cov.callS (b1 := []) (b2 := [_]) (s1 := []) [_, _, _] [] .ro rfl rfl Try.call46 rfl rfl (scheme_within_c (G := G) List.mem_cons_self  hu18) rfl (fun v21 bo so h20 => ?_)
        obtain ⟨rfl, rfl, rfl⟩ := h20
        refine Cov.same (bl' := [_]) (sl' := []) rfl rfl rfl ?_
        refine Cov.q .ro (.move rfl) rfl ?_
        refine Cov.cutR 4 (β := Unit) (fun y => [(31, .bool (decide ((u18 = true) ∧ (x0_3 = 0))))]) [(2, _)] (fun y => G :: Fs) (fun y => []) [_] (fun y => []) [] (fun y => True) ⟨rfl, trivial⟩ [0] rfl [] rfl ?_ ?_
        · rintro _ _
          refine Cov.prune [(31, .bool (decide ((u18 = true) ∧ (x0_3 = 0)))), (2, _)] ⟨rfl, rfl, trivial⟩ ?_
          refine Cov.same (bl' := [_]) (sl' := []) (Fs' := G :: Fs) rfl rfl rfl ?_
          refine Cov.q .ro (.assign rfl) rfl ?_
          refine Cov.region_end ?_
          cases r19
          refine Cov.drop 1 0 [] _ rfl rfl ?_
          refine Cov.retS (c := ⟨35, none⟩) (.inr ⟨_, rfl⟩) [.tmp 2] [_] rfl Try.func35 Try.results35 ⟨RV.tmp rfl, trivial⟩ (fun _ h => List.mem_cons_of_mem _ h) ⟨rfl, rfl, rfl⟩
        · intro hb23
          refine Cov.split_b 27 rfl (fun c22 => ?_) (fun c22 => ?_)
          · refine Cov.g_on rfl ?_
            refine Cov.q .ro (.fieldAddr 3 rfl fl33_3 ty3.sz rfl) rfl ?_
            refine Cov.g_on rfl ?_
            refine Cov.q .ro (.load_own 0 rfl rfl ty3 rfl) rfl ?_
            refine Cov.g_on rfl ?_
            refine Cov.q .ro (.eql rfl rfl) rfl ?_
            refine Cov.q .ro (.pick_t rfl rfl) rfl ?_
            refine Cov.prune _ ?_ (Cov.same rfl rfl rfl (hb23 () trivial))
            exact ⟨dand_t c22, rfl, trivial⟩
          · refine Cov.g_off rfl rfl rfl ?_
            refine Cov.g_off rfl rfl rfl ?_
            refine Cov.g_off rfl rfl rfl ?_
            refine Cov.q .ro (.pick_f rfl rfl) rfl ?_
            refine Cov.prune _ ?_ (Cov.same rfl rfl rfl (hb23 () trivial))
            exact ⟨dand_f (bne_of c22), rfl, trivial⟩
      · have r26 := ifF r15 c16; clear r15
        refine Cov.seq ?_
        refine Cov.region rfl ?_
        refine Cov.q .ro (.eql rfl rfl) rfl ?_
        refine Cov.q .ro (.assign rfl) rfl ?_
        refine Cov.region_end ?_
        refine Cov.prune [(1, _), (32, _)] ⟨rfl, rfl, trivial⟩ ?_
        refine Cov.cond_dec rfl (fun c27 => ?_) (fun c27 => ?_)
        · have r28 := ifT r26 c27; clear r26
          refine Cov.seq ?_
          refine Cov.region rfl ?_
          refine Cov.q .ro (.fieldAddr 2 rfl fl33_2 ty3.sz rfl) rfl ?_
          refine Cov.q .ro (.load_own 0 rfl rfl ty3 rfl) rfl ?_
          refine Cov.q .ro (.fieldAddr 1 rfl fl33_1 ty3.sz rfl) rfl ?_
          refine Cov.q .ro (.load_own 0 rfl rfl ty3 rfl) rfl ?_
          obtain ⟨u29, hu29, r30⟩ := bind_some r28; clear r28
          refine Cov.callS (b1 := []) (b2 := [_]) (s1 := []) [_, _, _] [] .ro rfl rfl Try.call46 rfl rfl (scheme_within_c (G := G) List.mem_cons_self  hu29) rfl (fun v32 bo so h31 => ?_)
          obtain ⟨rfl, rfl, rfl⟩ := h31
          refine Cov.same (bl' := [_]) (sl' := []) rfl rfl rfl ?_
          refine Cov.q .ro (.move rfl) rfl ?_
          obtain ⟨u39, h40, r41⟩ := bind_some r30; clear r30
          refine Cov.cutR 6 (β := Unit) (fun y => [(45, .bool u39)]) [(1, _)] (fun y => G :: Fs) (fun y => []) [_] (fun y => []) [] (fun y => True) ⟨rfl, trivial⟩ [0] rfl [] rfl ?_ ?_
          · rintro _ _
            refine Cov.prune [(45, .bool u39), (1, _)] ⟨rfl, rfl, trivial⟩ ?_
            refine Cov.same (bl' := [_]) (sl' := []) (Fs' := G :: Fs) rfl rfl rfl ?_
            refine Cov.q .ro (.move rfl) rfl ?_
            refine Cov.cutR 11 (β := Unit) (fun y => [(57, .bool (decide ((u39 = true) ∧ ((w64 ((w64 ((w64 (2 * x0_3)) + x0_2)) - 1)) ≤ x0_1))))]) [] (fun y => G :: Fs) (fun y => []) [_] (fun y => []) [] (fun y => True) trivial [0] rfl [] rfl ?_ ?_
            · rintro _ _
              refine Cov.prune [(57, .bool (decide ((u39 = true) ∧ ((w64 ((w64 ((w64 (2 * x0_3)) + x0_2)) - 1)) ≤ x0_1))))] ⟨rfl, trivial⟩ ?_
              refine Cov.same (bl' := [_]) (sl' := []) (Fs' := G :: Fs) rfl rfl rfl ?_
              refine Cov.q .ro (.assign rfl) rfl ?_
              refine Cov.region_end ?_
              cases r41
              refine Cov.drop 1 0 [] _ rfl rfl ?_
              refine Cov.retS (c := ⟨35, none⟩) (.inr ⟨_, rfl⟩) [.tmp 2] [_] rfl Try.func35 Try.results35 ⟨RV.tmp rfl, trivial⟩ (fun _ h => List.mem_cons_of_mem _ h) ⟨rfl, rfl, rfl⟩
            · intro hb45
              refine Cov.split_b 46 rfl (fun c44 => ?_) (fun c44 => ?_)
              · refine Cov.g_on rfl ?_
                refine Cov.q .ro (.fieldAddr 3 rfl fl33_3 ty3.sz rfl) rfl ?_
                refine Cov.g_on rfl ?_
                refine Cov.q .ro (.load_own 0 rfl rfl ty3 rfl) rfl ?_
                refine Cov.g_on rfl ?_
                refine Cov.q .ro (.mulw rfl rfl) rfl ?_
                refine Cov.g_on rfl ?_
                refine Cov.q .ro (.fieldAddr 2 rfl fl33_2 ty3.sz rfl) rfl ?_
                refine Cov.g_on rfl ?_
                refine Cov.q .ro (.load_own 0 rfl rfl ty3 rfl) rfl ?_
                refine Cov.g_on rfl ?_
                refine Cov.q .ro (.addw rfl rfl) rfl ?_
                refine Cov.g_on rfl ?_
                refine Cov.q .ro (.subw rfl rfl) rfl ?_
                refine Cov.g_on rfl ?_
                refine Cov.q .ro (.fieldAddr 1 rfl fl33_1 ty3.sz rfl) rfl ?_
                refine Cov.g_on rfl ?_
                refine Cov.q .ro (.load_own 0 rfl rfl ty3 rfl) rfl ?_
                refine Cov.g_on rfl ?_
                refine Cov.q .ro (.leq rfl rfl) rfl ?_
                refine Cov.q .ro (.pick_t rfl rfl) rfl ?_
                refine Cov.prune _ ?_ (Cov.same rfl rfl rfl (hb45 () trivial))
                exact ⟨dand_t c44, trivial⟩
              · refine Cov.g_off rfl rfl rfl ?_
                refine Cov.g_off rfl rfl rfl ?_
                refine Cov.g_off rfl rfl rfl ?_
                refine Cov.g_off rfl rfl rfl ?_
                refine Cov.g_off rfl rfl rfl ?_
                refine Cov.g_off rfl rfl rfl ?_
                refine Cov.g_off rfl rfl rfl ?_
                refine Cov.g_off rfl rfl rfl ?_
                refine Cov.g_off rfl rfl rfl ?_
                refine Cov.g_off rfl rfl rfl ?_
                refine Cov.q .ro (.pick_f rfl rfl) rfl ?_
                refine Cov.prune _ ?_ (Cov.same rfl rfl rfl (hb45 () trivial))
                exact ⟨dand_f (bne_of c44), trivial⟩
          · intro hb38
            refine Cov.split_b 39 rfl (fun c37 => ?_) (fun c37 => ?_)
            · have r48 := ifT h40 c37
              refine Cov.g_on rfl ?_
              refine Cov.q .ro (.fieldAddr 3 rfl fl33_3 ty3.sz rfl) rfl ?_
              refine Cov.g_on rfl ?_
              refine Cov.q .ro (.load_own 0 rfl rfl ty3 rfl) rfl ?_
              refine Cov.g_on rfl ?_
              refine Cov.q .ro (.fieldAddr 1 rfl fl33_1 ty3.sz rfl) rfl ?_
              refine Cov.g_on rfl ?_
              refine Cov.q .ro (.load_own 0 rfl rfl ty3 rfl) rfl ?_
              refine Cov.g_on rfl ?_
              obtain ⟨u49, hu49, r50⟩ := bind_some r48; clear r48
              refine Cov.callS (b1 := []) (b2 := [_]) (s1 := []) [_, _, _] [] .ro rfl rfl Try.call46 rfl rfl (scheme_within_c (G := G) List.mem_cons_self  hu49) rfl (fun v52 bo so h51 => ?_)
              obtain ⟨rfl, rfl, rfl⟩ := h51
              refine Cov.same (bl' := [_]) (sl' := []) rfl rfl rfl ?_
              refine Cov.q .ro (.pick_t rfl rfl) rfl ?_
              refine Cov.prune _ ?_ (Cov.same rfl rfl rfl (hb38 () trivial))
              exact ⟨sval r50, rfl, trivial⟩
            · have r53 := ifBF h40 c37
              refine Cov.g_off rfl rfl rfl ?_
              refine Cov.g_off rfl rfl rfl ?_
              refine Cov.g_off rfl rfl rfl ?_
              refine Cov.g_off rfl rfl rfl ?_
              refine Cov.g_off rfl rfl rfl ?_
              refine Cov.q .ro (.pick_f rfl rfl) rfl ?_
              refine Cov.prune _ ?_ (Cov.same rfl rfl rfl (hb38 () trivial))
              exact ⟨sval r53, rfl, trivial⟩
        · have r54 := ifF r26 c27; clear r26
          refine Cov.skip ?_
          refine Cov.inBlock ?_
          refine Cov.seq ?_
          refine Cov.region rfl ?_
          refine Cov.q .ro (.assign rfl) rfl ?_
          refine Cov.region_end ?_
          cases r54
          refine Cov.drop 1 0 [] _ rfl rfl ?_
          refine Cov.retS (c := ⟨35, none⟩) (.inr ⟨_, rfl⟩) [.tmp 2] [_] rfl Try.func35 Try.results35 ⟨RV.tmp rfl, trivial⟩ (fun _ h => List.mem_cons_of_mem _ h) ⟨rfl, rfl, rfl⟩

set_option maxHeartbeats 4000000 in
theorem scheme_Threshold_c {Fs : List Hp} {G : Hp} {x0_0 : Int} {x0_1 : Int} {x0_2 : Int} {x0_3 : Int} {r : Int} (hG : G ∈ Fs)  (h : scheme_Threshold (x0_0, x0_1, x0_2, x0_3) = some r) : RetS Try.prog 36 #[.agg #[.int .i64 x0_0, .int .i64 x0_1, .int .i64 x0_2, .int .i64 x0_3]] Fs [] [] (fun v bo so => v = .int .i64 r ∧ bo = [] ∧ so = []) := by
  unfold scheme_Threshold at h
  try dsimp only at h
  refine RetS.of (vs := [_]) Try.func36 rfl Try.ntmps36 [(0, _)] ⟨rfl, trivial⟩ rfl hG fun w0 S0 hS0 B0 => ?_
  refine Cov.seq ?_
  refine Cov.region rfl ?_
  refine Cov.box [_, _, _, _] .ro rfl rfl rfl (fun b1 hb1 => ?_)
  refine Cov.q .ro (.assign rfl) rfl ?_
  refine Cov.region_end ?_
  refine Cov.seq ?_
  refine Cov.block ?_
  refine Cov.seq ?_
  refine Cov.region rfl ?_
  refine Cov.q .ro (.load_own_a 0 [_, _, _, _] rfl rfl ty33 rfl) rfl ?_
  obtain ⟨u2, hu2, r3⟩ := bind_some h; clear h
  refine Cov.callS (b1 := []) (b2 := [_]) (s1 := []) [_] [] .ro rfl rfl Try.call35 rfl rfl (scheme_Shape_c (G := G) List.mem_cons_self  hu2) rfl (fun v5 bo so h4 => ?_)
  obtain ⟨rfl, rfl, rfl⟩ := h4
  refine Cov.same (bl' := [_]) (sl' := []) rfl rfl rfl ?_
  refine Cov.q .ro (.not rfl) rfl ?_
  refine Cov.q .ro (.assign rfl) rfl ?_
  refine Cov.region_end ?_
  refine Cov.cond rfl (fun c6 => ?_) (fun c6 => ?_)
  · have r7 := ifT r3 c6; clear r3
    refine Cov.seq ?_
    refine Cov.region rfl ?_
    refine Cov.q .ro (.assign rfl) rfl ?_
    refine Cov.region_end ?_
    cases r7
    refine Cov.drop 1 0 [] _ rfl rfl ?_
    refine Cov.retS (c := ⟨36, none⟩) (.inr ⟨_, rfl⟩) [.tmp 2] [_] rfl Try.func36 Try.results36 ⟨RV.tmp rfl, trivial⟩ (fun _ h => List.mem_cons_of_mem _ h) ⟨rfl, rfl, rfl⟩
  · have r8 := ifBF r3 c6; clear r3
    refine Cov.seq ?_
    refine Cov.region rfl ?_
    refine Cov.q .ro (.fieldAddr 0 rfl fl33_0 ty3.sz rfl) rfl ?_
    refine Cov.q .ro (.load_own 0 rfl rfl ty3 rfl) rfl ?_
    refine Cov.q .ro (.eql rfl rfl) rfl ?_
    refine Cov.q .ro (.assign rfl) rfl ?_
    refine Cov.region_end ?_
    refine Cov.cond_dec rfl (fun c9 => ?_) (fun c9 => ?_)
    · have r10 := ifT r8 c9; clear r8
      refine Cov.seq ?_
      refine Cov.region rfl ?_
      refine Cov.q .ro (.fieldAddr 1 rfl fl33_1 ty3.sz rfl) rfl ?_
      refine Cov.q .ro (.load_own 0 rfl rfl ty3 rfl) rfl ?_
      refine Cov.q .ro (.subw rfl rfl) rfl ?_
      refine Cov.q .ro (.assign rfl) rfl ?_
      refine Cov.region_end ?_
      refine Cov.prune [(2, _)] ⟨rfl, trivial⟩ ?_
      cases r10
      refine Cov.drop 1 0 [] _ rfl rfl ?_
      refine Cov.retS (c := ⟨36, none⟩) (.inr ⟨_, rfl⟩) [.tmp 2] [_] rfl Try.func36 Try.results36 ⟨RV.tmp rfl, trivial⟩ (fun _ h => List.mem_cons_of_mem _ h) ⟨rfl, rfl, rfl⟩
    · have r11 := ifF r8 c9; clear r8
      refine Cov.skip ?_
      refine Cov.inBlock ?_
      refine Cov.seq ?_
      refine Cov.region rfl ?_
      refine Cov.q .ro (.fieldAddr 2 rfl fl33_2 ty3.sz rfl) rfl ?_
      refine Cov.q .ro (.load_own 0 rfl rfl ty3 rfl) rfl ?_
      refine Cov.q .ro (.assign rfl) rfl ?_
      refine Cov.region_end ?_
      cases r11
      refine Cov.drop 1 0 [] _ rfl rfl ?_
      refine Cov.retS (c := ⟨36, none⟩) (.inr ⟨_, rfl⟩) [.tmp 2] [_] rfl Try.func36 Try.results36 ⟨RV.tmp rfl, trivial⟩ (fun _ h => List.mem_cons_of_mem _ h) ⟨rfl, rfl, rfl⟩

set_option maxHeartbeats 4000000 in
theorem scheme_Need_c {Fs : List Hp} {G : Hp} {x0_0 : Int} {x0_1 : Int} {x0_2 : Int} {x0_3 : Int} {r : Int} (hG : G ∈ Fs)  (h : scheme_Need (x0_0, x0_1, x0_2, x0_3) = some r) : RetS Try.prog 47 #[.agg #[.int .i64 x0_0, .int .i64 x0_1, .int .i64 x0_2, .int .i64 x0_3]] Fs [] [] (fun v bo so => v = .int .i64 r ∧ bo = [] ∧ so = []) := by
  unfold scheme_Need at h
  try dsimp only at h
  refine RetS.of (vs := [_]) Try.func47 rfl Try.ntmps47 [(0, _)] ⟨rfl, trivial⟩ rfl hG fun w0 S0 hS0 B0 => ?_
  refine Cov.seq ?_
  refine Cov.region rfl ?_
  refine Cov.box [_, _, _, _] .ro rfl rfl rfl (fun b1 hb1 => ?_)
  refine Cov.q .ro (.assign rfl) rfl ?_
  refine Cov.region_end ?_
  refine Cov.seq ?_
  refine Cov.seq ?_
  refine Cov.region rfl ?_
  refine Cov.q .ro (.load_own_a 0 [_, _, _, _] rfl rfl ty33 rfl) rfl ?_
  obtain ⟨u2, hu2, r3⟩ := bind_some h; clear h
  refine Cov.callS (b1 := []) (b2 := [_]) (s1 := []) [_] [] .ro rfl rfl Try.call35 rfl rfl (scheme_Shape_c (G := G) List.mem_cons_self  hu2) rfl (fun v5 bo so h4 => ?_)
  obtain ⟨rfl, rfl, rfl⟩ := h4
  refine Cov.same (bl' := [_]) (sl' := []) rfl rfl rfl ?_
  refine Cov.q .ro (.not rfl) rfl ?_
  refine Cov.region_end ?_
  refine Cov.cond rfl (fun c6 => ?_) (fun c6 => ?_)
  · have r7 := ifT r3 c6; clear r3
    refine Cov.seq ?_
    refine Cov.region rfl ?_
    refine Cov.q .ro (.assign rfl) rfl ?_
    refine Cov.region_end ?_
    cases r7
    refine Cov.drop 1 0 [] _ rfl rfl ?_
    refine Cov.retS (c := ⟨47, none⟩) (.inr ⟨_, rfl⟩) [.tmp 2] [_] rfl Try.func47 Try.results47 ⟨RV.tmp rfl, trivial⟩ (fun _ h => List.mem_cons_of_mem _ h) ⟨rfl, rfl, rfl⟩
  · have r8 := ifBF r3 c6; clear r3
    refine Cov.skip ?_
    refine Cov.seq ?_
    refine Cov.region rfl ?_
    refine Cov.mkMap (Value.int .i64) (Value.int .i64) .ro rfl (fun b9 hb9 => ?_)
    refine Cov.q .ro (.fieldAddr 1 rfl fl33_1 ty3.sz rfl) rfl ?_
    refine Cov.q .ro (.load_own 1 rfl rfl ty3 rfl) rfl ?_
    refine Cov.mapPut 0 (f := Value.int .i64) (g := Value.int .i64) (l := ([] : List (Int × Int))) (x := 1) (y := x0_1) (.inr rfl) .ro rfl rfl rfl rfl Try.underlying71 Try.underlying3 ik_int ij_int _ rfl ?_
    refine Cov.q .ro (.fieldAddr 2 rfl fl33_2 ty3.sz rfl) rfl ?_
    refine Cov.q .ro (.load_own 1 rfl rfl ty3 rfl) rfl ?_
    refine Cov.q .ro (.addw rfl rfl) rfl ?_
    refine Cov.mapPut 0 (f := Value.int .i64) (g := Value.int .i64) (l := (mput ([] : List (Int × Int)) 1 x0_1)) (x := 2) (y := (w64 (x0_2 + 1))) (.inr rfl) .ro rfl rfl rfl rfl Try.underlying71 Try.underlying3 ik_int ij_int _ rfl ?_
    refine Cov.q .ro (.fieldAddr 3 rfl fl33_3 ty3.sz rfl) rfl ?_
    refine Cov.q .ro (.load_own 1 rfl rfl ty3 rfl) rfl ?_
    refine Cov.q .ro (.mulw rfl rfl) rfl ?_
    refine Cov.q .ro (.fieldAddr 2 rfl fl33_2 ty3.sz rfl) rfl ?_
    refine Cov.q .ro (.load_own 1 rfl rfl ty3 rfl) rfl ?_
    refine Cov.q .ro (.addw rfl rfl) rfl ?_
    refine Cov.q .ro (.subw rfl rfl) rfl ?_
    refine Cov.mapPut 0 (f := Value.int .i64) (g := Value.int .i64) (l := (mput (mput ([] : List (Int × Int)) 1 x0_1) 2 (w64 (x0_2 + 1)))) (x := 3) (y := (w64 ((w64 ((w64 (2 * x0_3)) + x0_2)) - 1))) (.inr rfl) .ro rfl rfl rfl rfl Try.underlying71 Try.underlying3 ik_int ij_int _ rfl ?_
    refine Cov.q .ro (.move rfl) rfl ?_
    refine Cov.q .ro (.fieldAddr 0 rfl fl33_0 ty3.sz rfl) rfl ?_
    refine Cov.q .ro (.load_own 1 rfl rfl ty3 rfl) rfl ?_
    refine Cov.q .ro (.mapGet 0 (f := Value.int .i64) (g := Value.int .i64) (l := (mput (mput (mput ([] : List (Int × Int)) 1 x0_1) 2 (w64 (x0_2 + 1))) 3 (w64 ((w64 ((w64 (2 * x0_3)) + x0_2)) - 1)))) (x := x0_0) (z := 0) rfl rfl rfl Try.underlying71 Try.underlying3 ik_int ij_int (by kernel_rfl)) rfl ?_
    refine Cov.q .ro (.assign rfl) rfl ?_
    refine Cov.region_end ?_
    refine Cov.prune [(2, _)] ⟨rfl, trivial⟩ ?_
    cases r8
    refine Cov.drop 2 0 [] _ rfl rfl ?_
    refine Cov.retS (c := ⟨47, none⟩) (.inr ⟨_, rfl⟩) [.tmp 2] [_] rfl Try.func47 Try.results47 ⟨RV.tmp rfl, trivial⟩ (fun _ h => List.mem_cons_of_mem _ h) ⟨rfl, rfl, rfl⟩

set_option maxHeartbeats 4000000 in
theorem scheme_Bears_c {Fs : List Hp} {G : Hp} {x0_0 : Int} {x0_1 : Int} {x0_2 : Int} {x0_3 : Int} {x1 : Int} {x2 : Int} {r : Bool} (hG : G ∈ Fs)  (h : scheme_Bears (x0_0, x0_1, x0_2, x0_3) x1 x2 = some r) : RetS Try.prog 37 #[.agg #[.int .i64 x0_0, .int .i64 x0_1, .int .i64 x0_2, .int .i64 x0_3], .int .i64 x1, .int .i64 x2] Fs [] [] (fun v bo so => v = .bool r ∧ bo = [] ∧ so = []) := by
  unfold scheme_Bears at h
  try dsimp only at h
  refine RetS.of (vs := [_, _, _]) Try.func37 rfl Try.ntmps37 [(0, _), (1, _), (2, _)] ⟨rfl, rfl, rfl, trivial⟩ rfl hG fun w0 S0 hS0 B0 => ?_
  refine Cov.seq ?_
  refine Cov.region rfl ?_
  refine Cov.box [_, _, _, _] .ro rfl rfl rfl (fun b1 hb1 => ?_)
  refine Cov.q .ro (.assign rfl) rfl ?_
  refine Cov.region_end ?_
  refine Cov.seq ?_
  refine Cov.drawL (.q 0 (.e 1 1 (.q 2 (.q 3 (.q 4 (.q 5 (.e 6 1 (.q 7 (.q 8 (.q 9 (.q 10 (.q 11 (.e 12 1 (.q 13 (.q 14 (.q 15 (.q 17 (.q 19 (.q 20 (.q 22 (.q 23 (.e 16 1 (.q 18 (.q 21 (.q 24 (.q 25 (.q 26 .nil))))))))))))))))))))))))))) [_] (by kernel_rfl) (by kernel_rfl) (pick_mem [0] rfl) ?_
  refine Cov.dq (.load_own_a 0 [_, _, _, _] rfl rfl ty33 rfl) rfl ?_
  obtain ⟨u2, hu2, r3⟩ := bind_some h; clear h
  refine Cov.callS (b1 := []) (b2 := [_]) (s1 := []) [_] [] .d1 rfl rfl Try.call35 rfl rfl (scheme_Shape_c (G := G) List.mem_cons_self  hu2) rfl (fun v5 bo so h4 => ?_)
  obtain ⟨rfl, rfl, rfl⟩ := h4
  refine Cov.same (bl' := [_]) (sl' := []) rfl rfl rfl ?_
  refine Cov.clsL (HpLe.refl _) (pick_mem [0] rfl) ?_
  refine Cov.dq (.move rfl) rfl ?_
  obtain ⟨u12, h13, r14⟩ := bind_some r3; clear r3
  refine Cov.cutD 5 (β := Unit) (fun y => [(14, .bool u12)]) [(1, _), (2, _), (3, _), (6, _)] (fun y => G :: Fs) (fun y => []) [_] (fun y => []) [] (fun y => True) ⟨rfl, rfl, rfl, rfl, trivial⟩ [0] rfl [] rfl ?_ ?_
  · rintro _ _
    refine Cov.prune [(14, .bool u12), (1, _), (2, _), (3, _), (6, _)] ⟨rfl, rfl, rfl, rfl, rfl, trivial⟩ ?_
    refine Cov.same (bl' := [_]) (sl' := []) (Fs' := G :: Fs) rfl rfl rfl ?_
    refine Cov.dq (.move rfl) rfl ?_
    obtain ⟨u23, h24, r25⟩ := bind_some r14; clear r14
    refine Cov.cutD 5 (β := Unit) (fun y => [(20, .bool u23)]) [(1, _), (2, _), (3, _), (6, _)] (fun y => G :: Fs) (fun y => []) [_] (fun y => []) [] (fun y => True) ⟨rfl, rfl, rfl, rfl, trivial⟩ [0] rfl [] rfl ?_ ?_
    · rintro _ _
      refine Cov.prune [(20, .bool u23), (1, _), (2, _), (3, _), (6, _)] ⟨rfl, rfl, rfl, rfl, rfl, trivial⟩ ?_
      refine Cov.same (bl' := [_]) (sl' := []) (Fs' := G :: Fs) rfl rfl rfl ?_
      refine Cov.dq (.move rfl) rfl ?_
      obtain ⟨u34, h35, r36⟩ := bind_some r25; clear r25
      refine Cov.cutD 11 (β := Unit) (fun y => [(32, .bool u34)]) [(6, _)] (fun y => G :: Fs) (fun y => []) [_] (fun y => []) [] (fun y => True) ⟨rfl, trivial⟩ [0] rfl [] rfl ?_ ?_
      · rintro _ _
        refine Cov.prune [(32, .bool u34), (6, _)] ⟨rfl, rfl, trivial⟩ ?_
        refine Cov.same (bl' := [_]) (sl' := []) (Fs' := G :: Fs) rfl rfl rfl ?_
        refine Cov.dq (.assign rfl) rfl ?_
        refine Cov.draw_end ?_
        cases r36
        refine Cov.drop 1 0 [] _ rfl rfl ?_
        refine Cov.retS (c := ⟨37, none⟩) (.inr ⟨_, rfl⟩) [.tmp 6] [_] rfl Try.func37 Try.results37 ⟨RV.tmp rfl, trivial⟩ (fun _ h => List.mem_cons_of_mem _ h) ⟨rfl, rfl, rfl⟩
      · intro hb33
        refine Cov.split_b 21 rfl (fun c32 => ?_) (fun c32 => ?_)
        · have r39 := ifT h35 c32
          refine Cov.dgq_on rfl ?_
          refine Cov.dq (.load_own_a 0 [_, _, _, _] rfl rfl ty33 rfl) rfl ?_
          refine Cov.dgq_on rfl ?_
          refine Cov.dq (.move rfl) rfl ?_
          refine Cov.dgq_on rfl ?_
          refine Cov.dq (.move rfl) rfl ?_
          refine Cov.dgq_on rfl ?_
          refine Cov.dq (.mulw rfl rfl) rfl ?_
          refine Cov.dgq_on rfl ?_
          refine Cov.dq (.fieldAddr 1 rfl fl33_1 ty3.sz rfl) rfl ?_
          refine Cov.dgq_on rfl ?_
          refine Cov.dq (.load_own 0 rfl rfl ty3 rfl) rfl ?_
          refine Cov.dge_on rfl ?_
          obtain ⟨u40, hu40, r41⟩ := bind_some r39; clear r39
          refine Cov.callS (b1 := []) (b2 := [_]) (s1 := []) [_] [] .d1 rfl rfl Try.call47 rfl rfl (scheme_Need_c (G := G) List.mem_cons_self  hu40) rfl (fun v43 bo so h42 => ?_)
          obtain ⟨rfl, rfl, rfl⟩ := h42
          refine Cov.same (bl' := [_]) (sl' := []) rfl rfl rfl ?_
          refine Cov.clsL (HpLe.refl _) (pick_mem [0] rfl) ?_
          refine Cov.dgq_on rfl ?_
          refine Cov.dq (.addw rfl rfl) rfl ?_
          refine Cov.dgq_on rfl ?_
          refine Cov.dq (.addw rfl rfl) rfl ?_
          refine Cov.dgq_on rfl ?_
          refine Cov.dq (.leq rfl rfl) rfl ?_
          refine Cov.dq (.pick_t rfl rfl) rfl ?_
          refine Cov.prune _ ?_ (Cov.same rfl rfl rfl (hb33 () trivial))
          exact ⟨sval r41, rfl, trivial⟩
        · have r44 := ifBF h35 c32
          refine Cov.dgq_off rfl rfl rfl ?_
          refine Cov.dgq_off rfl rfl rfl ?_
          refine Cov.dgq_off rfl rfl rfl ?_
          refine Cov.dgq_off rfl rfl rfl ?_
          refine Cov.dgq_off rfl rfl rfl ?_
          refine Cov.dgq_off rfl rfl rfl ?_
          refine Cov.dge_offL rfl rfl rfl (HpLe.refl _) (pick_mem [0] rfl) ?_
          refine Cov.dgq_off rfl rfl rfl ?_
          refine Cov.dgq_off rfl rfl rfl ?_
          refine Cov.dgq_off rfl rfl rfl ?_
          refine Cov.dq (.pick_f rfl rfl) rfl ?_
          refine Cov.prune _ ?_ (Cov.same rfl rfl rfl (hb33 () trivial))
          exact ⟨sval r44, rfl, trivial⟩
    · intro hb22
      refine Cov.split_b 15 rfl (fun c21 => ?_) (fun c21 => ?_)
      · have r45 := ifT h24 c21
        refine Cov.dgq_on rfl ?_
        refine Cov.dq (.move rfl) rfl ?_
        refine Cov.dgq_on rfl ?_
        refine Cov.dq (.fieldAddr 1 rfl fl33_1 ty3.sz rfl) rfl ?_
        refine Cov.dgq_on rfl ?_
        refine Cov.dq (.load_own 0 rfl rfl ty3 rfl) rfl ?_
        refine Cov.dge_on rfl ?_
        obtain ⟨u46, hu46, r47⟩ := bind_some r45; clear r45
        refine Cov.callS (b1 := []) (b2 := [_]) (s1 := []) [_, _, _] [] .d1 rfl rfl Try.call46 rfl rfl (scheme_within_c (G := G) List.mem_cons_self  hu46) rfl (fun v49 bo so h48 => ?_)
        obtain ⟨rfl, rfl, rfl⟩ := h48
        refine Cov.same (bl' := [_]) (sl' := []) rfl rfl rfl ?_
        refine Cov.clsL (HpLe.refl _) (pick_mem [0] rfl) ?_
        refine Cov.dq (.pick_t rfl rfl) rfl ?_
        refine Cov.prune _ ?_ (Cov.same rfl rfl rfl (hb22 () trivial))
        exact ⟨sval r47, rfl, rfl, rfl, rfl, trivial⟩
      · have r50 := ifBF h24 c21
        refine Cov.dgq_off rfl rfl rfl ?_
        refine Cov.dgq_off rfl rfl rfl ?_
        refine Cov.dgq_off rfl rfl rfl ?_
        refine Cov.dge_offL rfl rfl rfl (HpLe.refl _) (pick_mem [0] rfl) ?_
        refine Cov.dq (.pick_f rfl rfl) rfl ?_
        refine Cov.prune _ ?_ (Cov.same rfl rfl rfl (hb22 () trivial))
        exact ⟨sval r50, rfl, rfl, rfl, rfl, trivial⟩
  · intro hb11
    refine Cov.split_b 9 rfl (fun c10 => ?_) (fun c10 => ?_)
    · have r51 := ifT h13 c10
      refine Cov.dgq_on rfl ?_
      refine Cov.dq (.move rfl) rfl ?_
      refine Cov.dgq_on rfl ?_
      refine Cov.dq (.fieldAddr 1 rfl fl33_1 ty3.sz rfl) rfl ?_
      refine Cov.dgq_on rfl ?_
      refine Cov.dq (.load_own 0 rfl rfl ty3 rfl) rfl ?_
      refine Cov.dge_on rfl ?_
      obtain ⟨u52, hu52, r53⟩ := bind_some r51; clear r51
      refine Cov.callS (b1 := []) (b2 := [_]) (s1 := []) [_, _, _] [] .d1 rfl rfl Try.call46 rfl rfl (scheme_within_c (G := G) List.mem_cons_self  hu52) rfl (fun v55 bo so h54 => ?_)
      obtain ⟨rfl, rfl, rfl⟩ := h54
      refine Cov.same (bl' := [_]) (sl' := []) rfl rfl rfl ?_
      refine Cov.clsL (HpLe.refl _) (pick_mem [0] rfl) ?_
      refine Cov.dq (.pick_t rfl rfl) rfl ?_
      refine Cov.prune _ ?_ (Cov.same rfl rfl rfl (hb11 () trivial))
      exact ⟨sval r53, rfl, rfl, rfl, rfl, trivial⟩
    · have r56 := ifBF h13 c10
      refine Cov.dgq_off rfl rfl rfl ?_
      refine Cov.dgq_off rfl rfl rfl ?_
      refine Cov.dgq_off rfl rfl rfl ?_
      refine Cov.dge_offL rfl rfl rfl (HpLe.refl _) (pick_mem [0] rfl) ?_
      refine Cov.dq (.pick_f rfl rfl) rfl ?_
      refine Cov.prune _ ?_ (Cov.same rfl rfl rfl (hb11 () trivial))
      exact ⟨sval r56, rfl, rfl, rfl, rfl, trivial⟩

set_option maxHeartbeats 4000000 in
theorem planner_Serves_c {Fs : List Hp} {G : Hp} {x0_0 : Int} {x0_1 : Int} {x0_2 : Int} {x0_3 : Int} {x1_0 : Int} {x1_1 : Int} {x1_2 : Int} {x1_3 : Int} {x1_4 : Int} {x1_5 : Int} {x1_6 : Int} {x1_7 : Int} {x1_8 : Int} {x1_9 : Int} {r : Bool} (hG : G ∈ Fs)  (h : planner_Serves (x0_0, x0_1, x0_2, x0_3) (x1_0, x1_1, x1_2, x1_3, x1_4, x1_5, x1_6, (x1_7, x1_8, x1_9)) = some r) : RetS Try.prog 16 #[.agg #[.int .i64 x0_0, .int .i64 x0_1, .int .i64 x0_2, .int .i64 x0_3], .agg #[.int .i64 x1_0, .int .i64 x1_1, .int .i64 x1_2, .int .i64 x1_3, .int .i64 x1_4, .int .i64 x1_5, .int .i64 x1_6, .int .i64 x1_7, .int .i64 x1_8, .int .i64 x1_9]] Fs [] [] (fun v bo so => v = .bool r ∧ bo = [] ∧ so = []) := by
  unfold planner_Serves at h
  try dsimp only at h
  refine RetS.of (vs := [_, _]) Try.func16 rfl Try.ntmps16 [(0, _), (1, _)] ⟨rfl, rfl, trivial⟩ rfl hG fun w0 S0 hS0 B0 => ?_
  refine Cov.seq ?_
  refine Cov.region rfl ?_
  refine Cov.box [_, _, _, _] .ro rfl rfl rfl (fun b1 hb1 => ?_)
  refine Cov.box [_, _, _, _, _, _, _, _, _, _] .ro rfl rfl rfl (fun b2 hb2 => ?_)
  refine Cov.q .ro (.assign rfl) rfl ?_
  refine Cov.region_end ?_
  refine Cov.seq ?_
  refine Cov.drawL (.q 0 (.e 1 1 (.q 2 (.q 3 (.e 4 1 (.q 5 (.q 6 (.q 7 (.q 8 (.q 9 (.q 10 (.q 11 (.q 12 (.q 13 (.q 14 (.q 16 (.q 17 (.e 15 1 (.q 18 (.q 19 (.q 20 (.q 21 (.q 22 (.q 23 (.q 24 (.q 25 (.e 26 1 (.q 27 (.q 28 .nil))))))))))))))))))))))))))))) [_, _] (by kernel_rfl) (by kernel_rfl) (pick_mem [0, 1] rfl) ?_
  refine Cov.dq (.load_own_a 0 [_, _, _, _, _, _, _, _, _, _] rfl rfl ty29 rfl) rfl ?_
  obtain ⟨u3, hu3, r4⟩ := bind_some h; clear h
  refine Cov.callS (b1 := []) (b2 := [_, _]) (s1 := []) [_] [] .d1 rfl rfl Try.call11 rfl rfl (planner_Valid_c (G := G) List.mem_cons_self  hu3) rfl (fun v6 bo so h5 => ?_)
  obtain ⟨rfl, rfl, rfl⟩ := h5
  refine Cov.same (bl' := [_, _]) (sl' := []) rfl rfl rfl ?_
  refine Cov.clsL (HpLe.refl _) (pick_mem [0, 1] rfl) ?_
  refine Cov.dq (.move rfl) rfl ?_
  obtain ⟨u13, h14, r15⟩ := bind_some r4; clear r4
  refine Cov.cutD 3 (β := Unit) (fun y => [(10, .bool u13)]) [(2, _), (3, _), (4, _)] (fun y => G :: Fs) (fun y => []) [_, _] (fun y => []) [] (fun y => True) ⟨rfl, rfl, rfl, trivial⟩ [0, 1] rfl [] rfl ?_ ?_
  · rintro _ _
    refine Cov.prune [(10, .bool u13), (2, _), (3, _), (4, _)] ⟨rfl, rfl, rfl, rfl, trivial⟩ ?_
    refine Cov.same (bl' := [_, _]) (sl' := []) (Fs' := G :: Fs) rfl rfl rfl ?_
    refine Cov.dq (.move rfl) rfl ?_
    refine Cov.cutD 6 (β := Unit) (fun y => [(17, .bool (decide ((u13 = true) ∧ (x0_1 = x1_0))))]) [(2, _), (3, _), (4, _)] (fun y => G :: Fs) (fun y => []) [_, _] (fun y => []) [] (fun y => True) ⟨rfl, rfl, rfl, trivial⟩ [0, 1] rfl [] rfl ?_ ?_
    · rintro _ _
      refine Cov.prune [(17, .bool (decide ((u13 = true) ∧ (x0_1 = x1_0)))), (2, _), (3, _), (4, _)] ⟨rfl, rfl, rfl, rfl, trivial⟩ ?_
      refine Cov.same (bl' := [_, _]) (sl' := []) (Fs' := G :: Fs) rfl rfl rfl ?_
      refine Cov.dq (.move rfl) rfl ?_
      obtain ⟨u28, h29, r30⟩ := bind_some r15; clear r15
      refine Cov.cutD 6 (β := Unit) (fun y => [(24, .bool u28)]) [(2, _), (3, _), (4, _)] (fun y => G :: Fs) (fun y => []) [_, _] (fun y => []) [] (fun y => True) ⟨rfl, rfl, rfl, trivial⟩ [0, 1] rfl [] rfl ?_ ?_
      · rintro _ _
        refine Cov.prune [(24, .bool u28), (2, _), (3, _), (4, _)] ⟨rfl, rfl, rfl, rfl, trivial⟩ ?_
        refine Cov.same (bl' := [_, _]) (sl' := []) (Fs' := G :: Fs) rfl rfl rfl ?_
        refine Cov.dq (.move rfl) rfl ?_
        obtain ⟨u39, h40, r41⟩ := bind_some r30; clear r30
        refine Cov.cutD 7 (β := Unit) (fun y => [(32, .bool u39)]) [(4, _)] (fun y => G :: Fs) (fun y => []) [_, _] (fun y => []) [] (fun y => True) ⟨rfl, trivial⟩ [0, 1] rfl [] rfl ?_ ?_
        · rintro _ _
          refine Cov.prune [(32, .bool u39), (4, _)] ⟨rfl, rfl, trivial⟩ ?_
          refine Cov.same (bl' := [_, _]) (sl' := []) (Fs' := G :: Fs) rfl rfl rfl ?_
          refine Cov.dq (.assign rfl) rfl ?_
          refine Cov.draw_end ?_
          cases r41
          refine Cov.drop 2 0 [] _ rfl rfl ?_
          refine Cov.retS (c := ⟨16, none⟩) (.inr ⟨_, rfl⟩) [.tmp 4] [_] rfl Try.func16 Try.results16 ⟨RV.tmp rfl, trivial⟩ (fun _ h => List.mem_cons_of_mem _ h) ⟨rfl, rfl, rfl⟩
        · intro hb38
          refine Cov.split_b 25 rfl (fun c37 => ?_) (fun c37 => ?_)
          · have r44 := ifT h40 c37
            refine Cov.dgq_on rfl ?_
            refine Cov.dq (.load_own_a 1 [_, _, _, _] rfl rfl ty33 rfl) rfl ?_
            refine Cov.dgq_on rfl ?_
            refine Cov.dq (.fieldAddr 2 rfl fl29_2 ty3.sz rfl) rfl ?_
            refine Cov.dgq_on rfl ?_
            refine Cov.dq (.load_own 0 rfl rfl ty3 rfl) rfl ?_
            refine Cov.dgq_on rfl ?_
            refine Cov.dq (.fieldAddr 3 rfl fl29_3 ty3.sz rfl) rfl ?_
            refine Cov.dgq_on rfl ?_
            refine Cov.dq (.load_own 0 rfl rfl ty3 rfl) rfl ?_
            refine Cov.dge_on rfl ?_
            obtain ⟨u45, hu45, r46⟩ := bind_some r44; clear r44
            refine Cov.callS (b1 := []) (b2 := [_, _]) (s1 := []) [_, _, _] [] .d1 rfl rfl Try.call37 rfl rfl (scheme_Bears_c (G := G) List.mem_cons_self  hu45) rfl (fun v48 bo so h47 => ?_)
            obtain ⟨rfl, rfl, rfl⟩ := h47
            refine Cov.same (bl' := [_, _]) (sl' := []) rfl rfl rfl ?_
            refine Cov.clsL (HpLe.refl _) (pick_mem [0, 1] rfl) ?_
            refine Cov.dq (.pick_t rfl rfl) rfl ?_
            refine Cov.prune _ ?_ (Cov.same rfl rfl rfl (hb38 () trivial))
            exact ⟨sval r46, rfl, trivial⟩
          · have r49 := ifBF h40 c37
            refine Cov.dgq_off rfl rfl rfl ?_
            refine Cov.dgq_off rfl rfl rfl ?_
            refine Cov.dgq_off rfl rfl rfl ?_
            refine Cov.dgq_off rfl rfl rfl ?_
            refine Cov.dgq_off rfl rfl rfl ?_
            refine Cov.dge_offL rfl rfl rfl (HpLe.refl _) (pick_mem [0, 1] rfl) ?_
            refine Cov.dq (.pick_f rfl rfl) rfl ?_
            refine Cov.prune _ ?_ (Cov.same rfl rfl rfl (hb38 () trivial))
            exact ⟨sval r49, rfl, trivial⟩
      · intro hb27
        refine Cov.split 18 rfl (fun c26 => ?_) (fun c26 => ?_)
        · have r50 := ifT h29 c26
          refine Cov.dgq_on rfl ?_
          refine Cov.dq (.load_own_a 1 [_, _, _, _] rfl rfl ty33 rfl) rfl ?_
          refine Cov.dgq_on rfl ?_
          refine Cov.dq (.fieldAddr 1 rfl fl29_1 ty3.sz rfl) rfl ?_
          refine Cov.dgq_on rfl ?_
          refine Cov.dq (.load_own 0 rfl rfl ty3 rfl) rfl ?_
          refine Cov.dge_on rfl ?_
          obtain ⟨u51, hu51, r52⟩ := bind_some r50; clear r50
          refine Cov.callS (b1 := []) (b2 := [_, _]) (s1 := []) [_] [] .d1 rfl rfl Try.call36 rfl rfl (scheme_Threshold_c (G := G) List.mem_cons_self  hu51) rfl (fun v54 bo so h53 => ?_)
          obtain ⟨rfl, rfl, rfl⟩ := h53
          refine Cov.same (bl' := [_, _]) (sl' := []) rfl rfl rfl ?_
          refine Cov.clsL (HpLe.refl _) (pick_mem [0, 1] rfl) ?_
          refine Cov.dgq_on rfl ?_
          refine Cov.dq (.geq rfl rfl) rfl ?_
          refine Cov.dq (.pick_t rfl rfl) rfl ?_
          refine Cov.prune _ ?_ (Cov.same rfl rfl rfl (hb27 () trivial))
          exact ⟨sval r52, rfl, rfl, rfl, trivial⟩
        · have r55 := ifF h29 c26
          refine Cov.dgq_off rfl rfl rfl ?_
          refine Cov.dgq_off rfl rfl rfl ?_
          refine Cov.dgq_off rfl rfl rfl ?_
          refine Cov.dge_offL rfl rfl rfl (HpLe.refl _) (pick_mem [0, 1] rfl) ?_
          refine Cov.dgq_off rfl rfl rfl ?_
          refine Cov.dq (.pick_f rfl rfl) rfl ?_
          refine Cov.prune _ ?_ (Cov.same rfl rfl rfl (hb27 () trivial))
          exact ⟨sval r55, rfl, rfl, rfl, trivial⟩
    · intro hb19
      refine Cov.split_b 11 rfl (fun c18 => ?_) (fun c18 => ?_)
      · refine Cov.dgq_on rfl ?_
        refine Cov.dq (.fieldAddr 1 rfl fl33_1 ty3.sz rfl) rfl ?_
        refine Cov.dgq_on rfl ?_
        refine Cov.dq (.load_own 1 rfl rfl ty3 rfl) rfl ?_
        refine Cov.dgq_on rfl ?_
        refine Cov.dq (.fieldAddr 0 rfl fl29_0 ty3.sz rfl) rfl ?_
        refine Cov.dgq_on rfl ?_
        refine Cov.dq (.load_own 0 rfl rfl ty3 rfl) rfl ?_
        refine Cov.dgq_on rfl ?_
        refine Cov.dq (.eql rfl rfl) rfl ?_
        refine Cov.dq (.pick_t rfl rfl) rfl ?_
        refine Cov.prune _ ?_ (Cov.same rfl rfl rfl (hb19 () trivial))
        exact ⟨dand_t c18, rfl, rfl, rfl, trivial⟩
      · refine Cov.dgq_off rfl rfl rfl ?_
        refine Cov.dgq_off rfl rfl rfl ?_
        refine Cov.dgq_off rfl rfl rfl ?_
        refine Cov.dgq_off rfl rfl rfl ?_
        refine Cov.dgq_off rfl rfl rfl ?_
        refine Cov.dq (.pick_f rfl rfl) rfl ?_
        refine Cov.prune _ ?_ (Cov.same rfl rfl rfl (hb19 () trivial))
        exact ⟨dand_f (bne_of c18), rfl, rfl, rfl, trivial⟩
  · intro hb12
    refine Cov.split_b 7 rfl (fun c11 => ?_) (fun c11 => ?_)
    · have r56 := ifT h14 c11
      refine Cov.dgq_on rfl ?_
      refine Cov.dq (.load_own_a 1 [_, _, _, _] rfl rfl ty33 rfl) rfl ?_
      refine Cov.dge_on rfl ?_
      obtain ⟨u57, hu57, r58⟩ := bind_some r56; clear r56
      refine Cov.callS (b1 := []) (b2 := [_, _]) (s1 := []) [_] [] .d1 rfl rfl Try.call35 rfl rfl (scheme_Shape_c (G := G) List.mem_cons_self  hu57) rfl (fun v60 bo so h59 => ?_)
      obtain ⟨rfl, rfl, rfl⟩ := h59
      refine Cov.same (bl' := [_, _]) (sl' := []) rfl rfl rfl ?_
      refine Cov.clsL (HpLe.refl _) (pick_mem [0, 1] rfl) ?_
      refine Cov.dq (.pick_t rfl rfl) rfl ?_
      refine Cov.prune _ ?_ (Cov.same rfl rfl rfl (hb12 () trivial))
      exact ⟨sval r58, rfl, rfl, rfl, trivial⟩
    · have r61 := ifBF h14 c11
      refine Cov.dgq_off rfl rfl rfl ?_
      refine Cov.dge_offL rfl rfl rfl (HpLe.refl _) (pick_mem [0, 1] rfl) ?_
      refine Cov.dq (.pick_f rfl rfl) rfl ?_
      refine Cov.prune _ ?_ (Cov.same rfl rfl rfl (hb12 () trivial))
      exact ⟨sval r61, rfl, rfl, rfl, trivial⟩

set_option maxHeartbeats 4000000 in
theorem planner_schemes_f1_i {Fs : List Hp} {G : Hp} {p1 : Value} {x1 : Int} {l : (List (Int × Int × Int × Int))} (hG : G ∈ Fs) (hp1 : Rp G p1 [.int .i64 x1]) (h : planner_schemes_f1 x1 = some l) : Iter Try.prog 41 [p1] Fs l.length (fun i v => ∃ x, l[i]? = some x ∧ (Yr.a (Rep.pair (Rep.int .i64) (Rep.pair (Rep.int .i64) (Rep.pair (Rep.int .i64) (Rep.int .i64))))).r G v x) := by
  unfold planner_schemes_f1 at h
  try dsimp only at h
  intro y 𝒢 R0 hy hR0
  refine RetG.of (vs := [_, _]) Try.func41 rfl Try.ntmps41 [(0, _), (1, _)] ⟨rfl, rfl, trivial⟩ rfl fun w0 => Cov.dup hG ?_
  have B0 : Bd w0 (blks [] [.g R0]) Fs G := Bd.fin hG
  generalize hS0 : blks [] [.g R0] = S0 at B0 ⊢
  replace h : _ = some (List.drop 0 l) := h
  refine Cov.seq ?_
  refine Cov.seq ?_
  refine Cov.region rfl ?_
  refine Cov.q .ro (.move rfl) rfl ?_
  refine Cov.q .ro (.load_rp hp1 List.mem_cons_self rfl ty3 rfl) rfl ?_
  refine Cov.q .ro (.build [_, _, _, _] [(0, _), (1, _)] ty33 pl33 rfl rfl) rfl ?_
  obtain ⟨h1, r2⟩ := yc_some h; clear h
  refine Cov.yield hy ⟨_, h1, ⟨_, rfl, ((Rep.pairI (Rep.intI .i64 1) (Rep.pairI (Rep.intI .i64 x1) (Rep.pairI (Rep.intI .i64 0) (Rep.intI .i64 0)))) :)⟩⟩ hR0 (fun _ h => List.mem_cons_of_mem _ h) rfl rfl rfl (fun R3 hR4 => ?_)
  refine Cov.q .ro (.not_t rfl) rfl ?_
  refine Cov.region_end ?_
  refine Cov.cond_false rfl ?_
  refine Cov.skip ?_
  refine Cov.seq ?_
  refine Cov.seq ?_
  refine Cov.region rfl ?_
  refine Cov.q .ro (.load_rp hp1 List.mem_cons_self rfl ty3 rfl) rfl ?_
  refine Cov.q .ro (.move rfl) rfl ?_
  refine Cov.region_end ?_
  refine Cov.cutB (β := Guest × Nat) (fun y => []) [(0, _), (1, _)] (fun y => G :: Fs) (fun y => []) [] (fun y => [.g y.1]) [] (fun y => 𝒢 y.2 y.1 ∧ y.2 ≤ l.length ∧ (planner_schemes_f1_J3 x1)  = some (List.drop y.2 l)) ⟨rfl, rfl, trivial⟩ [] rfl [] rfl ?_ ?_
  · intro y hI
    obtain ⟨R33, i34⟩ := y
    obtain ⟨hR35, le36, r38⟩ := hI
    try dsimp only at hR35 le36 r38
    refine Cov.prune [(0, _), (1, _)] ⟨rfl, rfl, trivial⟩ ?_
    refine Cov.same (bl' := []) (sl' := [.g R33]) (Fs' := G :: Fs) rfl rfl rfl ?_
    unfold planner_schemes_f1_J3 at r38
    try dsimp only at r38
    refine Cov.seq ?_
    refine Cov.region rfl ?_
    refine Cov.q .ro (.load_rp hp1 List.mem_cons_self rfl ty3 rfl) rfl ?_
    refine Cov.q .ro (.move rfl) rfl ?_
    refine Cov.region_end ?_
    refine Cov.block ?_
    refine Cov.loop2 (α := Nat × Guest × Nat × Int) (fun y => [(23, .int .i64 y.2.2.2)]) [(0, _), (1, _), (22, _)] (fun y => []) (fun y => []) [] (fun y => [.g y.2.1]) [] (fun y => 𝒢 y.2.2.1 y.2.1 ∧ y.2.2.1 ≤ l.length ∧ planner_schemes_f1_L2 x1 y.1 y.2.2.2 = some (List.drop y.2.2.1 l)) (fun y => y.1) (big, R33, i34, 0) ⟨hR35, le36, r38⟩ ⟨rfl, rfl, rfl, rfl, trivial⟩ rfl rfl rfl (fun y hI hb82 => ?_)
    obtain ⟨n74, R76, i77, v80⟩ := y
    obtain ⟨hR78, le79, r81⟩ := hI
    try dsimp only at hR78 le79 r81
    refine Cov.prune [(23, .int .i64 v80), (0, _), (1, _), (22, _)] ⟨rfl, rfl, rfl, rfl, trivial⟩ ?_
    refine Cov.same (bl' := []) (sl' := [.g R76]) (Fs' := G :: Fs) rfl rfl rfl ?_
    obtain ⟨m85, rfl⟩ : ∃ m, n74 = m + 1 := by cases n74 with | zero => exact absurd (show (none : Option _) = some _ from r81) (by simp) | succ m => exact ⟨m, rfl⟩
    have r84 : planner_schemes_f1_B2 x1 (planner_schemes_f1_L2 x1 m85) v80 = some (List.drop i77 l) := r81; clear r81; unfold planner_schemes_f1_B2 at r84; try dsimp only at r84
    refine Cov.seq ?_
    refine Cov.region rfl ?_
    refine Cov.q .ro (.lss rfl rfl) rfl ?_
    refine Cov.region_end ?_
    refine Cov.seq ?_
    refine Cov.cond_dec rfl (fun c86 => ?_) (fun c86 => ?_)
    · have r87 := ifT r84 c86; clear r84
      refine Cov.skip ?_
      refine Cov.seq ?_
      refine Cov.block ?_
      refine Cov.seq ?_
      refine Cov.region rfl ?_
      refine Cov.q .ro (.move rfl) rfl ?_
      refine Cov.q .ro (.assign rfl) rfl ?_
      refine Cov.region_end ?_
      refine Cov.seq ?_
      refine Cov.region rfl ?_
      refine Cov.q .ro (.load_rp hp1 List.mem_cons_self rfl ty3 rfl) rfl ?_
      refine Cov.q .ro (.move rfl) rfl ?_
      refine Cov.region_end ?_
      refine Cov.block ?_
      refine Cov.loop2 (α := Nat × Guest × Nat × Int) (fun y => [(27, .int .i64 y.2.2.2)]) [(23, _), (0, _), (1, _), (22, _), (4, _), (26, _)] (fun y => []) (fun y => []) [] (fun y => [.g y.2.1]) [] (fun y => 𝒢 y.2.2.1 y.2.1 ∧ y.2.2.1 ≤ l.length ∧ planner_schemes_f1_L1 (planner_schemes_f1_L2 x1 m85) v80 x1 y.1 y.2.2.2 = some (List.drop y.2.2.1 l)) (fun y => y.1) (big, R76, i77, 0) ⟨hR78, le79, r87⟩ ⟨rfl, rfl, rfl, rfl, rfl, rfl, rfl, trivial⟩ rfl rfl rfl (fun y hI hb105 => ?_)
      obtain ⟨n97, R99, i100, v103⟩ := y
      obtain ⟨hR101, le102, r104⟩ := hI
      try dsimp only at hR101 le102 r104
      refine Cov.prune [(27, .int .i64 v103), (23, _), (0, _), (1, _), (22, _), (4, _), (26, _)] ⟨rfl, rfl, rfl, rfl, rfl, rfl, rfl, trivial⟩ ?_
      refine Cov.same (bl' := []) (sl' := [.g R99]) (Fs' := G :: Fs) rfl rfl rfl ?_
      obtain ⟨m109, rfl⟩ : ∃ m, n97 = m + 1 := by cases n97 with | zero => exact absurd (show (none : Option _) = some _ from r104) (by simp) | succ m => exact ⟨m, rfl⟩
      have r108 : planner_schemes_f1_B1 (planner_schemes_f1_L2 x1 m85) v80 x1 (planner_schemes_f1_L1 (planner_schemes_f1_L2 x1 m85) v80 x1 m109) v103 = some (List.drop i100 l) := r104; clear r104; unfold planner_schemes_f1_B1 at r108; try dsimp only at r108
      refine Cov.seq ?_
      refine Cov.region rfl ?_
      refine Cov.q .ro (.lss rfl rfl) rfl ?_
      refine Cov.region_end ?_
      refine Cov.seq ?_
      refine Cov.cond_dec rfl (fun c110 => ?_) (fun c110 => ?_)
      · have r111 := ifT r108 c110; clear r108
        refine Cov.skip ?_
        refine Cov.seq ?_
        refine Cov.block ?_
        refine Cov.seq ?_
        refine Cov.region rfl ?_
        refine Cov.q .ro (.move rfl) rfl ?_
        refine Cov.q .ro (.assign rfl) rfl ?_
        refine Cov.region_end ?_
        refine Cov.seq ?_
        refine Cov.region rfl ?_
        refine Cov.q .ro (.move rfl) rfl ?_
        refine Cov.q .ro (.load_rp hp1 List.mem_cons_self rfl ty3 rfl) rfl ?_
        refine Cov.q .ro (.move rfl) rfl ?_
        refine Cov.q .ro (.move rfl) rfl ?_
        refine Cov.q .ro (.build [_, _, _, _] [(0, _), (1, _), (2, _), (3, _)] ty33 pl33 rfl rfl) rfl ?_
        obtain ⟨h112, r113⟩ := yc_some r111; clear r111
        refine Cov.yield hy ⟨_, h112, ⟨_, rfl, ((Rep.pairI (Rep.intI .i64 3) (Rep.pairI (Rep.intI .i64 x1) (Rep.pairI (Rep.intI .i64 v103) (Rep.intI .i64 v80)))) :)⟩⟩ hR101 (fun _ h => List.mem_cons_of_mem _ h) rfl rfl rfl (fun R114 hR115 => ?_)
        refine Cov.q .ro (.not_t rfl) rfl ?_
        refine Cov.region_end ?_
        refine Cov.cond_false rfl ?_
        refine Cov.skip ?_
        refine Cov.inBlock ?_
        refine Cov.region rfl ?_
        refine Cov.q .ro (.addw rfl rfl) rfl ?_
        refine Cov.q .ro (.move rfl) rfl ?_
        refine Cov.region_end ?_
        refine Cov.prune _ ?_ (Cov.same rfl rfl rfl (hb105 (m109, R114, (i100 + 1), (w64 (v103 + 1))) ⟨hR115, (yc_le h112), r113⟩ (Nat.lt_succ_self _)))
        exact ⟨rfl, rfl, rfl, rfl, rfl, rfl, rfl, trivial⟩
      · have r116 := ifF r108 c110; clear r108
        refine Cov.exit rfl ?_
        refine Cov.inBlock ?_
        refine Cov.region rfl ?_
        refine Cov.q .ro (.addw rfl rfl) rfl ?_
        refine Cov.q .ro (.move rfl) rfl ?_
        refine Cov.region_end ?_
        refine Cov.prune _ ?_ (Cov.same rfl rfl rfl (hb82 (m85, R99, i100, (w64 (v80 + 1))) ⟨hR101, le102, r116⟩ (Nat.lt_succ_self _)))
        exact ⟨rfl, rfl, rfl, rfl, trivial⟩
    · have r117 := ifF r84 c86; clear r84
      refine Cov.exit rfl ?_
      have hi := yc_end r117 le79
      refine Cov.leave (c := ⟨41, none⟩) (.inl rfl) [] [] rfl Try.func41 Try.results41 trivial (fun _ h => List.mem_cons_of_mem _ h) (.inl rfl) (fresh_emp _) ⟨rfl, R76, hi ▸ hR78, rfl⟩
  · intro hb118
    refine Cov.block ?_
    refine Cov.loop2 (α := Nat × Guest × Nat × Int) (fun y => [(12, .int .i64 y.2.2.2)]) [(0, _), (1, _), (11, _)] (fun y => []) (fun y => []) [] (fun y => [.g y.2.1]) [] (fun y => 𝒢 y.2.2.1 y.2.1 ∧ y.2.2.1 ≤ l.length ∧ planner_schemes_f1_L4 (planner_schemes_f1_J3 x1) x1 y.1 y.2.2.2 = some (List.drop y.2.2.1 l)) (fun y => y.1) (big, R3, (0 + 1), 0) ⟨hR4, (yc_le h1), r2⟩ ⟨rfl, rfl, rfl, rfl, trivial⟩ rfl rfl rfl (fun y hI hb136 => ?_)
    obtain ⟨n128, R130, i131, v134⟩ := y
    obtain ⟨hR132, le133, r135⟩ := hI
    try dsimp only at hR132 le133 r135
    refine Cov.prune [(12, .int .i64 v134), (0, _), (1, _), (11, _)] ⟨rfl, rfl, rfl, rfl, trivial⟩ ?_
    refine Cov.same (bl' := []) (sl' := [.g R130]) (Fs' := G :: Fs) rfl rfl rfl ?_
    obtain ⟨m139, rfl⟩ : ∃ m, n128 = m + 1 := by cases n128 with | zero => exact absurd (show (none : Option _) = some _ from r135) (by simp) | succ m => exact ⟨m, rfl⟩
    have r138 : planner_schemes_f1_B4 (planner_schemes_f1_J3 x1) x1 (planner_schemes_f1_L4 (planner_schemes_f1_J3 x1) x1 m139) v134 = some (List.drop i131 l) := r135; clear r135; unfold planner_schemes_f1_B4 at r138; try dsimp only at r138
    refine Cov.seq ?_
    refine Cov.region rfl ?_
    refine Cov.q .ro (.lss rfl rfl) rfl ?_
    refine Cov.region_end ?_
    refine Cov.seq ?_
    refine Cov.cond_dec rfl (fun c140 => ?_) (fun c140 => ?_)
    · have r141 := ifT r138 c140; clear r138
      refine Cov.skip ?_
      refine Cov.seq ?_
      refine Cov.block ?_
      refine Cov.seq ?_
      refine Cov.region rfl ?_
      refine Cov.q .ro (.move rfl) rfl ?_
      refine Cov.q .ro (.assign rfl) rfl ?_
      refine Cov.region_end ?_
      refine Cov.seq ?_
      refine Cov.region rfl ?_
      refine Cov.q .ro (.move rfl) rfl ?_
      refine Cov.q .ro (.load_rp hp1 List.mem_cons_self rfl ty3 rfl) rfl ?_
      refine Cov.q .ro (.move rfl) rfl ?_
      refine Cov.q .ro (.build [_, _, _, _] [(0, _), (1, _), (2, _)] ty33 pl33 rfl rfl) rfl ?_
      obtain ⟨h142, r143⟩ := yc_some r141; clear r141
      refine Cov.yield hy ⟨_, h142, ⟨_, rfl, ((Rep.pairI (Rep.intI .i64 2) (Rep.pairI (Rep.intI .i64 x1) (Rep.pairI (Rep.intI .i64 v134) (Rep.intI .i64 0)))) :)⟩⟩ hR132 (fun _ h => List.mem_cons_of_mem _ h) rfl rfl rfl (fun R144 hR145 => ?_)
      refine Cov.q .ro (.not_t rfl) rfl ?_
      refine Cov.region_end ?_
      refine Cov.cond_false rfl ?_
      refine Cov.skip ?_
      refine Cov.inBlock ?_
      refine Cov.region rfl ?_
      refine Cov.q .ro (.addw rfl rfl) rfl ?_
      refine Cov.q .ro (.move rfl) rfl ?_
      refine Cov.region_end ?_
      refine Cov.prune _ ?_ (Cov.same rfl rfl rfl (hb136 (m139, R144, (i131 + 1), (w64 (v134 + 1))) ⟨hR145, (yc_le h142), r143⟩ (Nat.lt_succ_self _)))
      exact ⟨rfl, rfl, rfl, rfl, trivial⟩
    · have r146 := ifF r138 c140; clear r138
      refine Cov.exit rfl ?_
      refine Cov.prune _ ?_ (Cov.same rfl rfl rfl (hb118 (R130, i131) ⟨hR132, le133, r146⟩))
      exact ⟨rfl, rfl, trivial⟩

set_option maxHeartbeats 4000000 in
theorem planner_schemes_c {Fs : List Hp} {G : Hp} {x0 : Int} {r : (List (Int × Int × Int × Int))} (hG : G ∈ Fs)  (h : planner_schemes x0 = some r) : RetW Try.prog 31 #[.int .i64 x0] Fs [] [] (fun v bo so G => ∃ (Fi0 : FuncId) (ci0 : List Value), v = .func (.func Fi0) #[] ci0.toArray ∧ bo = [] ∧ so = [] ∧ (∀ args w, (callFunc Fi0 args).run Try.prog w = .ok (.enter Fi0 args) w) ∧ IterR Try.prog (Yr.a (Rep.pair (Rep.int .i64) (Rep.pair (Rep.int .i64) (Rep.pair (Rep.int .i64) (Rep.int .i64))))) Fi0 ci0 G r) := by
  unfold planner_schemes at h
  try dsimp only at h
  refine RetW.of (vs := [_]) Try.func31 rfl Try.ntmps31 [(0, _)] ⟨rfl, trivial⟩ rfl hG fun w0 S0 hS0 B0 => ?_
  refine Cov.seq ?_
  refine Cov.region rfl ?_
  refine Cov.box [_] .ro rfl rfl rfl (fun b1 hb1 => ?_)
  refine Cov.q .ro (.assign rfl) rfl ?_
  refine Cov.region_end ?_
  refine Cov.seq ?_
  refine Cov.region rfl ?_
  refine Cov.q .ro (.makeFunc (vf := []) (vc := [_]) rfl rfl) rfl ?_
  refine Cov.q .ro (.assign rfl) rfl ?_
  refine Cov.region_end ?_
  refine Cov.freezeBR 0 rfl [] rfl B0 (fun G2 e3 B4 p5 => ?_)
  obtain ⟨u7, hu7, r8⟩ := bind_some h; clear h
  cases r8
  refine Cov.retW (c := ⟨31, none⟩) (.inr ⟨_, rfl⟩) [.tmp 2] [_] rfl Try.func31 Try.results31 ⟨RV.tmp rfl, trivial⟩ (fun _ h => List.mem_cons_of_mem _ h) List.mem_cons_self B4 (by subst hS0; simp [blks]) (fun G' hg => ⟨_, _, rfl, rfl, rfl, Try.call41, (fun Fs' G1 hle hm => planner_schemes_f1_i (G := G1) hm (Rp.mono (HpLe.trans hg hle) p5) hu7)⟩)

set_option maxHeartbeats 4000000 in
theorem scheme_storage_c {Fs : List Hp} {G : Hp} {x0_0 : Int} {x0_1 : Int} {x0_2 : Int} {x0_3 : Int} {r : (Int × Int × Int)} (hG : G ∈ Fs)  (h : scheme_storage (x0_0, x0_1, x0_2, x0_3) = some r) : RetS Try.prog 49 #[.agg #[.int .i64 x0_0, .int .i64 x0_1, .int .i64 x0_2, .int .i64 x0_3]] Fs [] [] (fun v bo so => v = .agg #[.int .i64 r.1, .int .i64 r.2.1, .int .i64 r.2.2] ∧ bo = [] ∧ so = []) := by
  unfold scheme_storage at h
  try dsimp only at h
  refine RetS.of (vs := [_]) Try.func49 rfl Try.ntmps49 [(0, _)] ⟨rfl, trivial⟩ rfl hG fun w0 S0 hS0 B0 => ?_
  refine Cov.seq ?_
  refine Cov.region rfl ?_
  refine Cov.box [_, _, _, _] .ro rfl rfl rfl (fun b1 hb1 => ?_)
  refine Cov.alloc .ro ty74 rfl (fun b2 hb2 => ?_)
  refine Cov.region_end ?_
  refine Cov.seq ?_
  refine Cov.region rfl ?_
  refine Cov.q .ro (.fieldAddr 1 rfl fl33_1 ty3.sz rfl) rfl ?_
  refine Cov.q .ro (.load_own 1 rfl rfl ty3 rfl) rfl ?_
  refine Cov.q .ro (.fieldAddr 2 rfl fl33_2 ty3.sz rfl) rfl ?_
  refine Cov.q .ro (.load_own 1 rfl rfl ty3 rfl) rfl ?_
  refine Cov.q .ro (.fieldAddr 3 rfl fl33_3 ty3.sz rfl) rfl ?_
  refine Cov.q .ro (.load_own 1 rfl rfl ty3 rfl) rfl ?_
  refine Cov.q .ro (.build [_, _, _] [(0, _), (1, _), (2, _)] ty74 pl74 rfl rfl) rfl ?_
  refine Cov.store 0 [_, _, _] [_, _] .ro rfl rfl rfl ty74 rfl rfl rfl rfl ?_
  refine Cov.region_end ?_
  cases h
  refine Cov.retSD 2 (c := ⟨49, none⟩) (.inr ⟨_, rfl⟩) [.cell 2 74] [_] rfl Try.func49 Try.results49 ⟨RV.cell_a 0 [_, _, _] rfl rfl ty74 rfl, trivial⟩ (fun _ h => List.mem_cons_of_mem _ h) ⟨rfl, rfl, rfl⟩

set_option maxHeartbeats 4000000 in
theorem scheme_groups_units_c {Fs : List Hp} {G : Hp} {x0_0 : Int} {x0_1 : Int} {x0_2 : Int} {x1 : Int} {r : Int} (hG : G ∈ Fs)  (h : scheme_groups_units (x0_0, x0_1, x0_2) x1 = some r) : RetS Try.prog 50 #[.agg #[.int .i64 x0_0, .int .i64 x0_1, .int .i64 x0_2], .int .i64 x1] Fs [] [] (fun v bo so => v = .int .i64 r ∧ bo = [] ∧ so = []) := by
  unfold scheme_groups_units at h
  try dsimp only at h
  refine RetS.of (vs := [_, _]) Try.func50 rfl Try.ntmps50 [(0, _), (1, _)] ⟨rfl, rfl, trivial⟩ rfl hG fun w0 S0 hS0 B0 => ?_
  refine Cov.seq ?_
  refine Cov.region rfl ?_
  refine Cov.box [_, _, _] .ro rfl rfl rfl (fun b1 hb1 => ?_)
  refine Cov.q .ro (.assign rfl) rfl ?_
  refine Cov.region_end ?_
  refine Cov.seq ?_
  refine Cov.region rfl ?_
  refine Cov.q .ro (.move rfl) rfl ?_
  refine Cov.q .ro (.fieldAddr 2 rfl fl73_2 ty3.sz rfl) rfl ?_
  refine Cov.q .ro (.load_own 0 rfl rfl ty3 rfl) rfl ?_
  refine Cov.q .ro (.addw rfl rfl) rfl ?_
  refine Cov.q .ro (.subw rfl rfl) rfl ?_
  refine Cov.q .ro (.fieldAddr 2 rfl fl73_2 ty3.sz rfl) rfl ?_
  refine Cov.q .ro (.load_own 0 rfl rfl ty3 rfl) rfl ?_
  obtain ⟨u2, hu2, r3⟩ := bind_some h; clear h
  refine Cov.q .ro (.quow rfl rfl (nz_some hu2)) rfl ?_
  refine Cov.q .ro (.assign rfl) rfl ?_
  refine Cov.region_end ?_
  cases r3
  refine Cov.drop 1 0 [] _ rfl rfl ?_
  refine Cov.retS (c := ⟨50, none⟩) (.inr ⟨_, rfl⟩) [.tmp 4] [_] rfl Try.func50 Try.results50 ⟨RV.tmp rfl, trivial⟩ (fun _ h => List.mem_cons_of_mem _ h) ⟨rfl, rfl, rfl⟩

set_option maxHeartbeats 4000000 in
theorem scheme_Units_c {Fs : List Hp} {G : Hp} {x0_0 : Int} {x0_1 : Int} {x0_2 : Int} {x0_3 : Int} {x1 : Int} {r : Int} (hG : G ∈ Fs)  (h : scheme_Units (x0_0, x0_1, x0_2, x0_3) x1 = some r) : RetS Try.prog 48 #[.agg #[.int .i64 x0_0, .int .i64 x0_1, .int .i64 x0_2, .int .i64 x0_3], .int .i64 x1] Fs [] [] (fun v bo so => v = .int .i64 r ∧ bo = [] ∧ so = []) := by
  unfold scheme_Units at h
  try dsimp only at h
  refine RetS.of (vs := [_, _]) Try.func48 rfl Try.ntmps48 [(0, _), (1, _)] ⟨rfl, rfl, trivial⟩ rfl hG fun w0 S0 hS0 B0 => ?_
  refine Cov.seq ?_
  refine Cov.region rfl ?_
  refine Cov.box [_, _, _, _] .ro rfl rfl rfl (fun b1 hb1 => ?_)
  refine Cov.q .ro (.assign rfl) rfl ?_
  refine Cov.region_end ?_
  refine Cov.seq ?_
  refine Cov.block ?_
  refine Cov.seq ?_
  refine Cov.region rfl ?_
  refine Cov.q .ro (.load_own_a 0 [_, _, _, _] rfl rfl ty33 rfl) rfl ?_
  obtain ⟨u2, hu2, r3⟩ := bind_some h; clear h
  refine Cov.callS (b1 := []) (b2 := [_]) (s1 := []) [_] [] .ro rfl rfl Try.call35 rfl rfl (scheme_Shape_c (G := G) List.mem_cons_self  hu2) rfl (fun v5 bo so h4 => ?_)
  obtain ⟨rfl, rfl, rfl⟩ := h4
  refine Cov.same (bl' := [_]) (sl' := []) rfl rfl rfl ?_
  refine Cov.q .ro (.not rfl) rfl ?_
  refine Cov.q .ro (.move rfl) rfl ?_
  obtain ⟨u12, h13, r14⟩ := bind_some r3; clear r3
  refine Cov.cutR 4 (β := Unit) (fun y => [(13, .bool u12)]) [(1, _), (2, _)] (fun y => G :: Fs) (fun y => []) [_] (fun y => []) [] (fun y => True) ⟨rfl, rfl, trivial⟩ [0] rfl [] rfl ?_ ?_
  · rintro _ _
    refine Cov.prune [(13, .bool u12), (1, _), (2, _)] ⟨rfl, rfl, rfl, trivial⟩ ?_
    refine Cov.same (bl' := [_]) (sl' := []) (Fs' := G :: Fs) rfl rfl rfl ?_
    refine Cov.q .ro (.assign rfl) rfl ?_
    refine Cov.region_end ?_
    refine Cov.cond rfl (fun c17 => ?_) (fun c17 => ?_)
    · have r18 := ifT r14 c17; clear r14
      refine Cov.seq ?_
      refine Cov.region rfl ?_
      refine Cov.q .ro (.assign rfl) rfl ?_
      refine Cov.region_end ?_
      cases r18
      refine Cov.drop 1 0 [] _ rfl rfl ?_
      refine Cov.retS (c := ⟨48, none⟩) (.inr ⟨_, rfl⟩) [.tmp 4] [_] rfl Try.func48 Try.results48 ⟨RV.tmp rfl, trivial⟩ (fun _ h => List.mem_cons_of_mem _ h) ⟨rfl, rfl, rfl⟩
    · have r19 := ifBF r14 c17; clear r14
      refine Cov.seq ?_
      refine Cov.region rfl ?_
      refine Cov.q .ro (.fieldAddr 0 rfl fl33_0 ty3.sz rfl) rfl ?_
      refine Cov.q .ro (.load_own 0 rfl rfl ty3 rfl) rfl ?_
      refine Cov.q .ro (.eql rfl rfl) rfl ?_
      refine Cov.q .ro (.assign rfl) rfl ?_
      refine Cov.region_end ?_
      refine Cov.cond_dec rfl (fun c20 => ?_) (fun c20 => ?_)
      · have r21 := ifT r19 c20; clear r19
        refine Cov.seq ?_
        refine Cov.region rfl ?_
        refine Cov.q .ro (.load_own_a 0 [_, _, _, _] rfl rfl ty33 rfl) rfl ?_
        obtain ⟨u22, hu22, r23⟩ := bind_some r21; clear r21
        refine Cov.callS (b1 := []) (b2 := [_]) (s1 := []) [_] [] .ro rfl rfl Try.call49 rfl rfl (scheme_storage_c (G := G) List.mem_cons_self  hu22) rfl (fun v25 bo so h24 => ?_)
        obtain ⟨rfl, rfl, rfl⟩ := h24
        refine Cov.same (bl' := [_]) (sl' := []) rfl rfl rfl ?_
        refine Cov.q .ro (.move rfl) rfl ?_
        obtain ⟨u26, hu26, r27⟩ := bind_some r23; clear r23
        refine Cov.callS (b1 := []) (b2 := [_]) (s1 := []) [_, _] [] .ro rfl rfl Try.call50 rfl rfl (scheme_groups_units_c (G := G) List.mem_cons_self  hu26) rfl (fun v29 bo so h28 => ?_)
        obtain ⟨rfl, rfl, rfl⟩ := h28
        refine Cov.same (bl' := [_]) (sl' := []) rfl rfl rfl ?_
        refine Cov.q .ro (.assign rfl) rfl ?_
        refine Cov.region_end ?_
        cases r27
        refine Cov.drop 1 0 [] _ rfl rfl ?_
        refine Cov.retS (c := ⟨48, none⟩) (.inr ⟨_, rfl⟩) [.tmp 4] [_] rfl Try.func48 Try.results48 ⟨RV.tmp rfl, trivial⟩ (fun _ h => List.mem_cons_of_mem _ h) ⟨rfl, rfl, rfl⟩
      · have r30 := ifF r19 c20; clear r19
        refine Cov.skip ?_
        refine Cov.inBlock ?_
        refine Cov.seq ?_
        refine Cov.region rfl ?_
        refine Cov.q .ro (.move rfl) rfl ?_
        refine Cov.q .ro (.assign rfl) rfl ?_
        refine Cov.region_end ?_
        cases r30
        refine Cov.drop 1 0 [] _ rfl rfl ?_
        refine Cov.retS (c := ⟨48, none⟩) (.inr ⟨_, rfl⟩) [.tmp 4] [_] rfl Try.func48 Try.results48 ⟨RV.tmp rfl, trivial⟩ (fun _ h => List.mem_cons_of_mem _ h) ⟨rfl, rfl, rfl⟩
  · intro hb11
    refine Cov.split_b 9 rfl (fun c10 => ?_) (fun c10 => ?_)
    · have r31 := ifT h13 c10
      refine Cov.g_off rfl rfl rfl ?_
      refine Cov.g_off rfl rfl rfl ?_
      refine Cov.g_off rfl rfl rfl ?_
      refine Cov.q .ro (.pick_t rfl rfl) rfl ?_
      refine Cov.prune _ ?_ (Cov.same rfl rfl rfl (hb11 () trivial))
      exact ⟨sval r31, rfl, rfl, trivial⟩
    · have r32 := ifBF h13 c10
      refine Cov.g_on rfl ?_
      refine Cov.q .ro (.move rfl) rfl ?_
      refine Cov.g_on rfl ?_
      obtain ⟨u33, hu33, r34⟩ := bind_some r32; clear r32
      refine Cov.callS (b1 := []) (b2 := [_]) (s1 := []) [_, _, _] [] .ro rfl rfl Try.call46 rfl rfl (scheme_within_c (G := G) List.mem_cons_self  hu33) rfl (fun v36 bo so h35 => ?_)
      obtain ⟨rfl, rfl, rfl⟩ := h35
      refine Cov.same (bl' := [_]) (sl' := []) rfl rfl rfl ?_
      refine Cov.g_on rfl ?_
      refine Cov.q .ro (.not rfl) rfl ?_
      refine Cov.q .ro (.pick_f rfl rfl) rfl ?_
      refine Cov.prune _ ?_ (Cov.same rfl rfl rfl (hb11 () trivial))
      exact ⟨sval r34, rfl, rfl, trivial⟩

set_option maxHeartbeats 4000000 in
theorem cost_Units_c {Fs : List Hp} {G : Hp} {x0_0 : Int} {x0_1 : Int} {x0_2 : Int} {x0_3 : Int} {x1 : Int} {r : (Int × Int)} (hG : G ∈ Fs)  (h : cost_Units (x0_0, x0_1, x0_2, x0_3) x1 = some r) : RetS Try.prog 42 #[.agg #[.int .i64 x0_0, .int .i64 x0_1, .int .i64 x0_2, .int .i64 x0_3], .int .i64 x1] Fs [] [] (fun v bo so => v = .tuple #[.int .i64 r.1, .int .i64 r.2] ∧ bo = [] ∧ so = []) := by
  unfold cost_Units at h
  try dsimp only at h
  refine RetS.of (vs := [_, _]) Try.func42 rfl Try.ntmps42 [(0, _), (1, _)] ⟨rfl, rfl, trivial⟩ rfl hG fun w0 S0 hS0 B0 => ?_
  refine Cov.seq ?_
  refine Cov.region rfl ?_
  refine Cov.box [_, _, _, _] .ro rfl rfl rfl (fun b1 hb1 => ?_)
  refine Cov.q .ro (.assign rfl) rfl ?_
  refine Cov.q .ro (.assign rfl) rfl ?_
  refine Cov.region_end ?_
  refine Cov.seq ?_
  refine Cov.block ?_
  refine Cov.seq ?_
  refine Cov.region rfl ?_
  refine Cov.q .ro (.load_own_a 0 [_, _, _, _] rfl rfl ty33 rfl) rfl ?_
  obtain ⟨u2, hu2, r3⟩ := bind_some h; clear h
  refine Cov.callS (b1 := []) (b2 := [_]) (s1 := []) [_] [] .ro rfl rfl Try.call35 rfl rfl (scheme_Shape_c (G := G) List.mem_cons_self  hu2) rfl (fun v5 bo so h4 => ?_)
  obtain ⟨rfl, rfl, rfl⟩ := h4
  refine Cov.same (bl' := [_]) (sl' := []) rfl rfl rfl ?_
  refine Cov.q .ro (.not rfl) rfl ?_
  refine Cov.q .ro (.assign rfl) rfl ?_
  refine Cov.region_end ?_
  refine Cov.cond rfl (fun c6 => ?_) (fun c6 => ?_)
  · have r7 := ifT r3 c6; clear r3
    refine Cov.seq ?_
    refine Cov.region rfl ?_
    refine Cov.q .ro (.assign rfl) rfl ?_
    refine Cov.q .ro (.assign rfl) rfl ?_
    refine Cov.region_end ?_
    cases r7
    refine Cov.drop 1 0 [] _ rfl rfl ?_
    refine Cov.retS (c := ⟨42, none⟩) (.inr ⟨_, rfl⟩) [.tmp 4, .tmp 5] [_, _] rfl Try.func42 Try.results42 ⟨RV.tmp rfl, RV.tmp rfl, trivial⟩ (fun _ h => List.mem_cons_of_mem _ h) ⟨rfl, rfl, rfl⟩
  · have r8 := ifBF r3 c6; clear r3
    refine Cov.seq ?_
    refine Cov.region rfl ?_
    refine Cov.q .ro (.move rfl) rfl ?_
    refine Cov.q .ro (.lss rfl rfl) rfl ?_
    refine Cov.q .ro (.move rfl) rfl ?_
    refine Cov.cutR 3 (β := Unit) (fun y => [(16, .bool (decide ((x1 < 1) ∨ (1024 < x1))))]) [(1, _), (2, _)] (fun y => G :: Fs) (fun y => []) [_] (fun y => []) [] (fun y => True) ⟨rfl, rfl, trivial⟩ [0] rfl [] rfl ?_ ?_
    · rintro _ _
      refine Cov.prune [(16, .bool (decide ((x1 < 1) ∨ (1024 < x1)))), (1, _), (2, _)] ⟨rfl, rfl, rfl, trivial⟩ ?_
      refine Cov.same (bl' := [_]) (sl' := []) (Fs' := G :: Fs) rfl rfl rfl ?_
      refine Cov.q .ro (.assign rfl) rfl ?_
      refine Cov.region_end ?_
      refine Cov.cond_dec rfl (fun c13 => ?_) (fun c13 => ?_)
      · have r14 := ifT r8 c13; clear r8
        refine Cov.seq ?_
        refine Cov.region rfl ?_
        refine Cov.q .ro (.assign rfl) rfl ?_
        refine Cov.q .ro (.assign rfl) rfl ?_
        refine Cov.region_end ?_
        cases r14
        refine Cov.drop 1 0 [] _ rfl rfl ?_
        refine Cov.retS (c := ⟨42, none⟩) (.inr ⟨_, rfl⟩) [.tmp 4, .tmp 5] [_, _] rfl Try.func42 Try.results42 ⟨RV.tmp rfl, RV.tmp rfl, trivial⟩ (fun _ h => List.mem_cons_of_mem _ h) ⟨rfl, rfl, rfl⟩
      · have r15 := ifF r8 c13; clear r8
        refine Cov.skip ?_
        refine Cov.inBlock ?_
        refine Cov.seq ?_
        refine Cov.region rfl ?_
        refine Cov.q .ro (.load_own_a 0 [_, _, _, _] rfl rfl ty33 rfl) rfl ?_
        refine Cov.q .ro (.move rfl) rfl ?_
        obtain ⟨u16, hu16, r17⟩ := bind_some r15; clear r15
        refine Cov.callS (b1 := []) (b2 := [_]) (s1 := []) [_, _] [] .ro rfl rfl Try.call48 rfl rfl (scheme_Units_c (G := G) List.mem_cons_self  hu16) rfl (fun v19 bo so h18 => ?_)
        obtain ⟨rfl, rfl, rfl⟩ := h18
        refine Cov.same (bl' := [_]) (sl' := []) rfl rfl rfl ?_
        refine Cov.q .ro (.assign rfl) rfl ?_
        refine Cov.q .ro (.assign rfl) rfl ?_
        refine Cov.region_end ?_
        cases r17
        refine Cov.drop 1 0 [] _ rfl rfl ?_
        refine Cov.retS (c := ⟨42, none⟩) (.inr ⟨_, rfl⟩) [.tmp 4, .tmp 5] [_, _] rfl Try.func42 Try.results42 ⟨RV.tmp rfl, RV.tmp rfl, trivial⟩ (fun _ h => List.mem_cons_of_mem _ h) ⟨rfl, rfl, rfl⟩
    · intro hb10
      refine Cov.split 13 rfl (fun c9 => ?_) (fun c9 => ?_)
      · refine Cov.g_off rfl rfl rfl ?_
        refine Cov.g_off rfl rfl rfl ?_
        refine Cov.q .ro (.pick_t rfl rfl) rfl ?_
        refine Cov.prune _ ?_ (Cov.same rfl rfl rfl (hb10 () trivial))
        exact ⟨dor_t c9, rfl, rfl, trivial⟩
      · refine Cov.g_on rfl ?_
        refine Cov.q .ro (.move rfl) rfl ?_
        refine Cov.g_on rfl ?_
        refine Cov.q .ro (.gtr rfl rfl) rfl ?_
        refine Cov.q .ro (.pick_f rfl rfl) rfl ?_
        refine Cov.prune _ ?_ (Cov.same rfl rfl rfl (hb10 () trivial))
        exact ⟨dor_f c9, rfl, rfl, trivial⟩

set_option maxHeartbeats 4000000 in
theorem cost_Of_c {Fs : List Hp} {G : Hp} {x0_0 : Int} {x0_1 : Int} {x0_2 : Int} {x0_3 : Int} {x1 : Int} {x2 : Int} {x3 : Int} {r : ((Int × Int × Int) × Int)} (hG : G ∈ Fs)  (h : cost_Of (x0_0, x0_1, x0_2, x0_3) x1 x2 x3 = some r) : RetS Try.prog 32 #[.agg #[.int .i64 x0_0, .int .i64 x0_1, .int .i64 x0_2, .int .i64 x0_3], .int .i64 x1, .int .i64 x2, .int .i64 x3] Fs [] [] (fun v bo so => v = .tuple #[.agg #[.int .i64 r.1.1, .int .i64 r.1.2.1, .int .i64 r.1.2.2], .int .i64 r.2] ∧ bo = [] ∧ so = []) := by
  unfold cost_Of at h
  try dsimp only at h
  refine RetS.of (vs := [_, _, _, _]) Try.func32 rfl Try.ntmps32 [(0, _), (1, _), (2, _), (3, _)] ⟨rfl, rfl, rfl, rfl, trivial⟩ rfl hG fun w0 S0 hS0 B0 => ?_
  refine Cov.seq ?_
  refine Cov.region rfl ?_
  refine Cov.box [_, _, _, _] .ro rfl rfl rfl (fun b1 hb1 => ?_)
  refine Cov.alloc .ro ty27 rfl (fun b2 hb2 => ?_)
  refine Cov.q .ro (.assign rfl) rfl ?_
  refine Cov.region_end ?_
  refine Cov.seq ?_
  refine Cov.region rfl ?_
  refine Cov.q .ro (.load_own_a 1 [_, _, _, _] rfl rfl ty33 rfl) rfl ?_
  refine Cov.q .ro (.move rfl) rfl ?_
  obtain ⟨u3, hu3, r4⟩ := bind_some h; clear h
  refine Cov.callS (b1 := []) (b2 := [_, _]) (s1 := []) [_, _] [] .ro rfl rfl Try.call42 rfl rfl (cost_Units_c (G := G) List.mem_cons_self  hu3) rfl (fun v6 bo so h5 => ?_)
  obtain ⟨rfl, rfl, rfl⟩ := h5
  refine Cov.same (bl' := [_, _]) (sl' := []) rfl rfl rfl ?_
  refine Cov.q .ro (.move rfl) rfl ?_
  refine Cov.q .ro (.extract rfl rfl) rfl ?_
  refine Cov.q .ro (.extract rfl rfl) rfl ?_
  refine Cov.q .ro (.assign rfl) rfl ?_
  refine Cov.q .ro (.assign rfl) rfl ?_
  refine Cov.region_end ?_
  refine Cov.seq ?_
  refine Cov.block ?_
  refine Cov.seq ?_
  refine Cov.region rfl ?_
  refine Cov.q .ro (.move rfl) rfl ?_
  refine Cov.q .ro (.neq rfl rfl) rfl ?_
  refine Cov.q .ro (.assign rfl) rfl ?_
  refine Cov.region_end ?_
  refine Cov.cond_dec rfl (fun c7 => ?_) (fun c7 => ?_)
  · have r8 := ifT r4 c7; clear r4
    refine Cov.seq ?_
    refine Cov.region rfl ?_
    refine Cov.q .ro (.build [_, _, _] [] ty27 pl27 rfl rfl) rfl ?_
    refine Cov.q .ro (.move rfl) rfl ?_
    refine Cov.store 0 [_, _, _] [_, _] .ro rfl rfl rfl ty27 rfl rfl rfl rfl ?_
    refine Cov.q .ro (.assign rfl) rfl ?_
    refine Cov.region_end ?_
    refine Cov.prune [(8, _), (9, _)] ⟨rfl, rfl, trivial⟩ ?_
    cases r8
    refine Cov.retSD 2 (c := ⟨32, none⟩) (.inr ⟨_, rfl⟩) [.cell 8 27, .tmp 9] [_, _] rfl Try.func32 Try.results32 ⟨RV.cell_a 0 [_, _, _] rfl rfl ty27 rfl, RV.tmp rfl, trivial⟩ (fun _ h => List.mem_cons_of_mem _ h) ⟨rfl, rfl, rfl⟩
  · have r9 := ifF r4 c7; clear r4
    refine Cov.seq ?_
    refine Cov.region rfl ?_
    refine Cov.q .ro (.move rfl) rfl ?_
    refine Cov.q .ro (.lss rfl rfl) rfl ?_
    refine Cov.q .ro (.move rfl) rfl ?_
    refine Cov.cutR 3 (β := Unit) (fun y => [(30, .bool (decide ((x2 < 1) ∨ (64 < x2))))]) [(2, _), (3, _), (4, _), (8, _), (10, _)] (fun y => G :: Fs) (fun y => []) [_, _] (fun y => []) [] (fun y => True) ⟨rfl, rfl, rfl, rfl, rfl, trivial⟩ [0, 1] rfl [] rfl ?_ ?_
    · rintro _ _
      refine Cov.prune [(30, .bool (decide ((x2 < 1) ∨ (64 < x2)))), (2, _), (3, _), (4, _), (8, _), (10, _)] ⟨rfl, rfl, rfl, rfl, rfl, rfl, trivial⟩ ?_
      refine Cov.same (bl' := [_, _]) (sl' := []) (Fs' := G :: Fs) rfl rfl rfl ?_
      refine Cov.q .ro (.move rfl) rfl ?_
      refine Cov.cutR 3 (β := Unit) (fun y => [(34, .bool (decide (((x2 < 1) ∨ (64 < x2)) ∨ (x3 < 1))))]) [(2, _), (3, _), (4, _), (8, _), (10, _)] (fun y => G :: Fs) (fun y => []) [_, _] (fun y => []) [] (fun y => True) ⟨rfl, rfl, rfl, rfl, rfl, trivial⟩ [0, 1] rfl [] rfl ?_ ?_
      · rintro _ _
        refine Cov.prune [(34, .bool (decide (((x2 < 1) ∨ (64 < x2)) ∨ (x3 < 1)))), (2, _), (3, _), (4, _), (8, _), (10, _)] ⟨rfl, rfl, rfl, rfl, rfl, rfl, trivial⟩ ?_
        refine Cov.same (bl' := [_, _]) (sl' := []) (Fs' := G :: Fs) rfl rfl rfl ?_
        refine Cov.q .ro (.move rfl) rfl ?_
        refine Cov.cutR 3 (β := Unit) (fun y => [(38, .bool (decide ((((x2 < 1) ∨ (64 < x2)) ∨ (x3 < 1)) ∨ (16 < x3))))]) [(2, _), (3, _), (4, _), (8, _), (10, _)] (fun y => G :: Fs) (fun y => []) [_, _] (fun y => []) [] (fun y => True) ⟨rfl, rfl, rfl, rfl, rfl, trivial⟩ [0, 1] rfl [] rfl ?_ ?_
        · rintro _ _
          refine Cov.prune [(38, .bool (decide ((((x2 < 1) ∨ (64 < x2)) ∨ (x3 < 1)) ∨ (16 < x3)))), (2, _), (3, _), (4, _), (8, _), (10, _)] ⟨rfl, rfl, rfl, rfl, rfl, rfl, trivial⟩ ?_
          refine Cov.same (bl' := [_, _]) (sl' := []) (Fs' := G :: Fs) rfl rfl rfl ?_
          refine Cov.q .ro (.assign rfl) rfl ?_
          refine Cov.region_end ?_
          refine Cov.cond_dec rfl (fun c22 => ?_) (fun c22 => ?_)
          · have r23 := ifT r9 c22; clear r9
            refine Cov.seq ?_
            refine Cov.region rfl ?_
            refine Cov.q .ro (.build [_, _, _] [] ty27 pl27 rfl rfl) rfl ?_
            refine Cov.store 0 [_, _, _] [_, _] .ro rfl rfl rfl ty27 rfl rfl rfl rfl ?_
            refine Cov.q .ro (.assign rfl) rfl ?_
            refine Cov.region_end ?_
            cases r23
            refine Cov.retSD 2 (c := ⟨32, none⟩) (.inr ⟨_, rfl⟩) [.cell 8 27, .tmp 9] [_, _] rfl Try.func32 Try.results32 ⟨RV.cell_a 0 [_, _, _] rfl rfl ty27 rfl, RV.tmp rfl, trivial⟩ (fun _ h => List.mem_cons_of_mem _ h) ⟨rfl, rfl, rfl⟩
          · have r24 := ifF r9 c22; clear r9
            refine Cov.skip ?_
            refine Cov.inBlock ?_
            refine Cov.seq ?_
            refine Cov.region rfl ?_
            refine Cov.q .ro (.move rfl) rfl ?_
            refine Cov.q .ro (.fieldAddr 1 rfl fl33_1 ty3.sz rfl) rfl ?_
            refine Cov.q .ro (.load_own 1 rfl rfl ty3 rfl) rfl ?_
            refine Cov.q .ro (.mulw rfl rfl) rfl ?_
            refine Cov.q .ro (.assign rfl) rfl ?_
            refine Cov.region_end ?_
            refine Cov.seq ?_
            refine Cov.region rfl ?_
            refine Cov.q .ro (.move rfl) rfl ?_
            refine Cov.q .ro (.move rfl) rfl ?_
            refine Cov.q .ro (.mulw rfl rfl) rfl ?_
            refine Cov.q .ro (.move rfl) rfl ?_
            refine Cov.q .ro (.move rfl) rfl ?_
            refine Cov.q .ro (.mulw rfl rfl) rfl ?_
            refine Cov.q .ro (.move rfl) rfl ?_
            refine Cov.q .ro (.move rfl) rfl ?_
            refine Cov.q .ro (.mulw rfl rfl) rfl ?_
            refine Cov.q .ro (.move rfl) rfl ?_
            refine Cov.q .ro (.mulw rfl rfl) rfl ?_
            refine Cov.q .ro (.build [_, _, _] [(0, _), (1, _), (2, _)] ty27 pl27 rfl rfl) rfl ?_
            refine Cov.store 0 [_, _, _] [_, _] .ro rfl rfl rfl ty27 rfl rfl rfl rfl ?_
            refine Cov.q .ro (.assign rfl) rfl ?_
            refine Cov.region_end ?_
            refine Cov.prune [(8, _), (9, _)] ⟨rfl, rfl, trivial⟩ ?_
            cases r24
            refine Cov.retSD 2 (c := ⟨32, none⟩) (.inr ⟨_, rfl⟩) [.cell 8 27, .tmp 9] [_, _] rfl Try.func32 Try.results32 ⟨RV.cell_a 0 [_, _, _] rfl rfl ty27 rfl, RV.tmp rfl, trivial⟩ (fun _ h => List.mem_cons_of_mem _ h) ⟨rfl, rfl, rfl⟩
        · intro hb19
          refine Cov.split 35 rfl (fun c18 => ?_) (fun c18 => ?_)
          · refine Cov.g_off rfl rfl rfl ?_
            refine Cov.g_off rfl rfl rfl ?_
            refine Cov.q .ro (.pick_t rfl rfl) rfl ?_
            refine Cov.prune _ ?_ (Cov.same rfl rfl rfl (hb19 () trivial))
            exact ⟨dor_t c18, rfl, rfl, rfl, rfl, rfl, trivial⟩
          · refine Cov.g_on rfl ?_
            refine Cov.q .ro (.move rfl) rfl ?_
            refine Cov.g_on rfl ?_
            refine Cov.q .ro (.gtr rfl rfl) rfl ?_
            refine Cov.q .ro (.pick_f rfl rfl) rfl ?_
            refine Cov.prune _ ?_ (Cov.same rfl rfl rfl (hb19 () trivial))
            exact ⟨dor_f c18, rfl, rfl, rfl, rfl, rfl, trivial⟩
      · intro hb15
        refine Cov.split 31 rfl (fun c14 => ?_) (fun c14 => ?_)
        · refine Cov.g_off rfl rfl rfl ?_
          refine Cov.g_off rfl rfl rfl ?_
          refine Cov.q .ro (.pick_t rfl rfl) rfl ?_
          refine Cov.prune _ ?_ (Cov.same rfl rfl rfl (hb15 () trivial))
          exact ⟨dor_t c14, rfl, rfl, rfl, rfl, rfl, trivial⟩
        · refine Cov.g_on rfl ?_
          refine Cov.q .ro (.move rfl) rfl ?_
          refine Cov.g_on rfl ?_
          refine Cov.q .ro (.lss rfl rfl) rfl ?_
          refine Cov.q .ro (.pick_f rfl rfl) rfl ?_
          refine Cov.prune _ ?_ (Cov.same rfl rfl rfl (hb15 () trivial))
          exact ⟨dor_f c14, rfl, rfl, rfl, rfl, rfl, trivial⟩
    · intro hb11
      refine Cov.split 27 rfl (fun c10 => ?_) (fun c10 => ?_)
      · refine Cov.g_off rfl rfl rfl ?_
        refine Cov.g_off rfl rfl rfl ?_
        refine Cov.q .ro (.pick_t rfl rfl) rfl ?_
        refine Cov.prune _ ?_ (Cov.same rfl rfl rfl (hb11 () trivial))
        exact ⟨dor_t c10, rfl, rfl, rfl, rfl, rfl, trivial⟩
      · refine Cov.g_on rfl ?_
        refine Cov.q .ro (.move rfl) rfl ?_
        refine Cov.g_on rfl ?_
        refine Cov.q .ro (.gtr rfl rfl) rfl ?_
        refine Cov.q .ro (.pick_f rfl rfl) rfl ?_
        refine Cov.prune _ ?_ (Cov.same rfl rfl rfl (hb11 () trivial))
        exact ⟨dor_f c10, rfl, rfl, rfl, rfl, rfl, trivial⟩

set_option maxHeartbeats 4000000 in
theorem cost_each_c {Fs : List Hp} {G : Hp} {x0_0 : Int} {x0_1 : Int} {x0_2 : Int} {x1_0 : Int} {x1_1 : Int} {x1_2 : Int} {F2 : FuncId} {c2 : List Value} {x2 : Int → Int → Option Int} {r : (Int × Int × Int)} (hG : G ∈ Fs) (hc2 : ∀ args w, (callFunc F2 args).run Try.prog w = .ok (.enter F2 args) w) (hf2 : ∀ (Fs' : List Hp) (G1 : Hp), HpLe G G1 → G1 ∈ Fs' → ∀ (y0 : Int) (y1 : Int) (r : Int), x2 y0 y1 = some r → RetS Try.prog F2 (([.int .i64 y0, .int .i64 y1] : List Value) ++ c2).toArray Fs' [] [] (fun v bo so => v = .int .i64 r ∧ bo = [] ∧ so = [])) (h : cost_each (x0_0, x0_1, x0_2) (x1_0, x1_1, x1_2) x2 = some r) : RetS Try.prog 43 #[.agg #[.int .i64 x0_0, .int .i64 x0_1, .int .i64 x0_2], .agg #[.int .i64 x1_0, .int .i64 x1_1, .int .i64 x1_2], .func (.func F2) #[] c2.toArray] Fs [] [] (fun v bo so => v = .agg #[.int .i64 r.1, .int .i64 r.2.1, .int .i64 r.2.2] ∧ bo = [] ∧ so = []) := by
  unfold cost_each at h
  try dsimp only at h
  refine RetS.of (vs := [_, _, _]) Try.func43 rfl Try.ntmps43 [(0, _), (1, _), (2, _)] ⟨rfl, rfl, rfl, trivial⟩ rfl hG fun w0 S0 hS0 B0 => ?_
  refine Cov.seq ?_
  refine Cov.region rfl ?_
  refine Cov.box [_, _, _] .ro rfl rfl rfl (fun b1 hb1 => ?_)
  refine Cov.box [_, _, _] .ro rfl rfl rfl (fun b2 hb2 => ?_)
  refine Cov.alloc .ro ty27 rfl (fun b3 hb3 => ?_)
  refine Cov.region_end ?_
  refine Cov.seq ?_
  refine Cov.drawL (.q 0 (.q 1 (.q 2 (.q 3 (.q 4 (.q 6 (.q 7 (.q 8 (.q 9 (.q 10 (.q 12 (.q 13 (.q 14 (.q 15 (.q 16 (.e 5 1 (.e 11 1 (.e 17 1 (.q 18 (.e 19 2 .nil)))))))))))))))))))) [_, _, _] (by kernel_rfl) (by kernel_rfl) (pick_mem [0, 1, 2] rfl) ?_
  refine Cov.dq (.move rfl) rfl ?_
  refine Cov.dq (.fieldAddr 0 rfl fl27_0 ty3.sz rfl) rfl ?_
  refine Cov.dq (.load_own 2 rfl rfl ty3 rfl) rfl ?_
  refine Cov.dq (.fieldAddr 0 rfl fl27_0 ty3.sz rfl) rfl ?_
  refine Cov.dq (.load_own 1 rfl rfl ty3 rfl) rfl ?_
  refine Cov.dq (.move rfl) rfl ?_
  refine Cov.dq (.fieldAddr 1 rfl fl27_1 ty3.sz rfl) rfl ?_
  refine Cov.dq (.load_own 2 rfl rfl ty3 rfl) rfl ?_
  refine Cov.dq (.fieldAddr 1 rfl fl27_1 ty3.sz rfl) rfl ?_
  refine Cov.dq (.load_own 1 rfl rfl ty3 rfl) rfl ?_
  refine Cov.dq (.move rfl) rfl ?_
  refine Cov.dq (.fieldAddr 2 rfl fl27_2 ty3.sz rfl) rfl ?_
  refine Cov.dq (.load_own 2 rfl rfl ty3 rfl) rfl ?_
  refine Cov.dq (.fieldAddr 2 rfl fl27_2 ty3.sz rfl) rfl ?_
  refine Cov.dq (.load_own 1 rfl rfl ty3 rfl) rfl ?_
  obtain ⟨u4, hu4, r5⟩ := bind_some h; clear h
  refine Cov.callS (b1 := []) (b2 := [_, _, _]) (s1 := []) [_, _] c2 .d1 rfl rfl hc2 rfl rfl (hf2 _ G (HpLe.refl _) List.mem_cons_self _ _ _  hu4) rfl (fun v7 bo so h6 => ?_)
  obtain ⟨rfl, rfl, rfl⟩ := h6
  refine Cov.same (bl' := [_, _, _]) (sl' := []) rfl rfl rfl ?_
  refine Cov.clsL (HpLe.refl _) (pick_mem [0, 1, 2] rfl) ?_
  obtain ⟨u8, hu8, r9⟩ := bind_some r5; clear r5
  refine Cov.callS (b1 := []) (b2 := [_, _, _]) (s1 := []) [_, _] c2 .d1 rfl rfl hc2 rfl rfl (hf2 _ G (HpLe.refl _) List.mem_cons_self _ _ _  hu8) rfl (fun v11 bo so h10 => ?_)
  obtain ⟨rfl, rfl, rfl⟩ := h10
  refine Cov.same (bl' := [_, _, _]) (sl' := []) rfl rfl rfl ?_
  refine Cov.clsL (HpLe.refl _) (pick_mem [0, 1, 2] rfl) ?_
  obtain ⟨u12, hu12, r13⟩ := bind_some r9; clear r9
  refine Cov.callS (b1 := []) (b2 := [_, _, _]) (s1 := []) [_, _] c2 .d1 rfl rfl hc2 rfl rfl (hf2 _ G (HpLe.refl _) List.mem_cons_self _ _ _  hu12) rfl (fun v15 bo so h14 => ?_)
  obtain ⟨rfl, rfl, rfl⟩ := h14
  refine Cov.same (bl' := [_, _, _]) (sl' := []) rfl rfl rfl ?_
  refine Cov.clsL (HpLe.refl _) (pick_mem [0, 1, 2] rfl) ?_
  refine Cov.dq (.build [_, _, _] [(0, _), (1, _), (2, _)] ty27 pl27 rfl rfl) rfl ?_
  refine Cov.store 0 [_, _, _] [_, _, _] .d2 rfl rfl rfl ty27 rfl rfl rfl rfl ?_
  refine Cov.draw_end ?_
  refine Cov.prune [(6, _)] ⟨rfl, trivial⟩ ?_
  cases r13
  refine Cov.retSD 3 (c := ⟨43, none⟩) (.inr ⟨_, rfl⟩) [.cell 6 27] [_] rfl Try.func43 Try.results43 ⟨RV.cell_a 0 [_, _, _] rfl rfl ty27 rfl, trivial⟩ (fun _ h => List.mem_cons_of_mem _ h) ⟨rfl, rfl, rfl⟩

set_option maxHeartbeats 4000000 in
theorem cost_Sum_f1_c {Fs : List Hp} {G : Hp} {x0 : Int} {x1 : Int} {r : Int} (hG : G ∈ Fs)  (h : cost_Sum_f1 x0 x1 = some r) : RetS Try.prog 44 #[.int .i64 x0, .int .i64 x1] Fs [] [] (fun v bo so => v = .int .i64 r ∧ bo = [] ∧ so = []) := by
  unfold cost_Sum_f1 at h
  try dsimp only at h
  refine RetS.of (vs := [_, _]) Try.func44 rfl Try.ntmps44 [(0, _), (1, _)] ⟨rfl, rfl, trivial⟩ rfl hG fun w0 S0 hS0 B0 => ?_
  refine Cov.seq ?_
  refine Cov.region rfl ?_
  refine Cov.q .ro (.assign rfl) rfl ?_
  refine Cov.region_end ?_
  refine Cov.seq ?_
  refine Cov.region rfl ?_
  refine Cov.q .ro (.move rfl) rfl ?_
  refine Cov.q .ro (.move rfl) rfl ?_
  refine Cov.q .ro (.mulw rfl rfl) rfl ?_
  refine Cov.q .ro (.assign rfl) rfl ?_
  refine Cov.region_end ?_
  cases h
  refine Cov.retS (c := ⟨44, none⟩) (.inr ⟨_, rfl⟩) [.tmp 4] [_] rfl Try.func44 Try.results44 ⟨RV.tmp rfl, trivial⟩ (fun _ h => List.mem_cons_of_mem _ h) ⟨rfl, rfl, rfl⟩

set_option maxHeartbeats 4000000 in
theorem cost_Sum_c {Fs : List Hp} {G : Hp} {x0_0 : Int} {x0_1 : Int} {x0_2 : Int} {x1_0 : Int} {x1_1 : Int} {x1_2 : Int} {r : Int} (hG : G ∈ Fs)  (h : cost_Sum (x0_0, x0_1, x0_2) (x1_0, x1_1, x1_2) = some r) : RetS Try.prog 33 #[.agg #[.int .i64 x0_0, .int .i64 x0_1, .int .i64 x0_2], .agg #[.int .i64 x1_0, .int .i64 x1_1, .int .i64 x1_2]] Fs [] [] (fun v bo so => v = .int .i64 r ∧ bo = [] ∧ so = []) := by
  unfold cost_Sum at h
  try dsimp only at h
  refine RetS.of (vs := [_, _]) Try.func33 rfl Try.ntmps33 [(0, _), (1, _)] ⟨rfl, rfl, trivial⟩ rfl hG fun w0 S0 hS0 B0 => ?_
  refine Cov.seq ?_
  refine Cov.region rfl ?_
  refine Cov.box [_, _, _] .ro rfl rfl rfl (fun b1 hb1 => ?_)
  refine Cov.box [_, _, _] .ro rfl rfl rfl (fun b2 hb2 => ?_)
  refine Cov.q .ro (.assign rfl) rfl ?_
  refine Cov.region_end ?_
  refine Cov.seq ?_
  refine Cov.region rfl ?_
  refine Cov.q .ro (.load_own_a 1 [_, _, _] rfl rfl ty27 rfl) rfl ?_
  refine Cov.q .ro (.load_own_a 0 [_, _, _] rfl rfl ty27 rfl) rfl ?_
  obtain ⟨u3, hu3, r4⟩ := bind_some h; clear h
  refine Cov.callS (b1 := []) (b2 := [_, _]) (s1 := []) [_, _, _] [] .ro rfl rfl Try.call43 rfl rfl (cost_each_c (G := G) List.mem_cons_self Try.call44 (fun Fs' G1 hle hm y0 y1 r  hr => cost_Sum_f1_c (G := G1) hm   hr) hu3) rfl (fun v6 bo so h5 => ?_)
  obtain ⟨rfl, rfl, rfl⟩ := h5
  refine Cov.same (bl' := [_, _]) (sl' := []) rfl rfl rfl ?_
  refine Cov.alloc .ro ty27 rfl (fun b7 hb7 => ?_)
  refine Cov.store 0 [_, _, _] [_, _, _] .ro rfl rfl rfl ty27 rfl rfl rfl rfl ?_
  refine Cov.region_end ?_
  refine Cov.seq ?_
  refine Cov.region rfl ?_
  refine Cov.q .ro (.fieldAddr 0 rfl fl27_0 ty3.sz rfl) rfl ?_
  refine Cov.q .ro (.load_own 0 rfl rfl ty3 rfl) rfl ?_
  refine Cov.q .ro (.fieldAddr 1 rfl fl27_1 ty3.sz rfl) rfl ?_
  refine Cov.q .ro (.load_own 0 rfl rfl ty3 rfl) rfl ?_
  refine Cov.q .ro (.addw rfl rfl) rfl ?_
  refine Cov.q .ro (.fieldAddr 2 rfl fl27_2 ty3.sz rfl) rfl ?_
  refine Cov.q .ro (.load_own 0 rfl rfl ty3 rfl) rfl ?_
  refine Cov.q .ro (.addw rfl rfl) rfl ?_
  refine Cov.q .ro (.assign rfl) rfl ?_
  refine Cov.region_end ?_
  refine Cov.prune [(4, _)] ⟨rfl, trivial⟩ ?_
  cases r4
  refine Cov.drop 3 0 [] _ rfl rfl ?_
  refine Cov.retS (c := ⟨33, none⟩) (.inr ⟨_, rfl⟩) [.tmp 4] [_] rfl Try.func33 Try.results33 ⟨RV.tmp rfl, trivial⟩ (fun _ h => List.mem_cons_of_mem _ h) ⟨rfl, rfl, rfl⟩

set_option maxHeartbeats 4000000 in
theorem planner_Candidates_c {Fs : List Hp} {G : Hp} {x0_0 : Int} {x0_1 : Int} {x0_2 : Int} {x0_3 : Int} {x0_4 : Int} {x0_5 : Int} {x0_6 : Int} {x0_7 : Int} {x0_8 : Int} {x0_9 : Int} {r : ((List ((Int × Int × Int × Int) × (Int × Int × Int) × Int)) × Int)} (hG : G ∈ Fs)  (h : planner_Candidates (x0_0, x0_1, x0_2, x0_3, x0_4, x0_5, x0_6, (x0_7, x0_8, x0_9)) = some r) : RetS Try.prog 13 #[.agg #[.int .i64 x0_0, .int .i64 x0_1, .int .i64 x0_2, .int .i64 x0_3, .int .i64 x0_4, .int .i64 x0_5, .int .i64 x0_6, .int .i64 x0_7, .int .i64 x0_8, .int .i64 x0_9]] Fs [] [] (fun v bo so => ∃ (oa0 : Option Addr) (ok0 : Nat) (oc0 : List Value), v = .tuple #[.slice oa0 r.1.length ok0, .int .i64 r.2] ∧ bo = [] ∧ so = [.s (.slice oa0 r.1.length ok0) 35 8 r.1.length oc0] ∧ OL (Rep.pair (Rep.pair (Rep.int .i64) (Rep.pair (Rep.int .i64) (Rep.pair (Rep.int .i64) (Rep.int .i64)))) (Rep.pair (Rep.pair (Rep.int .i64) (Rep.pair (Rep.int .i64) (Rep.int .i64))) (Rep.int .i64))) G oc0 r.1) := by
  unfold planner_Candidates at h
  try dsimp only at h
  refine RetS.of (vs := [_]) Try.func13 rfl Try.ntmps13 [(0, _)] ⟨rfl, trivial⟩ rfl hG fun w0 S0 hS0 B0 => ?_
  refine Cov.marks0 ?_
  refine Cov.seq ?_
  refine Cov.region rfl ?_
  refine Cov.box [_, _, _, _, _, _, _, _, _, _] .ro rfl rfl rfl (fun b1 hb1 => ?_)
  refine Cov.q .ro (.assign rfl) rfl ?_
  refine Cov.q .ro (.assign rfl) rfl ?_
  refine Cov.region_end ?_
  refine Cov.seq ?_
  refine Cov.seq ?_
  refine Cov.region rfl ?_
  refine Cov.q .ro (.load_own_a 0 [_, _, _, _, _, _, _, _, _, _] rfl rfl ty29 rfl) rfl ?_
  obtain ⟨u2, hu2, r3⟩ := bind_some h; clear h
  refine Cov.callS (b1 := []) (b2 := [_]) (s1 := []) [_] [] .ro rfl rfl Try.call11 rfl rfl (planner_Valid_c (G := G) List.mem_cons_self  hu2) rfl (fun v5 bo so h4 => ?_)
  obtain ⟨rfl, rfl, rfl⟩ := h4
  refine Cov.same (bl' := [_]) (sl' := [_]) rfl rfl rfl ?_
  refine Cov.q .ro (.not rfl) rfl ?_
  refine Cov.region_end ?_
  refine Cov.cond rfl (fun c6 => ?_) (fun c6 => ?_)
  · have r7 := ifT r3 c6; clear r3
    refine Cov.seq ?_
    refine Cov.region rfl ?_
    refine Cov.q .ro (.assign rfl) rfl ?_
    refine Cov.q .ro (.assign rfl) rfl ?_
    refine Cov.region_end ?_
    refine Cov.own_nil 35 8 ?_
    cases r7
    refine Cov.drop 1 0 [] _ rfl rfl ?_
    refine Cov.pullS 1 rfl [_, _] rfl ?_
    refine Cov.out (.inr ⟨_, rfl⟩) rfl (Cov.unmarkAll _ _ ?_)
    refine Cov.outS (c := ⟨13, none⟩) [.tmp 2, .tmp 3] [_, _] Try.func13 Try.results13 ⟨RV.tmp rfl, RV.tmp rfl, trivial⟩ (fun _ h => List.mem_cons_of_mem _ h) ⟨none, 0, [], rfl, rfl, rfl, (OL.nil (Rp' := (Rep.pair (Rep.pair (Rep.int .i64) (Rep.pair (Rep.int .i64) (Rep.pair (Rep.int .i64) (Rep.int .i64)))) (Rep.pair (Rep.pair (Rep.int .i64) (Rep.pair (Rep.int .i64) (Rep.int .i64))) (Rep.int .i64)))))⟩
  · have r9 := ifBF r3 c6; clear r3
    refine Cov.skip ?_
    refine Cov.seq ?_
    refine Cov.region rfl ?_
    refine Cov.alloc .ro ty39 rfl (fun b10 hb10 => ?_)
    refine Cov.region_end ?_
    refine Cov.seq ?_
    refine Cov.seq ?_
    refine Cov.region rfl ?_
    refine Cov.q .ro (.fieldAddr 0 rfl fl29_0 ty3.sz rfl) rfl ?_
    refine Cov.q .ro (.load_own 1 rfl rfl ty3 rfl) rfl ?_
    obtain ⟨u11, hu11, r12⟩ := bind_some r9; clear r9
    refine Cov.callW (b1 := []) (b2 := [_, _]) (s1 := []) [_] [] .ro rfl rfl Try.call31 rfl rfl (planner_schemes_c (G := G) List.mem_cons_self  hu11) rfl B0 (fun v14 bo so G15 e16 B17 h13 => ?_)
    obtain ⟨F19, c20, rfl, rfl, rfl, hc21, hi22⟩ := h13
    refine Cov.same (bl' := [_, _]) (sl' := [_]) rfl rfl rfl ?_
    refine Cov.region_end ?_
    refine Cov.cutBD (β := MK × (List ((Int × Int × Int × Int) × (Int × Int × Int) × Int)) × Option Addr × Nat × List Value) (fun y => mks y.1.1) (fun y => []) [(4, _)] (fun y => G15 :: Fs) (fun y => [(b10, .cells #[.slice y.2.2.1 y.2.1.length y.2.2.2.1] 39 (0, 0))]) [_] (fun y => [.g (marksG y.1), .s (.slice y.2.2.1 y.2.1.length y.2.2.2.1) 35 8 y.2.1.length y.2.2.2.2]) [] (fun y => OL (Rep.pair (Rep.pair (Rep.int .i64) (Rep.pair (Rep.int .i64) (Rep.pair (Rep.int .i64) (Rep.int .i64)))) (Rep.pair (Rep.pair (Rep.int .i64) (Rep.pair (Rep.int .i64) (Rep.int .i64))) (Rep.int .i64))) G15 y.2.2.2.2 y.2.1 ∧ planner_Candidates_J1 y.2.1 = some r) ⟨rfl, trivial⟩ [1] rfl [] rfl ?_ ?_
    · intro y hI
      obtain ⟨mk167, v168, a169, k170, cs171⟩ := y
      obtain ⟨o172, r175⟩ := hI
      try dsimp only at o172 r175
      refine Cov.prune [(4, _)] ⟨rfl, trivial⟩ ?_
      refine Cov.same (bl' := [(b10, .cells #[.slice a169 v168.length k170] 39 (0, 0)), _]) (sl' := [.g (marksG mk167), .s (.slice a169 v168.length k170) 35 8 v168.length cs171]) (Fs' := G15 :: Fs) rfl rfl rfl ?_
      unfold planner_Candidates_J1 at r175
      try dsimp only at r175
      refine Cov.seq ?_
      refine Cov.region rfl ?_
      refine Cov.q .ro (.load_own 0 rfl rfl ty39 rfl) rfl ?_
      refine Cov.q .ro (.assign rfl) rfl ?_
      refine Cov.q .ro (.assign rfl) rfl ?_
      refine Cov.region_end ?_
      cases r175
      refine Cov.drop 2 0 [] _ rfl rfl ?_
      refine Cov.out (.inr ⟨_, rfl⟩) rfl (Cov.unmarkAll _ _ ?_)
      refine Cov.outS (c := ⟨13, none⟩) [.tmp 2, .tmp 3] [_, _] Try.func13 Try.results13 ⟨RV.tmp rfl, RV.tmp rfl, trivial⟩ (fun _ h => List.mem_cons_of_mem _ h) ⟨a169, k170, cs171, rfl, rfl, rfl, o172⟩
    · intro hb186
      refine Cov.block ?_
      refine Cov.own_nil 35 8 ?_
      refine Cov.pull 1 rfl [_, _] rfl ?_
      refine Cov.pull 1 rfl [_, _] rfl ?_
      refine Cov.rangeFunc (α := (List ((Int × Int × Int × Int) × (Int × Int × Int) × Int)) × Option Addr × Nat × List Value) (fun y => []) (fun y => [(b10, .cells #[.slice y.2.1 y.1.length y.2.2.1] 39 (0, 0)), (b1, .cells #[.int .i64 x0_0, .int .i64 x0_1, .int .i64 x0_2, .int .i64 x0_3, .int .i64 x0_4, .int .i64 x0_5, .int .i64 x0_6, .int .i64 x0_7, .int .i64 x0_8, .int .i64 x0_9] 29 (0, 0))]) (fun y => [.s (.slice y.2.1 y.1.length y.2.2.1) 35 8 y.1.length y.2.2.2]) (fun i y => OL (Rep.pair (Rep.pair (Rep.int .i64) (Rep.pair (Rep.int .i64) (Rep.pair (Rep.int .i64) (Rep.int .i64)))) (Rep.pair (Rep.pair (Rep.int .i64) (Rep.pair (Rep.int .i64) (Rep.int .i64))) (Rep.int .i64))) G15 y.2.2.2 y.1 ∧ planner_Candidates_L2 planner_Candidates_J1 x0_0 x0_1 x0_2 x0_3 x0_4 x0_5 x0_6 x0_7 x0_8 x0_9 (List.drop i u11) y.1 = some r) (([] : List ((Int × Int × Int × Int) × (Int × Int × Int) × Int)), none, 0, []) c20 rfl rfl hc21 rfl (by simp) rfl rfl (hi22 _ G15 (HpLe.refl _) List.mem_cons_self) (fun _ _ hv => by obtain ⟨_, _, hv⟩ := hv; exact (Yr.len _ hv).trans rfl) (by kernel_rfl) ⟨(OL.nil (Rp' := (Rep.pair (Rep.pair (Rep.int .i64) (Rep.pair (Rep.int .i64) (Rep.pair (Rep.int .i64) (Rep.int .i64)))) (Rep.pair (Rep.pair (Rep.int .i64) (Rep.pair (Rep.int .i64) (Rep.int .i64))) (Rep.int .i64))))), r12⟩ ?_ ?_
      · intro l284 tm285 D286 i287 y v288 hV289 hI w291 S292 hw293
        obtain ⟨v276, a277, k278, cs279⟩ := y
        obtain ⟨o280, r283⟩ := hI
        try dsimp only at o280 r283
        obtain ⟨x294, h295, h296⟩ := hV289
        refine Cov.dup (G := G15) List.mem_cons_self ?_
        obtain ⟨v297, rfl, _, _, rfl, rfl, _, _, rfl, rfl, _, _, rfl, rfl, rfl⟩ := h296
        rw [drop_cons h295] at r283
        have r300 : planner_Candidates_B2 planner_Candidates_J1 x0_0 x0_1 x0_2 x0_3 x0_4 x0_5 x0_6 x0_7 x0_8 x0_9 (planner_Candidates_L2 planner_Candidates_J1 x0_0 x0_1 x0_2 x0_3 x0_4 x0_5 x0_6 x0_7 x0_8 x0_9 (List.drop (i287 + 1) u11)) x294 v276 = some r := r283; clear r283; unfold planner_Candidates_B2 at r300; try dsimp only at r300
        refine Cov.prune [(14, .agg #[.int .i64 x294.1, .int .i64 x294.2.1, .int .i64 x294.2.2.1, .int .i64 x294.2.2.2]), (1, _), (4, _)] ⟨rfl, rfl, rfl, trivial⟩ ?_
        refine Cov.same (bl' := [(b10, .cells #[.slice a277 v276.length k278] 39 (0, 0)), (b1, .cells #[.int .i64 x0_0, .int .i64 x0_1, .int .i64 x0_2, .int .i64 x0_3, .int .i64 x0_4, .int .i64 x0_5, .int .i64 x0_6, .int .i64 x0_7, .int .i64 x0_8, .int .i64 x0_9] 29 (0, 0)), _]) (sl' := [.s (.slice a277 v276.length k278) 35 8 v276.length cs279]) (Fs' := G15 :: (G15 :: Fs)) rfl rfl rfl ?_
        refine Cov.region rfl ?_
        refine Cov.alloc .ro ty33 rfl (fun b301 hb301 => ?_)
        refine Cov.store 0 [_, _, _, _] [_, _, _, _] .ro rfl rfl rfl ty33 rfl rfl rfl rfl ?_
        refine Cov.region_end ?_
        refine Cov.beginRound 3 rfl rfl [_, _, _, _] rfl ?_
        refine Cov.block ?_
        refine Cov.seq ?_
        refine Cov.seq ?_
        refine Cov.region rfl ?_
        refine Cov.q .ro (.load_own_a 0 [_, _, _, _] rfl rfl ty33 rfl) rfl ?_
        refine Cov.q .ro (.load_own_a 2 [_, _, _, _, _, _, _, _, _, _] rfl rfl ty29 rfl) rfl ?_
        obtain ⟨u302, hu302, r303⟩ := bind_some r300; clear r300
        refine Cov.callS (b1 := []) (b2 := [_, _, _, _]) (s1 := []) [_, _] [] .ro rfl rfl Try.call16 rfl rfl (planner_Serves_c (G := G15) List.mem_cons_self  hu302) rfl (fun v305 bo so h304 => ?_)
        obtain ⟨rfl, rfl, rfl⟩ := h304
        refine Cov.same (bl' := [_, _, _, _]) (sl' := [_]) rfl rfl rfl ?_
        refine Cov.q .ro (.not rfl) rfl ?_
        refine Cov.region_end ?_
        refine Cov.cond rfl (fun c306 => ?_) (fun c306 => ?_)
        · have r307 := ifT r303 c306; clear r303
          refine Cov.exit rfl ?_
          refine Cov.drop 1 0 [_, _, _] _ rfl rfl ?_
          refine Cov.round_end (v276, a277, k278, cs279) 2 rfl rfl ⟨o280, r307⟩ rfl rfl (fun F hF => List.mem_cons_of_mem _ hF) (by simp)
        · have r308 := ifBF r303 c306; clear r303
          refine Cov.skip ?_
          refine Cov.seq ?_
          refine Cov.region rfl ?_
          refine Cov.q .ro (.load_own_a 0 [_, _, _, _] rfl rfl ty33 rfl) rfl ?_
          refine Cov.q .ro (.fieldAddr 4 rfl fl29_4 ty3.sz rfl) rfl ?_
          refine Cov.q .ro (.load_own 2 rfl rfl ty3 rfl) rfl ?_
          refine Cov.q .ro (.fieldAddr 5 rfl fl29_5 ty3.sz rfl) rfl ?_
          refine Cov.q .ro (.load_own 2 rfl rfl ty3 rfl) rfl ?_
          refine Cov.q .ro (.fieldAddr 6 rfl fl29_6 ty3.sz rfl) rfl ?_
          refine Cov.q .ro (.load_own 2 rfl rfl ty3 rfl) rfl ?_
          obtain ⟨u309, hu309, r310⟩ := bind_some r308; clear r308
          refine Cov.callS (b1 := []) (b2 := [_, _, _, _]) (s1 := []) [_, _, _, _] [] .ro rfl rfl Try.call32 rfl rfl (cost_Of_c (G := G15) List.mem_cons_self  hu309) rfl (fun v312 bo so h311 => ?_)
          obtain ⟨rfl, rfl, rfl⟩ := h311
          refine Cov.same (bl' := [_, _, _, _]) (sl' := [_]) rfl rfl rfl ?_
          refine Cov.q .ro (.move rfl) rfl ?_
          refine Cov.q .ro (.extract rfl rfl) rfl ?_
          refine Cov.q .ro (.extract rfl rfl) rfl ?_
          refine Cov.alloc .ro ty27 rfl (fun b313 hb313 => ?_)
          refine Cov.store 0 [_, _, _] [_, _, _, _, _] .ro rfl rfl rfl ty27 rfl rfl rfl rfl ?_
          refine Cov.q .ro (.assign rfl) rfl ?_
          refine Cov.region_end ?_
          refine Cov.prune [(1, _), (4, _), (5, _), (6, _)] ⟨rfl, rfl, rfl, rfl, trivial⟩ ?_
          refine Cov.drawL (.q 0 (.q 1 (.q 2 (.q 3 (.q 4 (.q 5 (.e 6 1 (.q 7 (.e 8 1 (.e 9 2 (.e 10 2 .nil))))))))))) [_, _, _, _, _] (by kernel_rfl) (by kernel_rfl) (pick_mem [0, 1, 2, 3, 4] rfl) ?_
          refine Cov.dq (.load_own 2 rfl rfl ty39 rfl) rfl ?_
          refine Cov.dq (.load_own_a 1 [_, _, _, _] rfl rfl ty33 rfl) rfl ?_
          refine Cov.dq (.load_own_a 0 [_, _, _] rfl rfl ty27 rfl) rfl ?_
          refine Cov.dq (.load_own_a 0 [_, _, _] rfl rfl ty27 rfl) rfl ?_
          refine Cov.dq (.fieldAddr 7 rfl fl29_7 ty27.sz rfl) rfl ?_
          refine Cov.dq (.load_own_a 3 [_, _, _] rfl rfl ty27 rfl) rfl ?_
          obtain ⟨u314, hu314, r315⟩ := bind_some r310; clear r310
          refine Cov.callS (b1 := []) (b2 := [_, _, _, _, _]) (s1 := []) [_, _] [] .d1 rfl rfl Try.call33 rfl rfl (cost_Sum_c (G := G15) List.mem_cons_self  hu314) rfl (fun v317 bo so h316 => ?_)
          obtain ⟨rfl, rfl, rfl⟩ := h316
          refine Cov.same (bl' := [_, _, _, _, _]) (sl' := [_]) rfl rfl rfl ?_
          refine Cov.clsL (HpLe.refl _) (pick_mem [0, 1, 2, 3, 4] rfl) ?_
          refine Cov.dq (.build [_, _, _, _, _, _, _, _] [(0, _), (1, _), (2, _)] ty35 pl35 rfl rfl) rfl ?_
          refine Cov.lit [_, _, _, _, _, _, _, _] [(0, _)] .d1 sl39 ty35 rfl rfl rfl rfl rfl rfl (fun b318 hb318 => ?_)
          have o319 : OL (Rep.pair (Rep.pair (Rep.int .i64) (Rep.pair (Rep.int .i64) (Rep.pair (Rep.int .i64) (Rep.int .i64)))) (Rep.pair (Rep.pair (Rep.int .i64) (Rep.pair (Rep.int .i64) (Rep.int .i64))) (Rep.int .i64))) G15 [.int .i64 x294.1, .int .i64 x294.2.1, .int .i64 x294.2.2.1, .int .i64 x294.2.2.2, .int .i64 u309.1.1, .int .i64 u309.1.2.1, .int .i64 u309.1.2.2, .int .i64 u314] ([((x294.1, x294.2.1, x294.2.2.1, x294.2.2.2), (u309.1.1, u309.1.2.1, u309.1.2.2), u314)] : List ((Int × Int × Int × Int) × (Int × Int × Int) × Int)) := ((OL.cons rfl (Rep.pairI (Rep.pairI (Rep.intI .i64 x294.1) (Rep.pairI (Rep.intI .i64 x294.2.1) (Rep.pairI (Rep.intI .i64 x294.2.2.1) (Rep.intI .i64 x294.2.2.2)))) (Rep.pairI (Rep.pairI (Rep.intI .i64 u309.1.1) (Rep.pairI (Rep.intI .i64 u309.1.2.1) (Rep.intI .i64 u309.1.2.2))) (Rep.intI .i64 u314))) (OL.nil (Rp' := (Rep.pair (Rep.pair (Rep.int .i64) (Rep.pair (Rep.int .i64) (Rep.pair (Rep.int .i64) (Rep.int .i64)))) (Rep.pair (Rep.pair (Rep.int .i64) (Rep.pair (Rep.int .i64) (Rep.int .i64))) (Rep.int .i64)))))) :)
          refine Cov.reval 38 (n' := ([((x294.1, x294.2.1, x294.2.2.1, x294.2.2.2), (u309.1.1, u309.1.2.1, u309.1.2.2), u314)] : List ((Int × Int × Int × Int) × (Int × Int × Int) × Int)).length) rfl rfl ?_
          refine Cov.clsL (HpLe.refl _) (pick_mem [0, 1, 2, 3, 4] rfl) ?_
          obtain ⟨u325, hu325, r326⟩ := bind_some r315; clear r315
          refine Cov.appO (Q := (Rep.pair (Rep.pair (Rep.int .i64) (Rep.pair (Rep.int .i64) (Rep.pair (Rep.int .i64) (Rep.int .i64)))) (Rep.pair (Rep.pair (Rep.int .i64) (Rep.pair (Rep.int .i64) (Rep.int .i64))) (Rep.int .i64)))) 0 .d2 sl39 ty35 rfl rfl rfl rfl rfl rfl o280 o319 rfl rfl rfl (Bd.fin List.mem_cons_self) hu325 rfl (fun a321 k322 cs323 o324 => ?_)
          refine Cov.store 2 [_] [_, _, _, _, _] .d2 rfl rfl rfl ty39 rfl rfl rfl rfl ?_
          refine Cov.draw_end ?_
          refine Cov.prune [] trivial ?_
          refine Cov.inBlock ?_
          refine Cov.drop 2 0 [_, _, _] _ rfl rfl ?_
          refine Cov.round_end (u325, a321, k322, cs323) 2 rfl rfl ⟨o324, r326⟩ rfl rfl (fun F hF => List.mem_cons_of_mem _ hF) (by simp)
      · intro q328 y hI hb329
        obtain ⟨v276, a277, k278, cs279⟩ := y
        obtain ⟨o280, r283⟩ := hI
        try dsimp only at o280 r283
        refine Cov.prune [(4, _)] ⟨rfl, trivial⟩ ?_
        refine Cov.same (bl' := [(b10, .cells #[.slice a277 v276.length k278] 39 (0, 0)), (b1, .cells #[.int .i64 x0_0, .int .i64 x0_1, .int .i64 x0_2, .int .i64 x0_3, .int .i64 x0_4, .int .i64 x0_5, .int .i64 x0_6, .int .i64 x0_7, .int .i64 x0_8, .int .i64 x0_9] 29 (0, 0)), _]) (sl' := [.s (.slice a277 v276.length k278) 35 8 v276.length cs279, _]) (Fs' := G15 :: Fs) rfl rfl rfl ?_
        refine Cov.pullS 1 rfl [_, _] rfl ?_
        refine Cov.mkmerge 2 rfl [_, _] rfl (fun mk330 => ?_)
        rw [List.drop_length] at r283; rw [planner_Candidates_L2] at r283; try dsimp only at r283
        refine Cov.inBlock ?_
        refine Cov.prune _ ?_ (Cov.same rfl rfl rfl (hb186 (mk330, v276, a277, k278, cs279) ⟨o280, r283⟩))
        exact ⟨rfl, trivial⟩

set_option maxHeartbeats 4000000 in
theorem planner_Better_c {Fs : List Hp} {G : Hp} {x0_0 : Int} {x0_1 : Int} {x0_2 : Int} {x0_3 : Int} {x0_4 : Int} {x0_5 : Int} {x0_6 : Int} {x0_7 : Int} {x1_0 : Int} {x1_1 : Int} {x1_2 : Int} {x1_3 : Int} {x1_4 : Int} {x1_5 : Int} {x1_6 : Int} {x1_7 : Int} {r : Bool} (hG : G ∈ Fs)  (h : planner_Better ((x0_0, x0_1, x0_2, x0_3), (x0_4, x0_5, x0_6), x0_7) ((x1_0, x1_1, x1_2, x1_3), (x1_4, x1_5, x1_6), x1_7) = some r) : RetS Try.prog 28 #[.agg #[.int .i64 x0_0, .int .i64 x0_1, .int .i64 x0_2, .int .i64 x0_3, .int .i64 x0_4, .int .i64 x0_5, .int .i64 x0_6, .int .i64 x0_7], .agg #[.int .i64 x1_0, .int .i64 x1_1, .int .i64 x1_2, .int .i64 x1_3, .int .i64 x1_4, .int .i64 x1_5, .int .i64 x1_6, .int .i64 x1_7]] Fs [] [] (fun v bo so => v = .bool r ∧ bo = [] ∧ so = []) := by
  unfold planner_Better at h
  try dsimp only at h
  refine RetS.of (vs := [_, _]) Try.func28 rfl Try.ntmps28 [(0, _), (1, _)] ⟨rfl, rfl, trivial⟩ rfl hG fun w0 S0 hS0 B0 => ?_
  refine Cov.seq ?_
  refine Cov.region rfl ?_
  refine Cov.box [_, _, _, _, _, _, _, _] .ro rfl rfl rfl (fun b1 hb1 => ?_)
  refine Cov.box [_, _, _, _, _, _, _, _] .ro rfl rfl rfl (fun b2 hb2 => ?_)
  refine Cov.q .ro (.assign rfl) rfl ?_
  refine Cov.region_end ?_
  refine Cov.seq ?_
  refine Cov.region rfl ?_
  refine Cov.q .ro (.fieldAddr 7 rfl fl35_2 ty3.sz rfl) rfl ?_
  refine Cov.q .ro (.load_own 1 rfl rfl ty3 rfl) rfl ?_
  refine Cov.q .ro (.fieldAddr 7 rfl fl35_2 ty3.sz rfl) rfl ?_
  refine Cov.q .ro (.load_own 0 rfl rfl ty3 rfl) rfl ?_
  refine Cov.q .ro (.lss rfl rfl) rfl ?_
  refine Cov.q .ro (.assign rfl) rfl ?_
  refine Cov.region_end ?_
  cases h
  refine Cov.drop 2 0 [] _ rfl rfl ?_
  refine Cov.retS (c := ⟨28, none⟩) (.inr ⟨_, rfl⟩) [.tmp 4] [_] rfl Try.func28 Try.results28 ⟨RV.tmp rfl, trivial⟩ (fun _ h => List.mem_cons_of_mem _ h) ⟨rfl, rfl, rfl⟩

set_option maxHeartbeats 4000000 in
theorem planner_Best_c {Fs : List Hp} {G : Hp} {x0_0 : Int} {x0_1 : Int} {x0_2 : Int} {x0_3 : Int} {x0_4 : Int} {x0_5 : Int} {x0_6 : Int} {x0_7 : Int} {x0_8 : Int} {x0_9 : Int} {r : (((Int × Int × Int × Int) × (Int × Int × Int) × Int) × Int)} (hG : G ∈ Fs)  (h : planner_Best (x0_0, x0_1, x0_2, x0_3, x0_4, x0_5, x0_6, (x0_7, x0_8, x0_9)) = some r) : RetS Try.prog 12 #[.agg #[.int .i64 x0_0, .int .i64 x0_1, .int .i64 x0_2, .int .i64 x0_3, .int .i64 x0_4, .int .i64 x0_5, .int .i64 x0_6, .int .i64 x0_7, .int .i64 x0_8, .int .i64 x0_9]] Fs [] [] (fun v bo so => v = .tuple #[.agg #[.int .i64 r.1.1.1, .int .i64 r.1.1.2.1, .int .i64 r.1.1.2.2.1, .int .i64 r.1.1.2.2.2, .int .i64 r.1.2.1.1, .int .i64 r.1.2.1.2.1, .int .i64 r.1.2.1.2.2, .int .i64 r.1.2.2], .int .i64 r.2] ∧ bo = [] ∧ so = []) := by
  unfold planner_Best at h
  try dsimp only at h
  refine RetS.of (vs := [_]) Try.func12 rfl Try.ntmps12 [(0, _)] ⟨rfl, trivial⟩ rfl hG fun w0 S0 hS0 B0 => ?_
  refine Cov.seq ?_
  refine Cov.region rfl ?_
  refine Cov.box [_, _, _, _, _, _, _, _, _, _] .ro rfl rfl rfl (fun b1 hb1 => ?_)
  refine Cov.alloc .ro ty35 rfl (fun b2 hb2 => ?_)
  refine Cov.q .ro (.assign rfl) rfl ?_
  refine Cov.region_end ?_
  refine Cov.seq ?_
  refine Cov.region rfl ?_
  refine Cov.q .ro (.load_own_a 1 [_, _, _, _, _, _, _, _, _, _] rfl rfl ty29 rfl) rfl ?_
  obtain ⟨u3, hu3, r4⟩ := bind_some h; clear h
  refine Cov.callS (b1 := []) (b2 := [_, _]) (s1 := []) [_] [] .ro rfl rfl Try.call13 rfl rfl (planner_Candidates_c (G := G) List.mem_cons_self  hu3) rfl (fun v6 bo so h5 => ?_)
  obtain ⟨a8, k9, cs10, rfl, rfl, rfl, o11⟩ := h5
  refine Cov.same (bl' := [_, _]) (sl' := [_]) rfl rfl rfl ?_
  refine Cov.q .ro (.move rfl) rfl ?_
  refine Cov.q .ro (.extract rfl rfl) rfl ?_
  refine Cov.q .ro (.extract rfl rfl) rfl ?_
  refine Cov.q .ro (.assign rfl) rfl ?_
  refine Cov.q .ro (.assign rfl) rfl ?_
  refine Cov.region_end ?_
  refine Cov.seq ?_
  refine Cov.block ?_
  refine Cov.seq ?_
  refine Cov.region rfl ?_
  refine Cov.q .ro (.move rfl) rfl ?_
  refine Cov.q .ro (.neq rfl rfl) rfl ?_
  refine Cov.q .ro (.assign rfl) rfl ?_
  refine Cov.region_end ?_
  refine Cov.cond_dec rfl (fun c12 => ?_) (fun c12 => ?_)
  · have r13 := ifT r4 c12; clear r4
    refine Cov.seq ?_
    refine Cov.region rfl ?_
    refine Cov.q .ro (.build [_, _, _, _, _, _, _, _] [] ty35 pl35 rfl rfl) rfl ?_
    refine Cov.q .ro (.move rfl) rfl ?_
    refine Cov.store 0 [_, _, _, _, _, _, _, _] [_, _] .ro rfl rfl rfl ty35 rfl rfl rfl rfl ?_
    refine Cov.q .ro (.assign rfl) rfl ?_
    refine Cov.region_end ?_
    refine Cov.prune [(2, _), (3, _)] ⟨rfl, rfl, trivial⟩ ?_
    cases r13
    refine Cov.drop 0 1 _ [] rfl rfl ?_
    refine Cov.retSD 2 (c := ⟨12, none⟩) (.inr ⟨_, rfl⟩) [.cell 2 35, .tmp 3] [_, _] rfl Try.func12 Try.results12 ⟨RV.cell_a 0 [_, _, _, _, _, _, _, _] rfl rfl ty35 rfl, RV.tmp rfl, trivial⟩ (fun _ h => List.mem_cons_of_mem _ h) ⟨rfl, rfl, rfl⟩
  · have r14 := ifF r4 c12; clear r4
    refine Cov.seq ?_
    refine Cov.region rfl ?_
    refine Cov.q .ro (.move rfl) rfl ?_
    refine Cov.q .ro (.len_sl rfl rfl sl39) rfl ?_
    refine Cov.q .ro (.eql rfl rfl) rfl ?_
    refine Cov.q .ro (.assign rfl) rfl ?_
    refine Cov.region_end ?_
    refine Cov.prune [(2, _), (4, _), (19, _)] ⟨rfl, rfl, rfl, trivial⟩ ?_
    refine Cov.cond_dec rfl (fun c15 => ?_) (fun c15 => ?_)
    · have r16 := ifT r14 c15; clear r14
      refine Cov.seq ?_
      refine Cov.region rfl ?_
      refine Cov.q .ro (.build [_, _, _, _, _, _, _, _] [] ty35 pl35 rfl rfl) rfl ?_
      refine Cov.store 0 [_, _, _, _, _, _, _, _] [_, _] .ro rfl rfl rfl ty35 rfl rfl rfl rfl ?_
      refine Cov.q .ro (.assign rfl) rfl ?_
      refine Cov.region_end ?_
      cases r16
      refine Cov.drop 0 1 _ [] rfl rfl ?_
      refine Cov.retSD 2 (c := ⟨12, none⟩) (.inr ⟨_, rfl⟩) [.cell 2 35, .tmp 3] [_, _] rfl Try.func12 Try.results12 ⟨RV.cell_a 0 [_, _, _, _, _, _, _, _] rfl rfl ty35 rfl, RV.tmp rfl, trivial⟩ (fun _ h => List.mem_cons_of_mem _ h) ⟨rfl, rfl, rfl⟩
    · have r17 := ifF r14 c15; clear r14
      refine Cov.skip ?_
      refine Cov.inBlock ?_
      refine Cov.seq ?_
      refine Cov.region rfl ?_
      refine Cov.q .ro (.move rfl) rfl ?_
      obtain ⟨u18, hu18, r19⟩ := bind_some r17; clear r17
      obtain ⟨c20, p21, h22⟩ := OL.get o11 hu18
      obtain ⟨_, _, rfl, ⟨_, _, rfl, rfl, _, _, rfl, rfl, _, _, rfl, rfl, rfl⟩, _, _, rfl, ⟨_, _, rfl, rfl, _, _, rfl, rfl, rfl⟩, rfl⟩ := h22
      refine Cov.q .ro (.idxO 0 rfl rfl rfl hu18 sl39 ty35.sz) rfl ?_
      refine Cov.q .ro (.loadO_a 0 0 [_, _, _, _, _, _, _, _] rfl hu18 p21 rfl (.inl ⟨rfl, rfl⟩) ty35 rfl) rfl ?_
      refine Cov.alloc .ro ty35 rfl (fun b23 hb23 => ?_)
      refine Cov.store 0 [_, _, _, _, _, _, _, _] [_, _, _] .ro rfl rfl rfl ty35 rfl rfl rfl rfl ?_
      refine Cov.region_end ?_
      refine Cov.seq ?_
      refine Cov.seq ?_
      refine Cov.region rfl ?_
      refine Cov.q .ro (.move rfl) rfl ?_
      refine Cov.freezeR 0 rfl rfl o11 [] rfl B0 (fun G24 e25 B26 s27 => ?_)
      obtain ⟨u29, hu29, r30⟩ := bind_some r19; clear r19
      obtain ⟨a31, k32, h33, s34⟩ := SlR.sub s27 hu29
      refine Cov.q .ro (.sliceR s27 rfl hu29 sl39 ty35.sz (fun h => .yes' rfl h) (fun _ => .no) h33) rfl ?_
      refine Cov.q .ro (.len_sl rfl rfl sl39) rfl ?_
      refine Cov.q .ro (.move rfl) rfl ?_
      refine Cov.region_end ?_
      refine Cov.cutB (β := Int × Int × Int × Int × Int × Int × Int × Int × Int × Int × Int × Int × Int × Int × Int × Int × Int × Int × Int × Int × Int × Int × Int × Int × Int × Int) (fun y => []) [(2, _), (6, _)] (fun y => G24 :: Fs) (fun y => [(b23, .cells #[.int .i64 y.1, .int .i64 y.2.1, .int .i64 y.2.2.1, .int .i64 y.2.2.2.1, .int .i64 y.2.2.2.2.1, .int .i64 y.2.2.2.2.2.1, .int .i64 y.2.2.2.2.2.2.1, .int .i64 y.2.2.2.2.2.2.2.1] 35 (0, 0)), (b2, .cells #[.int .i64 y.2.2.2.2.2.2.2.2.1, .int .i64 y.2.2.2.2.2.2.2.2.2.1, .int .i64 y.2.2.2.2.2.2.2.2.2.2.1, .int .i64 y.2.2.2.2.2.2.2.2.2.2.2.1, .int .i64 y.2.2.2.2.2.2.2.2.2.2.2.2.1, .int .i64 y.2.2.2.2.2.2.2.2.2.2.2.2.2.1, .int .i64 y.2.2.2.2.2.2.2.2.2.2.2.2.2.2.1, .int .i64 y.2.2.2.2.2.2.2.2.2.2.2.2.2.2.2.1] 35 (0, 0)), (b1, .cells #[.int .i64 y.2.2.2.2.2.2.2.2.2.2.2.2.2.2.2.2.1, .int .i64 y.2.2.2.2.2.2.2.2.2.2.2.2.2.2.2.2.2.1, .int .i64 y.2.2.2.2.2.2.2.2.2.2.2.2.2.2.2.2.2.2.1, .int .i64 y.2.2.2.2.2.2.2.2.2.2.2.2.2.2.2.2.2.2.2.1, .int .i64 y.2.2.2.2.2.2.2.2.2.2.2.2.2.2.2.2.2.2.2.2.1, .int .i64 y.2.2.2.2.2.2.2.2.2.2.2.2.2.2.2.2.2.2.2.2.2.1, .int .i64 y.2.2.2.2.2.2.2.2.2.2.2.2.2.2.2.2.2.2.2.2.2.2.1, .int .i64 y.2.2.2.2.2.2.2.2.2.2.2.2.2.2.2.2.2.2.2.2.2.2.2.1, .int .i64 y.2.2.2.2.2.2.2.2.2.2.2.2.2.2.2.2.2.2.2.2.2.2.2.2.1, .int .i64 y.2.2.2.2.2.2.2.2.2.2.2.2.2.2.2.2.2.2.2.2.2.2.2.2.2] 29 (0, 0))]) [] (fun y => []) [] (fun y => planner_Best_J1 y.1 y.2.1 y.2.2.1 y.2.2.2.1 y.2.2.2.2.1 y.2.2.2.2.2.1 y.2.2.2.2.2.2.1 y.2.2.2.2.2.2.2.1 y.2.2.2.2.2.2.2.2.1 y.2.2.2.2.2.2.2.2.2.1 y.2.2.2.2.2.2.2.2.2.2.1 y.2.2.2.2.2.2.2.2.2.2.2.1 y.2.2.2.2.2.2.2.2.2.2.2.2.1 y.2.2.2.2.2.2.2.2.2.2.2.2.2.1 y.2.2.2.2.2.2.2.2.2.2.2.2.2.2.1 y.2.2.2.2.2.2.2.2.2.2.2.2.2.2.2.1 y.2.2.2.2.2.2.2.2.2.2.2.2.2.2.2.2.1 y.2.2.2.2.2.2.2.2.2.2.2.2.2.2.2.2.2.1 y.2.2.2.2.2.2.2.2.2.2.2.2.2.2.2.2.2.2.1 y.2.2.2.2.2.2.2.2.2.2.2.2.2.2.2.2.2.2.2.1 y.2.2.2.2.2.2.2.2.2.2.2.2.2.2.2.2.2.2.2.2.1 y.2.2.2.2.2.2.2.2.2.2.2.2.2.2.2.2.2.2.2.2.2.1 y.2.2.2.2.2.2.2.2.2.2.2.2.2.2.2.2.2.2.2.2.2.2.1 y.2.2.2.2.2.2.2.2.2.2.2.2.2.2.2.2.2.2.2.2.2.2.2.1 y.2.2.2.2.2.2.2.2.2.2.2.2.2.2.2.2.2.2.2.2.2.2.2.2.1 y.2.2.2.2.2.2.2.2.2.2.2.2.2.2.2.2.2.2.2.2.2.2.2.2.2 = some r) ⟨rfl, rfl, trivial⟩ [] rfl [] rfl ?_ ?_
      · intro y hI
        obtain ⟨v119, v120, v121, v122, v123, v124, v125, v126, v127, v128, v129, v130, v131, v132, v133, v134, v135, v136, v137, v138, v139, v140, v141, v142, v143, v144⟩ := y
        have r146 := hI; clear hI
        try dsimp only at r146
        refine Cov.prune [(2, _), (6, _)] ⟨rfl, rfl, trivial⟩ ?_
        refine Cov.same (bl' := [(b23, .cells #[.int .i64 v119, .int .i64 v120, .int .i64 v121, .int .i64 v122, .int .i64 v123, .int .i64 v124, .int .i64 v125, .int .i64 v126] 35 (0, 0)), (b2, .cells #[.int .i64 v127, .int .i64 v128, .int .i64 v129, .int .i64 v130, .int .i64 v131, .int .i64 v132, .int .i64 v133, .int .i64 v134] 35 (0, 0)), (b1, .cells #[.int .i64 v135, .int .i64 v136, .int .i64 v137, .int .i64 v138, .int .i64 v139, .int .i64 v140, .int .i64 v141, .int .i64 v142, .int .i64 v143, .int .i64 v144] 29 (0, 0))]) (sl' := []) (Fs' := G24 :: Fs) rfl rfl rfl ?_
        unfold planner_Best_J1 at r146
        try dsimp only at r146
        refine Cov.seq ?_
        refine Cov.region rfl ?_
        refine Cov.q .ro (.load_own_a 0 [_, _, _, _, _, _, _, _] rfl rfl ty35 rfl) rfl ?_
        refine Cov.store 1 [_, _, _, _, _, _, _, _] [_, _, _] .ro rfl rfl rfl ty35 rfl rfl rfl rfl ?_
        refine Cov.q .ro (.assign rfl) rfl ?_
        refine Cov.region_end ?_
        cases r146
        refine Cov.retSD 3 (c := ⟨12, none⟩) (.inr ⟨_, rfl⟩) [.cell 2 35, .tmp 3] [_, _] rfl Try.func12 Try.results12 ⟨RV.cell_a 1 [_, _, _, _, _, _, _, _] rfl rfl ty35 rfl, RV.tmp rfl, trivial⟩ (fun _ h => List.mem_cons_of_mem _ h) ⟨rfl, rfl, rfl⟩
      · intro hb147
        refine Cov.block ?_
        refine Cov.loop2 (α := Nat × (List ((Int × Int × Int × Int) × (Int × Int × Int) × Int)) × Int × Int × Int × Int × Int × Int × Int × Int) (fun y => [(30, .int .i64 (y.1 : Int))]) [(2, _), (6, _), (28, _), (29, _)] (fun y => []) (fun y => [(b23, .cells #[.int .i64 y.2.2.1, .int .i64 y.2.2.2.1, .int .i64 y.2.2.2.2.1, .int .i64 y.2.2.2.2.2.1, .int .i64 y.2.2.2.2.2.2.1, .int .i64 y.2.2.2.2.2.2.2.1, .int .i64 y.2.2.2.2.2.2.2.2.1, .int .i64 y.2.2.2.2.2.2.2.2.2] 35 (0, 0))]) [_, _] (fun y => []) [] (fun y => List.drop y.1 u29 = y.2.1 ∧ planner_Best_L2 planner_Best_J1 x0_0 x0_1 x0_2 x0_3 x0_4 x0_5 x0_6 x0_7 x0_8 x0_9 y.2.1 y.2.2.1 y.2.2.2.1 y.2.2.2.2.1 y.2.2.2.2.2.1 y.2.2.2.2.2.2.1 y.2.2.2.2.2.2.2.1 y.2.2.2.2.2.2.2.2.1 y.2.2.2.2.2.2.2.2.2 = some r) (fun y => y.2.1.length) (0, u29, u18.1.1, u18.1.2.1, u18.1.2.2.1, u18.1.2.2.2, u18.2.1.1, u18.2.1.2.1, u18.2.1.2.2, u18.2.2) ⟨rfl, r30⟩ ⟨rfl, rfl, rfl, rfl, rfl, trivial⟩ rfl rfl rfl (fun y hI hb205 => ?_)
        obtain ⟨i193, w194, v196, v197, v198, v199, v200, v201, v202, v203⟩ := y
        obtain ⟨g195, r204⟩ := hI
        try dsimp only at g195 r204
        refine Cov.prune [(30, .int .i64 (i193 : Int)), (2, _), (6, _), (28, _), (29, _)] ⟨rfl, rfl, rfl, rfl, rfl, trivial⟩ ?_
        refine Cov.same (bl' := [(b23, .cells #[.int .i64 v196, .int .i64 v197, .int .i64 v198, .int .i64 v199, .int .i64 v200, .int .i64 v201, .int .i64 v202, .int .i64 v203] 35 (0, 0)), _, _]) (sl' := []) (Fs' := G24 :: Fs) rfl rfl rfl ?_
        cases w194 with
        | nil =>
          rw [planner_Best_L2] at r204; try dsimp only at r204
          refine Cov.seq ?_
          refine Cov.region rfl ?_
          refine Cov.q .ro (.lss rfl rfl) rfl ?_
          refine Cov.region_end ?_
          refine Cov.seq ?_
          refine Cov.cond_dec rfl (fun c => absurd c (drop_nil g195)) (fun _ => ?_)
          refine Cov.exit rfl ?_
          refine Cov.prune _ ?_ (Cov.same rfl rfl rfl (hb147 (v196, v197, v198, v199, v200, v201, v202, v203, 0, 0, 0, 0, 0, 0, 0, 0, x0_0, x0_1, x0_2, x0_3, x0_4, x0_5, x0_6, x0_7, x0_8, x0_9) r204))
          exact ⟨rfl, rfl, trivial⟩
        | cons x219 xs220 =>
          have r218 : planner_Best_B2 planner_Best_J1 x0_0 x0_1 x0_2 x0_3 x0_4 x0_5 x0_6 x0_7 x0_8 x0_9 (planner_Best_L2 planner_Best_J1 x0_0 x0_1 x0_2 x0_3 x0_4 x0_5 x0_6 x0_7 x0_8 x0_9 xs220) x219 v196 v197 v198 v199 v200 v201 v202 v203 = some r := r204; clear r204; unfold planner_Best_B2 at r218; try dsimp only at r218
          refine Cov.seq ?_
          refine Cov.region rfl ?_
          refine Cov.q .ro (.lss rfl rfl) rfl ?_
          refine Cov.region_end ?_
          refine Cov.seq ?_
          refine Cov.cond_dec rfl (fun _ => ?_) (fun c => absurd (drop_lt g195) c)
          refine Cov.skip ?_
          refine Cov.seq ?_
          refine Cov.block ?_
          refine Cov.seq ?_
          refine Cov.region rfl ?_
          obtain ⟨c221, p222, h223⟩ := SlR.get s34 (drop_idx g195)
          obtain ⟨_, _, rfl, ⟨_, _, rfl, rfl, _, _, rfl, rfl, _, _, rfl, rfl, rfl⟩, _, _, rfl, ⟨_, _, rfl, rfl, _, _, rfl, rfl, rfl⟩, rfl⟩ := h223
          refine Cov.q .ro (.idxR s34 rfl rfl (drop_idx g195) sl39 ty35.sz) rfl ?_
          refine Cov.q .ro (.load_rp_a [_, _, _, _, _, _, _, _] p222 List.mem_cons_self rfl ty35 rfl) rfl ?_
          refine Cov.alloc .ro ty35 rfl (fun b224 hb224 => ?_)
          refine Cov.store 0 [_, _, _, _, _, _, _, _] [_, _, _, _] .ro rfl rfl rfl ty35 rfl rfl rfl rfl ?_
          refine Cov.region_end ?_
          refine Cov.seq ?_
          refine Cov.region rfl ?_
          refine Cov.q .ro (.load_own_a 0 [_, _, _, _, _, _, _, _] rfl rfl ty35 rfl) rfl ?_
          refine Cov.q .ro (.load_own_a 1 [_, _, _, _, _, _, _, _] rfl rfl ty35 rfl) rfl ?_
          obtain ⟨u225, hu225, r226⟩ := bind_some r218; clear r218
          refine Cov.callS (b1 := []) (b2 := [_, _, _, _]) (s1 := []) [_, _] [] .ro rfl rfl Try.call28 rfl rfl (planner_Better_c (G := G24) List.mem_cons_self  hu225) rfl (fun v228 bo so h227 => ?_)
          obtain ⟨rfl, rfl, rfl⟩ := h227
          refine Cov.same (bl' := [_, _, _, _]) (sl' := []) rfl rfl rfl ?_
          refine Cov.region_end ?_
          refine Cov.cond rfl (fun c229 => ?_) (fun c229 => ?_)
          · have r230 := ifT r226 c229; clear r226
            refine Cov.region rfl ?_
            refine Cov.q .ro (.load_own_a 0 [_, _, _, _, _, _, _, _] rfl rfl ty35 rfl) rfl ?_
            refine Cov.store 1 [_, _, _, _, _, _, _, _] [_, _, _, _] .ro rfl rfl rfl ty35 rfl rfl rfl rfl ?_
            refine Cov.region_end ?_
            refine Cov.inBlock ?_
            refine Cov.region rfl ?_
            refine Cov.q .ro (.addw rfl rfl) rfl ?_
            refine Cov.q .ro (.move rfl) rfl ?_
            refine Cov.region_end ?_
            refine Cov.drop 1 0 [_, _, _] _ rfl rfl ?_
            refine Cov.prune _ ?_ (Cov.same rfl rfl rfl (hb205 ((i193 + 1), xs220, x219.1.1, x219.1.2.1, x219.1.2.2.1, x219.1.2.2.2, x219.2.1.1, x219.2.1.2.1, x219.2.1.2.2, x219.2.2) ⟨(drop_succ g195), r230⟩ (Nat.lt_succ_self _)))
            exact ⟨(congrArg (fun z => some (Value.int .i64 z)) (idx_wrap (SlR.len s34) g195)), rfl, rfl, rfl, rfl, trivial⟩
          · have r231 := ifBF r226 c229; clear r226
            refine Cov.skip ?_
            refine Cov.inBlock ?_
            refine Cov.region rfl ?_
            refine Cov.q .ro (.addw rfl rfl) rfl ?_
            refine Cov.q .ro (.move rfl) rfl ?_
            refine Cov.region_end ?_
            refine Cov.drop 1 0 [_, _, _] _ rfl rfl ?_
            refine Cov.prune _ ?_ (Cov.same rfl rfl rfl (hb205 ((i193 + 1), xs220, v196, v197, v198, v199, v200, v201, v202, v203) ⟨(drop_succ g195), r231⟩ (Nat.lt_succ_self _)))
            exact ⟨(congrArg (fun z => some (Value.int .i64 z)) (idx_wrap (SlR.len s34) g195)), rfl, rfl, rfl, rfl, trivial⟩

set_option maxHeartbeats 4000000 in
theorem law29_sane_c {Fs : List Hp} {G : Hp}  {r : Bool} (hG : G ∈ Fs)  (h : law29_sane = some r) : RetS Try.prog 8 #[] Fs [] [] (fun v bo so => v = .bool r ∧ bo = [] ∧ so = []) := by
  unfold law29_sane at h
  try dsimp only at h
  refine RetS.of (vs := []) Try.func8 rfl Try.ntmps8 [] trivial rfl hG fun w0 S0 hS0 B0 => ?_
  refine Cov.seq ?_
  refine Cov.region rfl ?_
  refine Cov.q .ro (.assign rfl) rfl ?_
  refine Cov.region_end ?_
  refine Cov.seq ?_
  refine Cov.region rfl ?_
  refine Cov.q .ro (.build [_, _, _] [(0, _)] ty27 pl27 rfl rfl) rfl ?_
  refine Cov.q .ro (.build [_, _, _, _, _, _, _, _, _, _] [(0, _), (1, _), (2, _), (4, _), (5, _), (6, _), (7, _)] ty29 pl29 rfl rfl) rfl ?_
  obtain ⟨u1, hu1, r2⟩ := bind_some h; clear h
  refine Cov.callS (b1 := []) (b2 := []) (s1 := []) [_] [] .ro rfl rfl Try.call12 rfl rfl (planner_Best_c (G := G) List.mem_cons_self  hu1) rfl (fun v4 bo so h3 => ?_)
  obtain ⟨rfl, rfl, rfl⟩ := h3
  refine Cov.same (bl' := []) (sl' := []) rfl rfl rfl ?_
  refine Cov.q .ro (.move rfl) rfl ?_
  refine Cov.q .ro (.extract rfl rfl) rfl ?_
  refine Cov.q .ro (.extract rfl rfl) rfl ?_
  refine Cov.alloc .ro ty35 rfl (fun b5 hb5 => ?_)
  refine Cov.store 0 [_, _, _, _, _, _, _, _] [_] .ro rfl rfl rfl ty35 rfl rfl rfl rfl ?_
  refine Cov.q .ro (.assign rfl) rfl ?_
  refine Cov.region_end ?_
  refine Cov.seq ?_
  refine Cov.region rfl ?_
  refine Cov.q .ro (.build [_, _, _, _, _, _, _, _, _, _] [(0, _), (1, _), (2, _), (4, _), (5, _), (6, _)] ty29 pl29 rfl rfl) rfl ?_
  obtain ⟨u6, hu6, r7⟩ := bind_some r2; clear r2
  refine Cov.callS (b1 := []) (b2 := [_]) (s1 := []) [_] [] .ro rfl rfl Try.call12 rfl rfl (planner_Best_c (G := G) List.mem_cons_self  hu6) rfl (fun v9 bo so h8 => ?_)
  obtain ⟨rfl, rfl, rfl⟩ := h8
  refine Cov.same (bl' := [_]) (sl' := []) rfl rfl rfl ?_
  refine Cov.q .ro (.move rfl) rfl ?_
  refine Cov.q .ro (.extract rfl rfl) rfl ?_
  refine Cov.q .ro (.extract rfl rfl) rfl ?_
  refine Cov.alloc .ro ty35 rfl (fun b10 hb10 => ?_)
  refine Cov.store 0 [_, _, _, _, _, _, _, _] [_, _] .ro rfl rfl rfl ty35 rfl rfl rfl rfl ?_
  refine Cov.q .ro (.assign rfl) rfl ?_
  refine Cov.region_end ?_
  refine Cov.prune [(1, _), (2, _), (4, _)] ⟨rfl, rfl, rfl, trivial⟩ ?_
  refine Cov.seq ?_
  refine Cov.region rfl ?_
  refine Cov.q .ro (.move rfl) rfl ?_
  refine Cov.q .ro (.eql rfl rfl) rfl ?_
  refine Cov.q .ro (.move rfl) rfl ?_
  refine Cov.cutR 5 (β := Unit) (fun y => [(23, .bool (decide ((u1.2 = 0) ∧ ((u1.1.1.1, u1.1.1.2.1, u1.1.1.2.2.1, u1.1.1.2.2.2) = (2, 3, 1, 0)))))]) [(1, _), (4, _)] (fun y => G :: Fs) (fun y => []) [_, _] (fun y => []) [] (fun y => True) ⟨rfl, rfl, trivial⟩ [0, 1] rfl [] rfl ?_ ?_
  · rintro _ _
    refine Cov.prune [(23, .bool (decide ((u1.2 = 0) ∧ ((u1.1.1.1, u1.1.1.2.1, u1.1.1.2.2.1, u1.1.1.2.2.2) = (2, 3, 1, 0))))), (1, _), (4, _)] ⟨rfl, rfl, rfl, trivial⟩ ?_
    refine Cov.same (bl' := [_, _]) (sl' := []) (Fs' := G :: Fs) rfl rfl rfl ?_
    refine Cov.q .ro (.move rfl) rfl ?_
    refine Cov.cutR 5 (β := Unit) (fun y => [(29, .bool (decide (((u1.2 = 0) ∧ ((u1.1.1.1, u1.1.1.2.1, u1.1.1.2.2.1, u1.1.1.2.2.2) = (2, 3, 1, 0))) ∧ (u1.1.2.1.1 = 30))))]) [(4, _)] (fun y => G :: Fs) (fun y => []) [_, _] (fun y => []) [] (fun y => True) ⟨rfl, trivial⟩ [0, 1] rfl [] rfl ?_ ?_
    · rintro _ _
      refine Cov.prune [(29, .bool (decide (((u1.2 = 0) ∧ ((u1.1.1.1, u1.1.1.2.1, u1.1.1.2.2.1, u1.1.1.2.2.2) = (2, 3, 1, 0))) ∧ (u1.1.2.1.1 = 30)))), (4, _)] ⟨rfl, rfl, trivial⟩ ?_
      refine Cov.same (bl' := [_, _]) (sl' := []) (Fs' := G :: Fs) rfl rfl rfl ?_
      refine Cov.q .ro (.move rfl) rfl ?_
      refine Cov.cutR 3 (β := Unit) (fun y => [(33, .bool (decide ((((u1.2 = 0) ∧ ((u1.1.1.1, u1.1.1.2.1, u1.1.1.2.2.1, u1.1.1.2.2.2) = (2, 3, 1, 0))) ∧ (u1.1.2.1.1 = 30)) ∧ (u6.2 = 6))))]) [] (fun y => G :: Fs) (fun y => []) [_, _] (fun y => []) [] (fun y => True) trivial [0, 1] rfl [] rfl ?_ ?_
      · rintro _ _
        refine Cov.prune [(33, .bool (decide ((((u1.2 = 0) ∧ ((u1.1.1.1, u1.1.1.2.1, u1.1.1.2.2.1, u1.1.1.2.2.2) = (2, 3, 1, 0))) ∧ (u1.1.2.1.1 = 30)) ∧ (u6.2 = 6))))] ⟨rfl, trivial⟩ ?_
        refine Cov.same (bl' := [_, _]) (sl' := []) (Fs' := G :: Fs) rfl rfl rfl ?_
        refine Cov.q .ro (.assign rfl) rfl ?_
        refine Cov.region_end ?_
        cases r7
        refine Cov.drop 2 0 [] _ rfl rfl ?_
        refine Cov.retS (c := ⟨8, none⟩) (.inr ⟨_, rfl⟩) [.tmp 0] [_] rfl Try.func8 Try.results8 ⟨RV.tmp rfl, trivial⟩ (fun _ h => List.mem_cons_of_mem _ h) ⟨rfl, rfl, rfl⟩
      · intro hb20
        refine Cov.split 30 rfl (fun c19 => ?_) (fun c19 => ?_)
        · refine Cov.g_on rfl ?_
          refine Cov.q .ro (.move rfl) rfl ?_
          refine Cov.g_on rfl ?_
          refine Cov.q .ro (.eql rfl rfl) rfl ?_
          refine Cov.q .ro (.pick_t rfl rfl) rfl ?_
          refine Cov.prune _ ?_ (Cov.same rfl rfl rfl (hb20 () trivial))
          exact ⟨dand_t c19, trivial⟩
        · refine Cov.g_off rfl rfl rfl ?_
          refine Cov.g_off rfl rfl rfl ?_
          refine Cov.q .ro (.pick_f rfl rfl) rfl ?_
          refine Cov.prune _ ?_ (Cov.same rfl rfl rfl (hb20 () trivial))
          exact ⟨dand_f c19, trivial⟩
    · intro hb16
      refine Cov.split 24 rfl (fun c15 => ?_) (fun c15 => ?_)
      · refine Cov.g_on rfl ?_
        refine Cov.q .ro (.fieldAddr 4 rfl fl35_1 ty27.sz rfl) rfl ?_
        refine Cov.g_on rfl ?_
        refine Cov.q .ro (.fieldAddr 4 rfl fl27_0 ty3.sz rfl) rfl ?_
        refine Cov.g_on rfl ?_
        refine Cov.q .ro (.load_own 1 rfl rfl ty3 rfl) rfl ?_
        refine Cov.g_on rfl ?_
        refine Cov.q .ro (.eql rfl rfl) rfl ?_
        refine Cov.q .ro (.pick_t rfl rfl) rfl ?_
        refine Cov.prune _ ?_ (Cov.same rfl rfl rfl (hb16 () trivial))
        exact ⟨dand_t c15, rfl, trivial⟩
      · refine Cov.g_off rfl rfl rfl ?_
        refine Cov.g_off rfl rfl rfl ?_
        refine Cov.g_off rfl rfl rfl ?_
        refine Cov.g_off rfl rfl rfl ?_
        refine Cov.q .ro (.pick_f rfl rfl) rfl ?_
        refine Cov.prune _ ?_ (Cov.same rfl rfl rfl (hb16 () trivial))
        exact ⟨dand_f c15, rfl, trivial⟩
  · intro hb12
    refine Cov.split 18 rfl (fun c11 => ?_) (fun c11 => ?_)
    · refine Cov.g_on rfl ?_
      refine Cov.q .ro (.fieldAddr 0 rfl fl35_0 ty33.sz rfl) rfl ?_
      refine Cov.g_on rfl ?_
      refine Cov.q .ro (.load_own_a 1 [_, _, _, _] rfl rfl ty33 rfl) rfl ?_
      refine Cov.g_on rfl ?_
      refine Cov.q .ro (.build [_, _, _, _] [(0, _), (1, _), (2, _)] ty33 pl33 rfl rfl) rfl ?_
      refine Cov.g_on rfl ?_
      refine Cov.q .ro (.cast (show Value.bool (decide (([u1.1.1.1, u1.1.1.2.1, u1.1.1.2.2.1, u1.1.1.2.2.2] : List Int) = ([2, 3, 1, 0] : List Int))) = Value.bool (decide ((u1.1.1.1, u1.1.1.2.1, u1.1.1.2.2.1, u1.1.1.2.2.2) = (2, 3, 1, 0))) from congrArg Value.bool (decide_eq_decide.2 (by simp))) (.eql_i [u1.1.1.1, u1.1.1.2.1, u1.1.1.2.2.1, u1.1.1.2.2.2] [2, 3, 1, 0] Try.underlying33 (by kernel_rfl) Try.stoodInHeld33 Try.eqGuardType33 rfl rfl rfl rfl)) rfl ?_
      refine Cov.q .ro (.pick_t rfl rfl) rfl ?_
      refine Cov.prune _ ?_ (Cov.same rfl rfl rfl (hb12 () trivial))
      exact ⟨dand_t c11, rfl, rfl, trivial⟩
    · refine Cov.g_off rfl rfl rfl ?_
      refine Cov.g_off rfl rfl rfl ?_
      refine Cov.g_off rfl rfl rfl ?_
      refine Cov.g_off rfl rfl rfl ?_
      refine Cov.q .ro (.pick_f rfl rfl) rfl ?_
      refine Cov.prune _ ?_ (Cov.same rfl rfl rfl (hb12 () trivial))
      exact ⟨dand_f c11, rfl, rfl, trivial⟩

set_option maxHeartbeats 4000000 in
theorem play_New_c {Fs : List Hp} {G : Hp} {a0 : Option Addr} {k0 : Nat} {x0 : List Int} {r : ((List Int) × Int)} (hG : G ∈ Fs) (s0 : SlR (Rep.int .u8) G a0 k0 x0) (h : play_New x0 = some r) : RetS Try.prog 9 #[.slice a0 x0.length k0] Fs [] [] (fun v bo so => ∃ a0 : Option Addr, ∃ k0 : Nat, ∃ b0 : Nat, v = .pointer (some ⟨b0, 0, none⟩) ∧ bo = [(b0, .cells #[.slice a0 r.1.length k0, .int .i64 r.2] 58 (0, 0))] ∧ so = [] ∧ SlR (Rep.int .u8) G a0 k0 r.1) := by
  unfold play_New at h
  try dsimp only at h
  refine RetS.of (vs := [_]) Try.func9 rfl Try.ntmps9 [(0, _)] ⟨rfl, trivial⟩ rfl hG fun w0 S0 hS0 B0 => ?_
  refine Cov.seq ?_
  refine Cov.region rfl ?_
  refine Cov.q .ro (.assign rfl) rfl ?_
  refine Cov.region_end ?_
  refine Cov.seq ?_
  refine Cov.seq ?_
  refine Cov.region rfl ?_
  refine Cov.q .ro (.move rfl) rfl ?_
  refine Cov.q .ro (.len_sl rfl rfl sl22) rfl ?_
  refine Cov.q .ro (.gtr rfl rfl) rfl ?_
  refine Cov.region_end ?_
  refine Cov.cutI (β := List Int × Option Addr × Nat) (fun y => [(0, .slice y.2.1 y.1.length y.2.2)]) [] (fun y => G :: Fs) (fun y => []) [] (fun y => []) [] (fun y => SlR (Rep.int .u8) G y.2.1 y.2.2 y.1 ∧ play_New_J1 y.1 = some r) trivial [] rfl [] rfl ?_ ?_
  · intro y hI
    obtain ⟨v11, a12, k13⟩ := y
    obtain ⟨s14, r16⟩ := hI
    try dsimp only at s14 r16
    refine Cov.prune [(0, .slice a12 v11.length k13)] ⟨rfl, trivial⟩ ?_
    refine Cov.same (bl' := []) (sl' := []) (Fs' := G :: Fs) rfl rfl rfl ?_
    unfold play_New_J1 at r16
    try dsimp only at r16
    refine Cov.seq ?_
    refine Cov.region rfl ?_
    refine Cov.q .ro (.move rfl) rfl ?_
    refine Cov.q .ro (.build [_, _] [(0, _)] ty58 pl58 rfl rfl) rfl ?_
    refine Cov.box [_, _] .ro rfl rfl rfl (fun b17 hb17 => ?_)
    refine Cov.q .ro (.assign rfl) rfl ?_
    refine Cov.region_end ?_
    cases r16
    refine Cov.retS (c := ⟨9, none⟩) (.inr ⟨_, rfl⟩) [.tmp 2] [_] rfl Try.func9 Try.results9 ⟨RV.tmp rfl, trivial⟩ (fun _ h => List.mem_cons_of_mem _ h) ⟨a12, k13, _, rfl, rfl, rfl, s14⟩
  · intro hb18
    refine Cov.cond_dec rfl (fun c19 => ?_) (fun c19 => ?_)
    · have r20 := ifT h c19; clear h
      refine Cov.region rfl ?_
      refine Cov.q .ro (.move rfl) rfl ?_
      obtain ⟨u21, hu21, r22⟩ := bind_some r20; clear r20
      obtain ⟨a23, k24, h25, s26⟩ := SlR.sub s0 hu21
      refine Cov.q .ro (.sliceR s0 rfl hu21 sl22 ty5.sz (fun _ => .no) (fun h => .yes' rfl h) h25) rfl ?_
      refine Cov.q .ro (.assign rfl) rfl ?_
      refine Cov.region_end ?_
      refine Cov.prune _ ?_ (Cov.same rfl rfl rfl (hb18 (u21, a23, k24) ⟨s26, r22⟩))
      exact ⟨rfl, trivial⟩
    · have r27 := ifF h c19; clear h
      refine Cov.skip ?_
      refine Cov.prune _ ?_ (Cov.same rfl rfl rfl (hb18 (x0, a0, k0) ⟨s0, r27⟩))
      exact ⟨rfl, trivial⟩

set_option maxHeartbeats 4000000 in
theorem play_Dice_Pick_c {Fs : List Hp} {G : Hp} {p0 : Nat} {a0_0 : Option Addr} {k0_0 : Nat} {x0_0 : List Int} {x0_1 : Int} {x1 : Int} {r : (Int × ((List Int) × Int))} (hG : G ∈ Fs) (s0_0 : SlR (Rep.int .u8) G a0_0 k0_0 x0_0) (h : play_Dice_Pick (x0_0, x0_1) x1 = some r) : RetS Try.prog 18 #[.pointer (some ⟨p0, 0, none⟩), .int .i64 x1] Fs [(p0, .cells #[.slice a0_0 x0_0.length k0_0, .int .i64 x0_1] 58 (0, 0))] [] (fun v bo so => ∃ a0 : Option Addr, ∃ k0 : Nat, v = .int .i64 r.1 ∧ bo = [(p0, .cells #[.slice a0 r.2.1.length k0, .int .i64 r.2.2] 58 (0, 0))] ∧ so = [] ∧ SlR (Rep.int .u8) G a0 k0 r.2.1) := by
  unfold play_Dice_Pick at h
  try dsimp only at h
  refine RetS.of (vs := [_, _]) Try.func18 rfl Try.ntmps18 [(0, _), (1, _)] ⟨rfl, rfl, trivial⟩ rfl hG fun w0 S0 hS0 B0 => ?_
  refine Cov.seq ?_
  refine Cov.region rfl ?_
  refine Cov.q .ro (.assign rfl) rfl ?_
  refine Cov.region_end ?_
  refine Cov.seq ?_
  refine Cov.seq ?_
  refine Cov.drawL (.q 0 (.q 1 (.q 2 (.q 3 (.q 4 (.q 5 (.q 6 (.q 7 (.q 8 (.q 9 .nil)))))))))) [_] (by kernel_rfl) (by kernel_rfl) (pick_mem [0] rfl) ?_
  refine Cov.dq (.move rfl) rfl ?_
  refine Cov.dq (.nilCheck rfl rfl) rfl ?_
  refine Cov.dq (.fieldAddr 1 rfl fl58_1 ty3.sz rfl) rfl ?_
  refine Cov.dq (.load_own 0 rfl rfl ty3 rfl) rfl ?_
  refine Cov.dq (.move rfl) rfl ?_
  refine Cov.dq (.nilCheck rfl rfl) rfl ?_
  refine Cov.dq (.fieldAddr 0 rfl fl58_0 ty22.sz rfl) rfl ?_
  refine Cov.dq (.load_own 0 rfl rfl ty22 rfl) rfl ?_
  refine Cov.dq (.len_sl rfl rfl sl22) rfl ?_
  refine Cov.dq (.geq rfl rfl) rfl ?_
  refine Cov.draw_end ?_
  refine Cov.cond_dec rfl (fun c1 => ?_) (fun c1 => ?_)
  · have r2 := ifT h c1; clear h
    refine Cov.seq ?_
    refine Cov.region rfl ?_
    refine Cov.q .ro (.assign rfl) rfl ?_
    refine Cov.region_end ?_
    cases r2
    refine Cov.retS (c := ⟨18, none⟩) (.inr ⟨_, rfl⟩) [.tmp 4] [_] rfl Try.func18 Try.results18 ⟨RV.tmp rfl, trivial⟩ (fun _ h => List.mem_cons_of_mem _ h) ⟨a0_0, k0_0, rfl, rfl, rfl, s0_0⟩
  · have r3 := ifF h c1; clear h
    refine Cov.skip ?_
    refine Cov.seq ?_
    refine Cov.region rfl ?_
    refine Cov.q .ro (.move rfl) rfl ?_
    refine Cov.q .ro (.nilCheck rfl rfl) rfl ?_
    refine Cov.q .ro (.fieldAddr 1 rfl fl58_1 ty3.sz rfl) rfl ?_
    refine Cov.q .ro (.load_own 0 rfl rfl ty3 rfl) rfl ?_
    refine Cov.q .ro (.addw rfl rfl) rfl ?_
    refine Cov.q .ro (.nilCheck rfl rfl) rfl ?_
    refine Cov.q .ro (.fieldAddr 1 rfl fl58_1 ty3.sz rfl) rfl ?_
    refine Cov.store 0 [_, _] [_] .ro rfl rfl rfl ty3 rfl rfl rfl rfl ?_
    refine Cov.region_end ?_
    refine Cov.prune [(0, _), (1, _)] ⟨rfl, rfl, trivial⟩ ?_
    refine Cov.seq ?_
    refine Cov.drawL (.q 0 (.q 1 (.q 2 (.q 3 (.q 4 (.q 5 (.q 6 (.q 7 (.q 8 (.q 9 (.q 10 (.q 11 (.q 12 (.q 13 (.q 14 .nil))))))))))))))) [_] (by kernel_rfl) (by kernel_rfl) (pick_mem [0] rfl) ?_
    refine Cov.dq (.move rfl) rfl ?_
    refine Cov.dq (.nilCheck rfl rfl) rfl ?_
    refine Cov.dq (.fieldAddr 0 rfl fl58_0 ty22.sz rfl) rfl ?_
    refine Cov.dq (.load_own 0 rfl rfl ty22 rfl) rfl ?_
    refine Cov.dq (.move rfl) rfl ?_
    refine Cov.dq (.nilCheck rfl rfl) rfl ?_
    refine Cov.dq (.fieldAddr 1 rfl fl58_1 ty3.sz rfl) rfl ?_
    refine Cov.dq (.load_own 0 rfl rfl ty3 rfl) rfl ?_
    refine Cov.dq (.subw rfl rfl) rfl ?_
    obtain ⟨u4, hu4, r5⟩ := bind_some r3; clear r3
    obtain ⟨c6, p7, h8⟩ := SlR.get s0_0 hu4
    obtain rfl := h8
    refine Cov.dq (.idxR s0_0 rfl rfl hu4 sl22 ty5.sz) rfl ?_
    refine Cov.dq (.load_rp p7 List.mem_cons_self rfl ty5 rfl) rfl ?_
    refine Cov.dq (.convw Try.underlying5 Try.underlying3 rfl) rfl ?_
    refine Cov.dq (.move rfl) rfl ?_
    obtain ⟨u9, hu9, r10⟩ := bind_some r5; clear r5
    refine Cov.dq (.remt rfl rfl (nz_some hu9)) rfl ?_
    refine Cov.dq (.assign rfl) rfl ?_
    refine Cov.draw_end ?_
    refine Cov.prune [(4, _)] ⟨rfl, trivial⟩ ?_
    cases r10
    refine Cov.retS (c := ⟨18, none⟩) (.inr ⟨_, rfl⟩) [.tmp 4] [_] rfl Try.func18 Try.results18 ⟨RV.tmp rfl, trivial⟩ (fun _ h => List.mem_cons_of_mem _ h) ⟨a0_0, k0_0, rfl, rfl, rfl, s0_0⟩

set_option maxHeartbeats 4000000 in
theorem law29_wanted_c {Fs : List Hp} {G : Hp} {p0 : Nat} {a0_0 : Option Addr} {k0_0 : Nat} {x0_0 : List Int} {x0_1 : Int} {r : ((Int × Int × Int × Int × Int × Int × Int × (Int × Int × Int)) × ((List Int) × Int))} (hG : G ∈ Fs) (s0_0 : SlR (Rep.int .u8) G a0_0 k0_0 x0_0) (h : law29_wanted (x0_0, x0_1) = some r) : RetS Try.prog 10 #[.pointer (some ⟨p0, 0, none⟩)] Fs [(p0, .cells #[.slice a0_0 x0_0.length k0_0, .int .i64 x0_1] 58 (0, 0))] [] (fun v bo so => ∃ a0 : Option Addr, ∃ k0 : Nat, v = .agg #[.int .i64 r.1.1, .int .i64 r.1.2.1, .int .i64 r.1.2.2.1, .int .i64 r.1.2.2.2.1, .int .i64 r.1.2.2.2.2.1, .int .i64 r.1.2.2.2.2.2.1, .int .i64 r.1.2.2.2.2.2.2.1, .int .i64 r.1.2.2.2.2.2.2.2.1, .int .i64 r.1.2.2.2.2.2.2.2.2.1, .int .i64 r.1.2.2.2.2.2.2.2.2.2] ∧ bo = [(p0, .cells #[.slice a0 r.2.1.length k0, .int .i64 r.2.2] 58 (0, 0))] ∧ so = [] ∧ SlR (Rep.int .u8) G a0 k0 r.2.1) := by
  unfold law29_wanted at h
  try dsimp only at h
  refine RetS.of (vs := [_]) Try.func10 rfl Try.ntmps10 [(0, _)] ⟨rfl, trivial⟩ rfl hG fun w0 S0 hS0 B0 => ?_
  refine Cov.seq ?_
  refine Cov.region rfl ?_
  refine Cov.alloc .ro ty29 rfl (fun b1 hb1 => ?_)
  refine Cov.region_end ?_
  refine Cov.seq ?_
  refine Cov.region rfl ?_
  refine Cov.q .ro (.move rfl) rfl ?_
  obtain ⟨u2, hu2, r3⟩ := bind_some h; clear h
  refine Cov.pull 1 rfl [_, _] rfl ?_
  refine Cov.callS (b1 := [_]) (b2 := [_]) (s1 := []) [_, _] [] .ro rfl rfl Try.call18 rfl rfl (play_Dice_Pick_c (G := G) List.mem_cons_self s0_0 hu2) rfl (fun v5 bo so h4 => ?_)
  obtain ⟨a6, k7, rfl, rfl, rfl, s8⟩ := h4
  refine Cov.same (bl' := [_, _]) (sl' := []) rfl rfl rfl ?_
  refine Cov.q .ro (.addw rfl rfl) rfl ?_
  refine Cov.q .ro (.move rfl) rfl ?_
  obtain ⟨u9, hu9, r10⟩ := bind_some r3; clear r3
  refine Cov.callS (b1 := [_]) (b2 := [_]) (s1 := []) [_, _] [] .ro rfl rfl Try.call18 rfl rfl (play_Dice_Pick_c (G := G) List.mem_cons_self s8 hu9) rfl (fun v12 bo so h11 => ?_)
  obtain ⟨a13, k14, rfl, rfl, rfl, s15⟩ := h11
  refine Cov.same (bl' := [_, _]) (sl' := []) rfl rfl rfl ?_
  refine Cov.q .ro (.move rfl) rfl ?_
  obtain ⟨u16, hu16, r17⟩ := bind_some r10; clear r10
  refine Cov.callS (b1 := [_]) (b2 := [_]) (s1 := []) [_, _] [] .ro rfl rfl Try.call18 rfl rfl (play_Dice_Pick_c (G := G) List.mem_cons_self s15 hu16) rfl (fun v19 bo so h18 => ?_)
  obtain ⟨a20, k21, rfl, rfl, rfl, s22⟩ := h18
  refine Cov.same (bl' := [_, _]) (sl' := []) rfl rfl rfl ?_
  refine Cov.q .ro (.move rfl) rfl ?_
  obtain ⟨u23, hu23, r24⟩ := bind_some r17; clear r17
  refine Cov.callS (b1 := [_]) (b2 := [_]) (s1 := []) [_, _] [] .ro rfl rfl Try.call18 rfl rfl (play_Dice_Pick_c (G := G) List.mem_cons_self s22 hu23) rfl (fun v26 bo so h25 => ?_)
  obtain ⟨a27, k28, rfl, rfl, rfl, s29⟩ := h25
  refine Cov.same (bl' := [_, _]) (sl' := []) rfl rfl rfl ?_
  refine Cov.q .ro (.move rfl) rfl ?_
  obtain ⟨u30, hu30, r31⟩ := bind_some r24; clear r24
  refine Cov.callS (b1 := [_]) (b2 := [_]) (s1 := []) [_, _] [] .ro rfl rfl Try.call18 rfl rfl (play_Dice_Pick_c (G := G) List.mem_cons_self s29 hu30) rfl (fun v33 bo so h32 => ?_)
  obtain ⟨a34, k35, rfl, rfl, rfl, s36⟩ := h32
  refine Cov.same (bl' := [_, _]) (sl' := []) rfl rfl rfl ?_
  refine Cov.q .ro (.addw rfl rfl) rfl ?_
  refine Cov.q .ro (.move rfl) rfl ?_
  obtain ⟨u37, hu37, r38⟩ := bind_some r31; clear r31
  refine Cov.callS (b1 := [_]) (b2 := [_]) (s1 := []) [_, _] [] .ro rfl rfl Try.call18 rfl rfl (play_Dice_Pick_c (G := G) List.mem_cons_self s36 hu37) rfl (fun v40 bo so h39 => ?_)
  obtain ⟨a41, k42, rfl, rfl, rfl, s43⟩ := h39
  refine Cov.same (bl' := [_, _]) (sl' := []) rfl rfl rfl ?_
  refine Cov.q .ro (.addw rfl rfl) rfl ?_
  refine Cov.q .ro (.move rfl) rfl ?_
  obtain ⟨u44, hu44, r45⟩ := bind_some r38; clear r38
  refine Cov.callS (b1 := [_]) (b2 := [_]) (s1 := []) [_, _] [] .ro rfl rfl Try.call18 rfl rfl (play_Dice_Pick_c (G := G) List.mem_cons_self s43 hu44) rfl (fun v47 bo so h46 => ?_)
  obtain ⟨a48, k49, rfl, rfl, rfl, s50⟩ := h46
  refine Cov.same (bl' := [_, _]) (sl' := []) rfl rfl rfl ?_
  refine Cov.q .ro (.addw rfl rfl) rfl ?_
  refine Cov.q .ro (.move rfl) rfl ?_
  obtain ⟨u51, hu51, r52⟩ := bind_some r45; clear r45
  refine Cov.callS (b1 := [_]) (b2 := [_]) (s1 := []) [_, _] [] .ro rfl rfl Try.call18 rfl rfl (play_Dice_Pick_c (G := G) List.mem_cons_self s50 hu51) rfl (fun v54 bo so h53 => ?_)
  obtain ⟨a55, k56, rfl, rfl, rfl, s57⟩ := h53
  refine Cov.same (bl' := [_, _]) (sl' := []) rfl rfl rfl ?_
  refine Cov.q .ro (.move rfl) rfl ?_
  obtain ⟨u58, hu58, r59⟩ := bind_some r52; clear r52
  refine Cov.callS (b1 := [_]) (b2 := [_]) (s1 := []) [_, _] [] .ro rfl rfl Try.call18 rfl rfl (play_Dice_Pick_c (G := G) List.mem_cons_self s57 hu58) rfl (fun v61 bo so h60 => ?_)
  obtain ⟨a62, k63, rfl, rfl, rfl, s64⟩ := h60
  refine Cov.same (bl' := [_, _]) (sl' := []) rfl rfl rfl ?_
  refine Cov.q .ro (.move rfl) rfl ?_
  obtain ⟨u65, hu65, r66⟩ := bind_some r59; clear r59
  refine Cov.callS (b1 := [_]) (b2 := [_]) (s1 := []) [_, _] [] .ro rfl rfl Try.call18 rfl rfl (play_Dice_Pick_c (G := G) List.mem_cons_self s64 hu65) rfl (fun v68 bo so h67 => ?_)
  obtain ⟨a69, k70, rfl, rfl, rfl, s71⟩ := h67
  refine Cov.same (bl' := [_, _]) (sl' := []) rfl rfl rfl ?_
  refine Cov.q .ro (.build [_, _, _] [(0, _), (1, _), (2, _)] ty27 pl27 rfl rfl) rfl ?_
  refine Cov.q .ro (.build [_, _, _, _, _, _, _, _, _, _] [(0, _), (1, _), (2, _), (3, _), (4, _), (5, _), (6, _), (7, _)] ty29 pl29 rfl rfl) rfl ?_
  refine Cov.alloc .ro ty29 rfl (fun b72 hb72 => ?_)
  refine Cov.store 0 [_, _, _, _, _, _, _, _, _, _] [_, _, _] .ro rfl rfl rfl ty29 rfl rfl rfl rfl ?_
  refine Cov.region_end ?_
  refine Cov.prune [(0, _), (2, _), (3, _)] ⟨rfl, rfl, rfl, trivial⟩ ?_
  refine Cov.seq ?_
  refine Cov.seq ?_
  refine Cov.region rfl ?_
  refine Cov.q .ro (.move rfl) rfl ?_
  obtain ⟨u73, hu73, r74⟩ := bind_some r66; clear r66
  refine Cov.pull 1 rfl [_, _, _] rfl ?_
  refine Cov.callS (b1 := [_]) (b2 := [_, _]) (s1 := []) [_, _] [] .ro rfl rfl Try.call18 rfl rfl (play_Dice_Pick_c (G := G) List.mem_cons_self s71 hu73) rfl (fun v76 bo so h75 => ?_)
  obtain ⟨a77, k78, rfl, rfl, rfl, s79⟩ := h75
  refine Cov.same (bl' := [_, _, _]) (sl' := []) rfl rfl rfl ?_
  refine Cov.region_end ?_
  refine Cov.block ?_
  refine Cov.seq ?_
  refine Cov.region rfl ?_
  refine Cov.q .ro (.eql rfl rfl) rfl ?_
  refine Cov.q .ro (.assign rfl) rfl ?_
  refine Cov.region_end ?_
  refine Cov.cutI (β := List Int × Option Addr × Nat × Int × Int × Int × Int × Int) (fun y => []) [(2, _), (3, _)] (fun y => G :: Fs) (fun y => [(p0, .cells #[.slice y.2.1 y.1.length y.2.2.1, .int .i64 y.2.2.2.1] 58 (0, 0)), (b72, .cells #[.int .i64 y.2.2.2.2.1, .int .i64 y.2.2.2.2.2.1, .int .i64 u16.1, .int .i64 u23.1, .int .i64 y.2.2.2.2.2.2.1, .int .i64 (w64 (1 + u37.1)), .int .i64 (w64 (1 + u44.1)), .int .i64 y.2.2.2.2.2.2.2, .int .i64 u58.1, .int .i64 u65.1] 29 (0, 0))]) [_] (fun y => []) [] (fun y => SlR (Rep.int .u8) G y.2.1 y.2.2.1 y.1 ∧ (law29_wanted_J1 u16.1 u23.1 (w64 (1 + u37.1)) (w64 (1 + u44.1)) u58.1 u65.1) y.1 y.2.2.2.1 y.2.2.2.2.1 y.2.2.2.2.2.1 y.2.2.2.2.2.2.1 y.2.2.2.2.2.2.2 = some r) ⟨rfl, rfl, trivial⟩ [2] rfl [] rfl ?_ ?_
  · intro y hI
    obtain ⟨v4163, a4164, k4165, v4167, v4168, v4169, v4170, v4171⟩ := y
    obtain ⟨s4166, r4173⟩ := hI
    try dsimp only at s4166 r4173
    refine Cov.prune [(2, _), (3, _)] ⟨rfl, rfl, trivial⟩ ?_
    refine Cov.same (bl' := [(p0, .cells #[.slice a4164 v4163.length k4165, .int .i64 v4167] 58 (0, 0)), (b72, .cells #[.int .i64 v4168, .int .i64 v4169, .int .i64 u16.1, .int .i64 u23.1, .int .i64 v4170, .int .i64 (w64 (1 + u37.1)), .int .i64 (w64 (1 + u44.1)), .int .i64 v4171, .int .i64 u58.1, .int .i64 u65.1] 29 (0, 0)), _]) (sl' := []) (Fs' := G :: Fs) rfl rfl rfl ?_
    unfold law29_wanted_J1 at r4173
    try dsimp only at r4173
    refine Cov.inBlock ?_
    refine Cov.seq ?_
    refine Cov.region rfl ?_
    refine Cov.q .ro (.load_own_a 1 [_, _, _, _, _, _, _, _, _, _] rfl rfl ty29 rfl) rfl ?_
    refine Cov.store 2 [_, _, _, _, _, _, _, _, _, _] [_, _, _] .ro rfl rfl rfl ty29 rfl rfl rfl rfl ?_
    refine Cov.region_end ?_
    cases r4173
    refine Cov.pull 2 rfl [_, _, _] rfl ?_
    refine Cov.pull 2 rfl [_, _, _] rfl ?_
    refine Cov.retSD 2 (c := ⟨10, none⟩) (.inr ⟨_, rfl⟩) [.cell 2 29] [_] rfl Try.func10 Try.results10 ⟨RV.cell_a 1 [_, _, _, _, _, _, _, _, _, _] rfl rfl ty29 rfl, trivial⟩ (fun _ h => List.mem_cons_of_mem _ h) ⟨a4164, k4165, rfl, rfl, rfl, s4166⟩
  · intro hb4180
    refine Cov.cond_dec rfl (fun c4181 => ?_) (fun c4181 => ?_)
    · have r4182 := ifT r74 c4181; clear r74
      refine Cov.region rfl ?_
      refine Cov.lit [_, _, _, _] [(0, _), (1, _), (2, _), (3, _)] .ro sl59 ty3 rfl rfl rfl rfl rfl rfl (fun b4183 hb4183 => ?_)
      have o4184 : OL (Rep.int .i64) G [.int .i64 0, .int .i64 1, .int .i64 10, .int .i64 11] ([0, 1, 10, 11] : List Int) := ((OL.cons rfl (Rep.intI .i64 0) (OL.cons rfl (Rep.intI .i64 1) (OL.cons rfl (Rep.intI .i64 10) (OL.cons rfl (Rep.intI .i64 11) (OL.nil (Rp' := (Rep.int .i64))))))) :)
      refine Cov.reval 34 (n' := ([0, 1, 10, 11] : List Int).length) rfl rfl ?_
      refine Cov.q .ro (.move rfl) rfl ?_
      obtain ⟨u4186, hu4186, r4187⟩ := bind_some r4182; clear r4182
      refine Cov.callS (b1 := [_]) (b2 := [_, _]) (s1 := []) [_, _] [] .ro rfl rfl Try.call18 rfl rfl (play_Dice_Pick_c (G := G) List.mem_cons_self s79 hu4186) rfl (fun v4189 bo so h4188 => ?_)
      obtain ⟨a4190, k4191, rfl, rfl, rfl, s4192⟩ := h4188
      refine Cov.same (bl' := [_, _, _]) (sl' := [_]) rfl rfl rfl ?_
      obtain ⟨u4193, hu4193, r4194⟩ := bind_some r4187; clear r4187
      obtain ⟨c4195, p4196, h4197⟩ := OL.get o4184 hu4193
      obtain rfl := h4197
      refine Cov.q .ro (.idxO 0 rfl rfl rfl hu4193 sl59 ty3.sz) rfl ?_
      refine Cov.q .ro (.loadO 0 0 rfl hu4193 p4196 rfl (.inl ⟨rfl, rfl⟩) ty3 rfl) rfl ?_
      refine Cov.q .ro (.fieldAddr 0 rfl fl29_0 ty3.sz rfl) rfl ?_
      refine Cov.store 1 [_, _, _, _, _, _, _, _, _, _] [_, _, _] .ro rfl rfl rfl ty3 rfl rfl rfl rfl ?_
      refine Cov.region_end ?_
      refine Cov.drop 0 1 _ [] rfl rfl ?_
      refine Cov.prune _ ?_ (Cov.same rfl rfl rfl (hb4180 (u4186.2.1, a4190, k4191, u4186.2.2, u4193, u9.1, (w64 (1 + u30.1)), u51.1) ⟨s4192, r4194⟩))
      exact ⟨rfl, rfl, trivial⟩
    · have r4198 := ifF r74 c4181; clear r74
      refine Cov.seq ?_
      refine Cov.region rfl ?_
      refine Cov.q .ro (.eql rfl rfl) rfl ?_
      refine Cov.q .ro (.assign rfl) rfl ?_
      refine Cov.region_end ?_
      refine Cov.cond_dec rfl (fun c4199 => ?_) (fun c4199 => ?_)
      · have r4200 := ifT r4198 c4199; clear r4198
        refine Cov.drawL (.q 0 (.q 1 (.q 2 (.q 3 (.q 4 (.q 6 (.alt (.e 5 1 (.e 7 1 (.e 8 1 (.e 9 1 (.q 10 (.e 11 2 .nil)))))) (.e 7 1 (.e 5 1 (.e 8 1 (.e 9 1 (.q 10 (.e 11 2 .nil))))))))))))) [_, _] (by kernel_rfl) (by kernel_rfl) (pick_mem [1, 2] rfl) ?_
        obtain ⟨u4204, hu4204, r4214⟩ := bind_some r4200; clear r4200
        obtain ⟨u4210, hu4210, r4215⟩ := bind_some r4214; clear r4214
        refine Cov.dq (.fieldAddr 0 rfl fl29_0 ty3.sz rfl) rfl ?_
        refine Cov.dq (.load_own 0 rfl rfl ty3 rfl) rfl ?_
        refine Cov.dq (.fieldAddr 0 rfl fl29_0 ty3.sz rfl) rfl ?_
        refine Cov.dq (.load_own 0 rfl rfl ty3 rfl) rfl ?_
        refine Cov.dq (.addw rfl rfl) rfl ?_
        refine Cov.dq (.move rfl) rfl ?_
        refine Cov.alt ?_ ?_
        · refine Cov.lit [_, _, _] [(0, _), (1, _), (2, _)] .d1 sl59 ty3 rfl rfl rfl rfl rfl rfl (fun b4216 hb4216 => ?_)
          have o4217 : OL (Rep.int .i64) G [.int .i64 (-1), .int .i64 (w64 (2 + u2.1)), .int .i64 (w64 ((w64 (2 + u2.1)) + 1))] ([(-1), (w64 (2 + u2.1)), (w64 ((w64 (2 + u2.1)) + 1))] : List Int) := ((OL.cons rfl (Rep.intI .i64 (-1)) (OL.cons rfl (Rep.intI .i64 (w64 (2 + u2.1))) (OL.cons rfl (Rep.intI .i64 (w64 ((w64 (2 + u2.1)) + 1))) (OL.nil (Rp' := (Rep.int .i64)))))) :)
          refine Cov.reval 47 (n' := ([(-1), (w64 (2 + u2.1)), (w64 ((w64 (2 + u2.1)) + 1))] : List Int).length) rfl rfl ?_
          refine Cov.clsL (HpLe.refl _) (pick_mem [1, 2] rfl) ?_
          refine Cov.callS (b1 := [_]) (b2 := [_, _]) (s1 := []) [_, _] [] .d1 rfl rfl Try.call18 rfl rfl (play_Dice_Pick_c (G := G) List.mem_cons_self s79 hu4204) rfl (fun v4220 bo so h4219 => ?_)
          obtain ⟨a4221, k4222, rfl, rfl, rfl, s4223⟩ := h4219
          refine Cov.same (bl' := [_, _, _]) (sl' := [_]) rfl rfl rfl ?_
          refine Cov.clsL (HpLe.refl _) (pick_mem [1, 2] rfl) ?_
          obtain ⟨c4224, p4225, h4226⟩ := OL.get o4217 hu4210
          obtain rfl := h4226
          refine Cov.q .d1 (.idxO 0 rfl rfl rfl hu4210 sl59 ty3.sz) rfl ?_
          refine Cov.clsL (HpLe.refl _) (pick_mem [1, 2] rfl) ?_
          refine Cov.q .d1 (.loadO 0 0 rfl hu4210 p4225 rfl (.inl ⟨rfl, rfl⟩) ty3 rfl) rfl ?_
          refine Cov.clsL (HpLe.refl _) (pick_mem [1, 2] rfl) ?_
          refine Cov.dq (.fieldAddr 1 rfl fl29_1 ty3.sz rfl) rfl ?_
          refine Cov.store 1 [_, _, _, _, _, _, _, _, _, _] [_, _, _] .d2 rfl rfl rfl ty3 rfl rfl rfl rfl ?_
          refine Cov.draw_end ?_
          refine Cov.prune [(2, _), (3, _)] ⟨rfl, rfl, trivial⟩ ?_
          refine Cov.drop 0 1 _ [] rfl rfl ?_
          refine Cov.prune _ ?_ (Cov.same rfl rfl rfl (hb4180 (u4204.2.1, a4221, k4222, u4204.2.2, (w64 (2 + u2.1)), u4210, (w64 (1 + u30.1)), u51.1) ⟨s4223, r4215⟩))
          exact ⟨rfl, rfl, trivial⟩
        · refine Cov.callS (b1 := [_]) (b2 := [_, _]) (s1 := []) [_, _] [] .d1 rfl rfl Try.call18 rfl rfl (play_Dice_Pick_c (G := G) List.mem_cons_self s79 hu4204) rfl (fun v4228 bo so h4227 => ?_)
          obtain ⟨a4229, k4230, rfl, rfl, rfl, s4231⟩ := h4227
          refine Cov.same (bl' := [_, _, _]) (sl' := []) rfl rfl rfl ?_
          refine Cov.clsL (HpLe.refl _) (pick_mem [1, 2] rfl) ?_
          refine Cov.lit [_, _, _] [(0, _), (1, _), (2, _)] .d1 sl59 ty3 rfl rfl rfl rfl rfl rfl (fun b4232 hb4232 => ?_)
          have o4233 : OL (Rep.int .i64) G [.int .i64 (-1), .int .i64 (w64 (2 + u2.1)), .int .i64 (w64 ((w64 (2 + u2.1)) + 1))] ([(-1), (w64 (2 + u2.1)), (w64 ((w64 (2 + u2.1)) + 1))] : List Int) := ((OL.cons rfl (Rep.intI .i64 (-1)) (OL.cons rfl (Rep.intI .i64 (w64 (2 + u2.1))) (OL.cons rfl (Rep.intI .i64 (w64 ((w64 (2 + u2.1)) + 1))) (OL.nil (Rp' := (Rep.int .i64)))))) :)
          refine Cov.reval 47 (n' := ([(-1), (w64 (2 + u2.1)), (w64 ((w64 (2 + u2.1)) + 1))] : List Int).length) rfl rfl ?_
          refine Cov.clsL (HpLe.refl _) (pick_mem [1, 2] rfl) ?_
          obtain ⟨c4235, p4236, h4237⟩ := OL.get o4233 hu4210
          obtain rfl := h4237
          refine Cov.q .d1 (.idxO 0 rfl rfl rfl hu4210 sl59 ty3.sz) rfl ?_
          refine Cov.clsL (HpLe.refl _) (pick_mem [1, 2] rfl) ?_
          refine Cov.q .d1 (.loadO 0 0 rfl hu4210 p4236 rfl (.inl ⟨rfl, rfl⟩) ty3 rfl) rfl ?_
          refine Cov.clsL (HpLe.refl _) (pick_mem [1, 2] rfl) ?_
          refine Cov.dq (.fieldAddr 1 rfl fl29_1 ty3.sz rfl) rfl ?_
          refine Cov.store 1 [_, _, _, _, _, _, _, _, _, _] [_, _, _] .d2 rfl rfl rfl ty3 rfl rfl rfl rfl ?_
          refine Cov.draw_end ?_
          refine Cov.prune [(2, _), (3, _)] ⟨rfl, rfl, trivial⟩ ?_
          refine Cov.drop 0 1 _ [] rfl rfl ?_
          refine Cov.prune _ ?_ (Cov.same rfl rfl rfl (hb4180 (u4204.2.1, a4229, k4230, u4204.2.2, (w64 (2 + u2.1)), u4210, (w64 (1 + u30.1)), u51.1) ⟨s4231, r4215⟩))
          exact ⟨rfl, rfl, trivial⟩
      · have r8226 := ifF r4198 c4199; clear r4198
        refine Cov.seq ?_
        refine Cov.region rfl ?_
        refine Cov.q .ro (.eql rfl rfl) rfl ?_
        refine Cov.q .ro (.assign rfl) rfl ?_
        refine Cov.region_end ?_
        refine Cov.cond_dec rfl (fun c8227 => ?_) (fun c8227 => ?_)
        · have r8228 := ifT r8226 c8227; clear r8226
          refine Cov.region rfl ?_
          refine Cov.lit [_, _, _] [(0, _), (1, _), (2, _)] .ro sl59 ty3 rfl rfl rfl rfl rfl rfl (fun b8229 hb8229 => ?_)
          have o8230 : OL (Rep.int .i64) G [.int .i64 (-1), .int .i64 1048576, .int .i64 1048577] ([(-1), 1048576, 1048577] : List Int) := ((OL.cons rfl (Rep.intI .i64 (-1)) (OL.cons rfl (Rep.intI .i64 1048576) (OL.cons rfl (Rep.intI .i64 1048577) (OL.nil (Rp' := (Rep.int .i64)))))) :)
          refine Cov.reval 55 (n' := ([(-1), 1048576, 1048577] : List Int).length) rfl rfl ?_
          refine Cov.q .ro (.move rfl) rfl ?_
          obtain ⟨u8232, hu8232, r8233⟩ := bind_some r8228; clear r8228
          refine Cov.callS (b1 := [_]) (b2 := [_, _]) (s1 := []) [_, _] [] .ro rfl rfl Try.call18 rfl rfl (play_Dice_Pick_c (G := G) List.mem_cons_self s79 hu8232) rfl (fun v8235 bo so h8234 => ?_)
          obtain ⟨a8236, k8237, rfl, rfl, rfl, s8238⟩ := h8234
          refine Cov.same (bl' := [_, _, _]) (sl' := [_]) rfl rfl rfl ?_
          obtain ⟨u8239, hu8239, r8240⟩ := bind_some r8233; clear r8233
          obtain ⟨c8241, p8242, h8243⟩ := OL.get o8230 hu8239
          obtain rfl := h8243
          refine Cov.q .ro (.idxO 0 rfl rfl rfl hu8239 sl59 ty3.sz) rfl ?_
          refine Cov.q .ro (.loadO 0 0 rfl hu8239 p8242 rfl (.inl ⟨rfl, rfl⟩) ty3 rfl) rfl ?_
          refine Cov.q .ro (.fieldAddr 7 rfl fl29_7 ty27.sz rfl) rfl ?_
          refine Cov.q .ro (.fieldAddr 7 rfl fl27_0 ty3.sz rfl) rfl ?_
          refine Cov.store 1 [_, _, _, _, _, _, _, _, _, _] [_, _, _] .ro rfl rfl rfl ty3 rfl rfl rfl rfl ?_
          refine Cov.region_end ?_
          refine Cov.prune [(2, _), (3, _)] ⟨rfl, rfl, trivial⟩ ?_
          refine Cov.drop 0 1 _ [] rfl rfl ?_
          refine Cov.prune _ ?_ (Cov.same rfl rfl rfl (hb4180 (u8232.2.1, a8236, k8237, u8232.2.2, (w64 (2 + u2.1)), u9.1, (w64 (1 + u30.1)), u8239) ⟨s8238, r8240⟩))
          exact ⟨rfl, rfl, trivial⟩
        · have r8244 := ifF r8226 c8227; clear r8226
          refine Cov.seq ?_
          refine Cov.region rfl ?_
          refine Cov.q .ro (.eql rfl rfl) rfl ?_
          refine Cov.q .ro (.assign rfl) rfl ?_
          refine Cov.region_end ?_
          refine Cov.cond_dec rfl (fun c8245 => ?_) (fun c8245 => ?_)
          · have r8246 := ifT r8244 c8245; clear r8244
            refine Cov.region rfl ?_
            refine Cov.lit [_, _, _] [(0, _), (1, _), (2, _)] .ro sl59 ty3 rfl rfl rfl rfl rfl rfl (fun b8247 hb8247 => ?_)
            have o8248 : OL (Rep.int .i64) G [.int .i64 0, .int .i64 1024, .int .i64 1025] ([0, 1024, 1025] : List Int) := ((OL.cons rfl (Rep.intI .i64 0) (OL.cons rfl (Rep.intI .i64 1024) (OL.cons rfl (Rep.intI .i64 1025) (OL.nil (Rp' := (Rep.int .i64)))))) :)
            refine Cov.reval 64 (n' := ([0, 1024, 1025] : List Int).length) rfl rfl ?_
            refine Cov.q .ro (.move rfl) rfl ?_
            obtain ⟨u8250, hu8250, r8251⟩ := bind_some r8246; clear r8246
            refine Cov.callS (b1 := [_]) (b2 := [_, _]) (s1 := []) [_, _] [] .ro rfl rfl Try.call18 rfl rfl (play_Dice_Pick_c (G := G) List.mem_cons_self s79 hu8250) rfl (fun v8253 bo so h8252 => ?_)
            obtain ⟨a8254, k8255, rfl, rfl, rfl, s8256⟩ := h8252
            refine Cov.same (bl' := [_, _, _]) (sl' := [_]) rfl rfl rfl ?_
            obtain ⟨u8257, hu8257, r8258⟩ := bind_some r8251; clear r8251
            obtain ⟨c8259, p8260, h8261⟩ := OL.get o8248 hu8257
            obtain rfl := h8261
            refine Cov.q .ro (.idxO 0 rfl rfl rfl hu8257 sl59 ty3.sz) rfl ?_
            refine Cov.q .ro (.loadO 0 0 rfl hu8257 p8260 rfl (.inl ⟨rfl, rfl⟩) ty3 rfl) rfl ?_
            refine Cov.q .ro (.fieldAddr 4 rfl fl29_4 ty3.sz rfl) rfl ?_
            refine Cov.store 1 [_, _, _, _, _, _, _, _, _, _] [_, _, _] .ro rfl rfl rfl ty3 rfl rfl rfl rfl ?_
            refine Cov.region_end ?_
            refine Cov.prune [(2, _), (3, _)] ⟨rfl, rfl, trivial⟩ ?_
            refine Cov.drop 0 1 _ [] rfl rfl ?_
            refine Cov.prune _ ?_ (Cov.same rfl rfl rfl (hb4180 (u8250.2.1, a8254, k8255, u8250.2.2, (w64 (2 + u2.1)), u9.1, u8257, u51.1) ⟨s8256, r8258⟩))
            exact ⟨rfl, rfl, trivial⟩
          · have r8262 := ifF r8244 c8245; clear r8244
            refine Cov.skip ?_
            refine Cov.prune _ ?_ (Cov.same rfl rfl rfl (hb4180 (u73.2.1, a77, k78, u73.2.2, (w64 (2 + u2.1)), u9.1, (w64 (1 + u30.1)), u51.1) ⟨s79, r8262⟩))
            exact ⟨rfl, rfl, trivial⟩

set_option maxHeartbeats 4000000 in
theorem ref23_Shape_c {Fs : List Hp} {G : Hp} {x0_0 : Int} {x0_1 : Int} {x0_2 : Int} {x0_3 : Int} {r : Bool} (hG : G ∈ Fs)  (h : ref23_Shape (x0_0, x0_1, x0_2, x0_3) = some r) : RetS Try.prog 38 #[.agg #[.int .i64 x0_0, .int .i64 x0_1, .int .i64 x0_2, .int .i64 x0_3]] Fs [] [] (fun v bo so => v = .bool r ∧ bo = [] ∧ so = []) := by
  unfold ref23_Shape at h
  try dsimp only at h
  refine RetS.of (vs := [_]) Try.func38 rfl Try.ntmps38 [(0, _)] ⟨rfl, trivial⟩ rfl hG fun w0 S0 hS0 B0 => ?_
  refine Cov.seq ?_
  refine Cov.region rfl ?_
  refine Cov.box [_, _, _, _] .ro rfl rfl rfl (fun b1 hb1 => ?_)
  refine Cov.q .ro (.assign rfl) rfl ?_
  refine Cov.region_end ?_
  refine Cov.seq ?_
  refine Cov.seq ?_
  refine Cov.region rfl ?_
  refine Cov.q .ro (.fieldAddr 1 rfl fl33_1 ty3.sz rfl) rfl ?_
  refine Cov.q .ro (.load_own 0 rfl rfl ty3 rfl) rfl ?_
  refine Cov.q .ro (.lss rfl rfl) rfl ?_
  refine Cov.q .ro (.move rfl) rfl ?_
  refine Cov.cutR 4 (β := Unit) (fun y => [(10, .bool (decide ((x0_1 < 2) ∨ (10 < x0_1))))]) [(1, _)] (fun y => G :: Fs) (fun y => []) [_] (fun y => []) [] (fun y => True) ⟨rfl, trivial⟩ [0] rfl [] rfl ?_ ?_
  · rintro _ _
    refine Cov.prune [(10, .bool (decide ((x0_1 < 2) ∨ (10 < x0_1)))), (1, _)] ⟨rfl, rfl, trivial⟩ ?_
    refine Cov.same (bl' := [_]) (sl' := []) (Fs' := G :: Fs) rfl rfl rfl ?_
    refine Cov.region_end ?_
    refine Cov.cond_dec rfl (fun c6 => ?_) (fun c6 => ?_)
    · have r7 := ifT h c6; clear h
      refine Cov.seq ?_
      refine Cov.region rfl ?_
      refine Cov.q .ro (.assign rfl) rfl ?_
      refine Cov.region_end ?_
      cases r7
      refine Cov.drop 1 0 [] _ rfl rfl ?_
      refine Cov.retS (c := ⟨38, none⟩) (.inr ⟨_, rfl⟩) [.tmp 2] [_] rfl Try.func38 Try.results38 ⟨RV.tmp rfl, trivial⟩ (fun _ h => List.mem_cons_of_mem _ h) ⟨rfl, rfl, rfl⟩
    · have r8 := ifF h c6; clear h
      refine Cov.skip ?_
      refine Cov.seq ?_
      refine Cov.seq ?_
      refine Cov.region rfl ?_
      refine Cov.q .ro (.fieldAddr 0 rfl fl33_0 ty3.sz rfl) rfl ?_
      refine Cov.q .ro (.load_own 0 rfl rfl ty3 rfl) rfl ?_
      refine Cov.region_end ?_
      refine Cov.block ?_
      refine Cov.seq ?_
      refine Cov.region rfl ?_
      refine Cov.q .ro (.eql rfl rfl) rfl ?_
      refine Cov.q .ro (.assign rfl) rfl ?_
      refine Cov.region_end ?_
      refine Cov.cond_dec rfl (fun c9 => ?_) (fun c9 => ?_)
      · have r10 := ifT r8 c9; clear r8
        refine Cov.seq ?_
        refine Cov.region rfl ?_
        refine Cov.q .ro (.fieldAddr 2 rfl fl33_2 ty3.sz rfl) rfl ?_
        refine Cov.q .ro (.load_own 0 rfl rfl ty3 rfl) rfl ?_
        refine Cov.q .ro (.eql rfl rfl) rfl ?_
        refine Cov.q .ro (.move rfl) rfl ?_
        refine Cov.cutR 4 (β := Unit) (fun y => [(22, .bool (decide ((x0_2 = 0) ∧ (x0_3 = 0))))]) [] (fun y => G :: Fs) (fun y => []) [_] (fun y => []) [] (fun y => True) trivial [0] rfl [] rfl ?_ ?_
        · rintro _ _
          refine Cov.prune [(22, .bool (decide ((x0_2 = 0) ∧ (x0_3 = 0))))] ⟨rfl, trivial⟩ ?_
          refine Cov.same (bl' := [_]) (sl' := []) (Fs' := G :: Fs) rfl rfl rfl ?_
          refine Cov.q .ro (.assign rfl) rfl ?_
          refine Cov.region_end ?_
          cases r10
          refine Cov.drop 1 0 [] _ rfl rfl ?_
          refine Cov.retS (c := ⟨38, none⟩) (.inr ⟨_, rfl⟩) [.tmp 2] [_] rfl Try.func38 Try.results38 ⟨RV.tmp rfl, trivial⟩ (fun _ h => List.mem_cons_of_mem _ h) ⟨rfl, rfl, rfl⟩
        · intro hb12
          refine Cov.split 18 rfl (fun c11 => ?_) (fun c11 => ?_)
          · refine Cov.g_on rfl ?_
            refine Cov.q .ro (.fieldAddr 3 rfl fl33_3 ty3.sz rfl) rfl ?_
            refine Cov.g_on rfl ?_
            refine Cov.q .ro (.load_own 0 rfl rfl ty3 rfl) rfl ?_
            refine Cov.g_on rfl ?_
            refine Cov.q .ro (.eql rfl rfl) rfl ?_
            refine Cov.q .ro (.pick_t rfl rfl) rfl ?_
            refine Cov.prune _ ?_ (Cov.same rfl rfl rfl (hb12 () trivial))
            exact ⟨dand_t c11, trivial⟩
          · refine Cov.g_off rfl rfl rfl ?_
            refine Cov.g_off rfl rfl rfl ?_
            refine Cov.g_off rfl rfl rfl ?_
            refine Cov.q .ro (.pick_f rfl rfl) rfl ?_
            refine Cov.prune _ ?_ (Cov.same rfl rfl rfl (hb12 () trivial))
            exact ⟨dand_f c11, trivial⟩
      · have r15 := ifF r8 c9; clear r8
        refine Cov.seq ?_
        refine Cov.region rfl ?_
        refine Cov.q .ro (.eql rfl rfl) rfl ?_
        refine Cov.q .ro (.assign rfl) rfl ?_
        refine Cov.region_end ?_
        refine Cov.cond_dec rfl (fun c16 => ?_) (fun c16 => ?_)
        · have r17 := ifT r15 c16; clear r15
          refine Cov.seq ?_
          refine Cov.region rfl ?_
          refine Cov.q .ro (.fieldAddr 2 rfl fl33_2 ty3.sz rfl) rfl ?_
          refine Cov.q .ro (.load_own 0 rfl rfl ty3 rfl) rfl ?_
          refine Cov.q .ro (.geq rfl rfl) rfl ?_
          refine Cov.q .ro (.move rfl) rfl ?_
          refine Cov.cutR 7 (β := Unit) (fun y => [(35, .bool (decide ((1 ≤ x0_2) ∧ (x0_2 ≤ (w64 (x0_1 - 1))))))]) [(1, _)] (fun y => G :: Fs) (fun y => []) [_] (fun y => []) [] (fun y => True) ⟨rfl, trivial⟩ [0] rfl [] rfl ?_ ?_
          · rintro _ _
            refine Cov.prune [(35, .bool (decide ((1 ≤ x0_2) ∧ (x0_2 ≤ (w64 (x0_1 - 1)))))), (1, _)] ⟨rfl, rfl, trivial⟩ ?_
            refine Cov.same (bl' := [_]) (sl' := []) (Fs' := G :: Fs) rfl rfl rfl ?_
            refine Cov.q .ro (.move rfl) rfl ?_
            refine Cov.cutR 4 (β := Unit) (fun y => [(40, .bool (decide (((1 ≤ x0_2) ∧ (x0_2 ≤ (w64 (x0_1 - 1)))) ∧ (x0_3 = 0))))]) [] (fun y => G :: Fs) (fun y => []) [_] (fun y => []) [] (fun y => True) trivial [0] rfl [] rfl ?_ ?_
            · rintro _ _
              refine Cov.prune [(40, .bool (decide (((1 ≤ x0_2) ∧ (x0_2 ≤ (w64 (x0_1 - 1)))) ∧ (x0_3 = 0))))] ⟨rfl, trivial⟩ ?_
              refine Cov.same (bl' := [_]) (sl' := []) (Fs' := G :: Fs) rfl rfl rfl ?_
              refine Cov.q .ro (.assign rfl) rfl ?_
              refine Cov.region_end ?_
              cases r17
              refine Cov.drop 1 0 [] _ rfl rfl ?_
              refine Cov.retS (c := ⟨38, none⟩) (.inr ⟨_, rfl⟩) [.tmp 2] [_] rfl Try.func38 Try.results38 ⟨RV.tmp rfl, trivial⟩ (fun _ h => List.mem_cons_of_mem _ h) ⟨rfl, rfl, rfl⟩
            · intro hb23
              refine Cov.split 36 rfl (fun c22 => ?_) (fun c22 => ?_)
              · refine Cov.g_on rfl ?_
                refine Cov.q .ro (.fieldAddr 3 rfl fl33_3 ty3.sz rfl) rfl ?_
                refine Cov.g_on rfl ?_
                refine Cov.q .ro (.load_own 0 rfl rfl ty3 rfl) rfl ?_
                refine Cov.g_on rfl ?_
                refine Cov.q .ro (.eql rfl rfl) rfl ?_
                refine Cov.q .ro (.pick_t rfl rfl) rfl ?_
                refine Cov.prune _ ?_ (Cov.same rfl rfl rfl (hb23 () trivial))
                exact ⟨dand_t c22, trivial⟩
              · refine Cov.g_off rfl rfl rfl ?_
                refine Cov.g_off rfl rfl rfl ?_
                refine Cov.g_off rfl rfl rfl ?_
                refine Cov.q .ro (.pick_f rfl rfl) rfl ?_
                refine Cov.prune _ ?_ (Cov.same rfl rfl rfl (hb23 () trivial))
                exact ⟨dand_f c22, trivial⟩
          · intro hb19
            refine Cov.split 28 rfl (fun c18 => ?_) (fun c18 => ?_)
            · refine Cov.g_on rfl ?_
              refine Cov.q .ro (.fieldAddr 2 rfl fl33_2 ty3.sz rfl) rfl ?_
              refine Cov.g_on rfl ?_
              refine Cov.q .ro (.load_own 0 rfl rfl ty3 rfl) rfl ?_
              refine Cov.g_on rfl ?_
              refine Cov.q .ro (.fieldAddr 1 rfl fl33_1 ty3.sz rfl) rfl ?_
              refine Cov.g_on rfl ?_
              refine Cov.q .ro (.load_own 0 rfl rfl ty3 rfl) rfl ?_
              refine Cov.g_on rfl ?_
              refine Cov.q .ro (.subw rfl rfl) rfl ?_
              refine Cov.g_on rfl ?_
              refine Cov.q .ro (.leq rfl rfl) rfl ?_
              refine Cov.q .ro (.pick_t rfl rfl) rfl ?_
              refine Cov.prune _ ?_ (Cov.same rfl rfl rfl (hb19 () trivial))
              exact ⟨dand_t c18, rfl, trivial⟩
            · refine Cov.g_off rfl rfl rfl ?_
              refine Cov.g_off rfl rfl rfl ?_
              refine Cov.g_off rfl rfl rfl ?_
              refine Cov.g_off rfl rfl rfl ?_
              refine Cov.g_off rfl rfl rfl ?_
              refine Cov.g_off rfl rfl rfl ?_
              refine Cov.q .ro (.pick_f rfl rfl) rfl ?_
              refine Cov.prune _ ?_ (Cov.same rfl rfl rfl (hb19 () trivial))
              exact ⟨dand_f c18, rfl, trivial⟩
        · have r26 := ifF r15 c16; clear r15
          refine Cov.seq ?_
          refine Cov.region rfl ?_
          refine Cov.q .ro (.eql rfl rfl) rfl ?_
          refine Cov.q .ro (.assign rfl) rfl ?_
          refine Cov.region_end ?_
          refine Cov.cond_dec rfl (fun c27 => ?_) (fun c27 => ?_)
          · have r28 := ifT r26 c27; clear r26
            refine Cov.seq ?_
            refine Cov.region rfl ?_
            refine Cov.q .ro (.fieldAddr 2 rfl fl33_2 ty3.sz rfl) rfl ?_
            refine Cov.q .ro (.load_own 0 rfl rfl ty3 rfl) rfl ?_
            refine Cov.q .ro (.geq rfl rfl) rfl ?_
            refine Cov.q .ro (.move rfl) rfl ?_
            refine Cov.cutR 4 (β := Unit) (fun y => [(50, .bool (decide ((1 ≤ x0_2) ∧ (1 ≤ x0_3))))]) [(1, _)] (fun y => G :: Fs) (fun y => []) [_] (fun y => []) [] (fun y => True) ⟨rfl, trivial⟩ [0] rfl [] rfl ?_ ?_
            · rintro _ _
              refine Cov.prune [(50, .bool (decide ((1 ≤ x0_2) ∧ (1 ≤ x0_3)))), (1, _)] ⟨rfl, rfl, trivial⟩ ?_
              refine Cov.same (bl' := [_]) (sl' := []) (Fs' := G :: Fs) rfl rfl rfl ?_
              refine Cov.q .ro (.move rfl) rfl ?_
              refine Cov.cutR 4 (β := Unit) (fun y => [(55, .bool (decide (((1 ≤ x0_2) ∧ (1 ≤ x0_3)) ∧ (x0_2 ≤ 10))))]) [(1, _)] (fun y => G :: Fs) (fun y => []) [_] (fun y => []) [] (fun y => True) ⟨rfl, trivial⟩ [0] rfl [] rfl ?_ ?_
              · rintro _ _
                refine Cov.prune [(55, .bool (decide (((1 ≤ x0_2) ∧ (1 ≤ x0_3)) ∧ (x0_2 ≤ 10)))), (1, _)] ⟨rfl, rfl, trivial⟩ ?_
                refine Cov.same (bl' := [_]) (sl' := []) (Fs' := G :: Fs) rfl rfl rfl ?_
                refine Cov.q .ro (.move rfl) rfl ?_
                refine Cov.cutR 4 (β := Unit) (fun y => [(60, .bool (decide ((((1 ≤ x0_2) ∧ (1 ≤ x0_3)) ∧ (x0_2 ≤ 10)) ∧ (x0_3 ≤ 10))))]) [(1, _)] (fun y => G :: Fs) (fun y => []) [_] (fun y => []) [] (fun y => True) ⟨rfl, trivial⟩ [0] rfl [] rfl ?_ ?_
                · rintro _ _
                  refine Cov.prune [(60, .bool (decide ((((1 ≤ x0_2) ∧ (1 ≤ x0_3)) ∧ (x0_2 ≤ 10)) ∧ (x0_3 ≤ 10)))), (1, _)] ⟨rfl, rfl, trivial⟩ ?_
                  refine Cov.same (bl' := [_]) (sl' := []) (Fs' := G :: Fs) rfl rfl rfl ?_
                  refine Cov.q .ro (.move rfl) rfl ?_
                  refine Cov.cutR 11 (β := Unit) (fun y => [(72, .bool (decide (((((1 ≤ x0_2) ∧ (1 ≤ x0_3)) ∧ (x0_2 ≤ 10)) ∧ (x0_3 ≤ 10)) ∧ ((w64 ((w64 ((w64 (2 * x0_3)) + x0_2)) - 1)) ≤ x0_1))))]) [] (fun y => G :: Fs) (fun y => []) [_] (fun y => []) [] (fun y => True) trivial [0] rfl [] rfl ?_ ?_
                  · rintro _ _
                    refine Cov.prune [(72, .bool (decide (((((1 ≤ x0_2) ∧ (1 ≤ x0_3)) ∧ (x0_2 ≤ 10)) ∧ (x0_3 ≤ 10)) ∧ ((w64 ((w64 ((w64 (2 * x0_3)) + x0_2)) - 1)) ≤ x0_1))))] ⟨rfl, trivial⟩ ?_
                    refine Cov.same (bl' := [_]) (sl' := []) (Fs' := G :: Fs) rfl rfl rfl ?_
                    refine Cov.q .ro (.assign rfl) rfl ?_
                    refine Cov.region_end ?_
                    cases r28
                    refine Cov.drop 1 0 [] _ rfl rfl ?_
                    refine Cov.retS (c := ⟨38, none⟩) (.inr ⟨_, rfl⟩) [.tmp 2] [_] rfl Try.func38 Try.results38 ⟨RV.tmp rfl, trivial⟩ (fun _ h => List.mem_cons_of_mem _ h) ⟨rfl, rfl, rfl⟩
                  · intro hb42
                    refine Cov.split 61 rfl (fun c41 => ?_) (fun c41 => ?_)
                    · refine Cov.g_on rfl ?_
                      refine Cov.q .ro (.fieldAddr 3 rfl fl33_3 ty3.sz rfl) rfl ?_
                      refine Cov.g_on rfl ?_
                      refine Cov.q .ro (.load_own 0 rfl rfl ty3 rfl) rfl ?_
                      refine Cov.g_on rfl ?_
                      refine Cov.q .ro (.mulw rfl rfl) rfl ?_
                      refine Cov.g_on rfl ?_
                      refine Cov.q .ro (.fieldAddr 2 rfl fl33_2 ty3.sz rfl) rfl ?_
                      refine Cov.g_on rfl ?_
                      refine Cov.q .ro (.load_own 0 rfl rfl ty3 rfl) rfl ?_
                      refine Cov.g_on rfl ?_
                      refine Cov.q .ro (.addw rfl rfl) rfl ?_
                      refine Cov.g_on rfl ?_
                      refine Cov.q .ro (.subw rfl rfl) rfl ?_
                      refine Cov.g_on rfl ?_
                      refine Cov.q .ro (.fieldAddr 1 rfl fl33_1 ty3.sz rfl) rfl ?_
                      refine Cov.g_on rfl ?_
                      refine Cov.q .ro (.load_own 0 rfl rfl ty3 rfl) rfl ?_
                      refine Cov.g_on rfl ?_
                      refine Cov.q .ro (.leq rfl rfl) rfl ?_
                      refine Cov.q .ro (.pick_t rfl rfl) rfl ?_
                      refine Cov.prune _ ?_ (Cov.same rfl rfl rfl (hb42 () trivial))
                      exact ⟨dand_t c41, trivial⟩
                    · refine Cov.g_off rfl rfl rfl ?_
                      refine Cov.g_off rfl rfl rfl ?_
                      refine Cov.g_off rfl rfl rfl ?_
                      refine Cov.g_off rfl rfl rfl ?_
                      refine Cov.g_off rfl rfl rfl ?_
                      refine Cov.g_off rfl rfl rfl ?_
                      refine Cov.g_off rfl rfl rfl ?_
                      refine Cov.g_off rfl rfl rfl ?_
                      refine Cov.g_off rfl rfl rfl ?_
                      refine Cov.g_off rfl rfl rfl ?_
                      refine Cov.q .ro (.pick_f rfl rfl) rfl ?_
                      refine Cov.prune _ ?_ (Cov.same rfl rfl rfl (hb42 () trivial))
                      exact ⟨dand_f c41, trivial⟩
                · intro hb38
                  refine Cov.split 56 rfl (fun c37 => ?_) (fun c37 => ?_)
                  · refine Cov.g_on rfl ?_
                    refine Cov.q .ro (.fieldAddr 3 rfl fl33_3 ty3.sz rfl) rfl ?_
                    refine Cov.g_on rfl ?_
                    refine Cov.q .ro (.load_own 0 rfl rfl ty3 rfl) rfl ?_
                    refine Cov.g_on rfl ?_
                    refine Cov.q .ro (.leq rfl rfl) rfl ?_
                    refine Cov.q .ro (.pick_t rfl rfl) rfl ?_
                    refine Cov.prune _ ?_ (Cov.same rfl rfl rfl (hb38 () trivial))
                    exact ⟨dand_t c37, rfl, trivial⟩
                  · refine Cov.g_off rfl rfl rfl ?_
                    refine Cov.g_off rfl rfl rfl ?_
                    refine Cov.g_off rfl rfl rfl ?_
                    refine Cov.q .ro (.pick_f rfl rfl) rfl ?_
                    refine Cov.prune _ ?_ (Cov.same rfl rfl rfl (hb38 () trivial))
                    exact ⟨dand_f c37, rfl, trivial⟩
              · intro hb34
                refine Cov.split 51 rfl (fun c33 => ?_) (fun c33 => ?_)
                · refine Cov.g_on rfl ?_
                  refine Cov.q .ro (.fieldAddr 2 rfl fl33_2 ty3.sz rfl) rfl ?_
                  refine Cov.g_on rfl ?_
                  refine Cov.q .ro (.load_own 0 rfl rfl ty3 rfl) rfl ?_
                  refine Cov.g_on rfl ?_
                  refine Cov.q .ro (.leq rfl rfl) rfl ?_
                  refine Cov.q .ro (.pick_t rfl rfl) rfl ?_
                  refine Cov.prune _ ?_ (Cov.same rfl rfl rfl (hb34 () trivial))
                  exact ⟨dand_t c33, rfl, trivial⟩
                · refine Cov.g_off rfl rfl rfl ?_
                  refine Cov.g_off rfl rfl rfl ?_
                  refine Cov.g_off rfl rfl rfl ?_
                  refine Cov.q .ro (.pick_f rfl rfl) rfl ?_
                  refine Cov.prune _ ?_ (Cov.same rfl rfl rfl (hb34 () trivial))
                  exact ⟨dand_f c33, rfl, trivial⟩
            · intro hb30
              refine Cov.split 46 rfl (fun c29 => ?_) (fun c29 => ?_)
              · refine Cov.g_on rfl ?_
                refine Cov.q .ro (.fieldAddr 3 rfl fl33_3 ty3.sz rfl) rfl ?_
                refine Cov.g_on rfl ?_
                refine Cov.q .ro (.load_own 0 rfl rfl ty3 rfl) rfl ?_
                refine Cov.g_on rfl ?_
                refine Cov.q .ro (.geq rfl rfl) rfl ?_
                refine Cov.q .ro (.pick_t rfl rfl) rfl ?_
                refine Cov.prune _ ?_ (Cov.same rfl rfl rfl (hb30 () trivial))
                exact ⟨dand_t c29, rfl, trivial⟩
              · refine Cov.g_off rfl rfl rfl ?_
                refine Cov.g_off rfl rfl rfl ?_
                refine Cov.g_off rfl rfl rfl ?_
                refine Cov.q .ro (.pick_f rfl rfl) rfl ?_
                refine Cov.prune _ ?_ (Cov.same rfl rfl rfl (hb30 () trivial))
                exact ⟨dand_f c29, rfl, trivial⟩
          · have r45 := ifF r26 c27; clear r26
            refine Cov.skip ?_
            refine Cov.inBlock ?_
            refine Cov.seq ?_
            refine Cov.region rfl ?_
            refine Cov.q .ro (.assign rfl) rfl ?_
            refine Cov.region_end ?_
            cases r45
            refine Cov.drop 1 0 [] _ rfl rfl ?_
            refine Cov.retS (c := ⟨38, none⟩) (.inr ⟨_, rfl⟩) [.tmp 2] [_] rfl Try.func38 Try.results38 ⟨RV.tmp rfl, trivial⟩ (fun _ h => List.mem_cons_of_mem _ h) ⟨rfl, rfl, rfl⟩
  · intro hb3
    refine Cov.split 6 rfl (fun c2 => ?_) (fun c2 => ?_)
    · refine Cov.g_off rfl rfl rfl ?_
      refine Cov.g_off rfl rfl rfl ?_
      refine Cov.g_off rfl rfl rfl ?_
      refine Cov.q .ro (.pick_t rfl rfl) rfl ?_
      refine Cov.prune _ ?_ (Cov.same rfl rfl rfl (hb3 () trivial))
      exact ⟨dor_t c2, rfl, trivial⟩
    · refine Cov.g_on rfl ?_
      refine Cov.q .ro (.fieldAddr 1 rfl fl33_1 ty3.sz rfl) rfl ?_
      refine Cov.g_on rfl ?_
      refine Cov.q .ro (.load_own 0 rfl rfl ty3 rfl) rfl ?_
      refine Cov.g_on rfl ?_
      refine Cov.q .ro (.gtr rfl rfl) rfl ?_
      refine Cov.q .ro (.pick_f rfl rfl) rfl ?_
      refine Cov.prune _ ?_ (Cov.same rfl rfl rfl (hb3 () trivial))
      exact ⟨dor_f c2, rfl, trivial⟩

set_option maxHeartbeats 4000000 in
theorem ref23_Units_c {Fs : List Hp} {G : Hp} {x0_0 : Int} {x0_1 : Int} {x0_2 : Int} {x0_3 : Int} {x1 : Int} {r : Int} (hG : G ∈ Fs)  (h : ref23_Units (x0_0, x0_1, x0_2, x0_3) x1 = some r) : RetS Try.prog 45 #[.agg #[.int .i64 x0_0, .int .i64 x0_1, .int .i64 x0_2, .int .i64 x0_3], .int .i64 x1] Fs [] [] (fun v bo so => v = .int .i64 r ∧ bo = [] ∧ so = []) := by
  unfold ref23_Units at h
  try dsimp only at h
  refine RetS.of (vs := [_, _]) Try.func45 rfl Try.ntmps45 [(0, _), (1, _)] ⟨rfl, rfl, trivial⟩ rfl hG fun w0 S0 hS0 B0 => ?_
  refine Cov.seq ?_
  refine Cov.region rfl ?_
  refine Cov.box [_, _, _, _] .ro rfl rfl rfl (fun b1 hb1 => ?_)
  refine Cov.q .ro (.assign rfl) rfl ?_
  refine Cov.region_end ?_
  refine Cov.seq ?_
  refine Cov.seq ?_
  refine Cov.region rfl ?_
  refine Cov.q .ro (.load_own_a 0 [_, _, _, _] rfl rfl ty33 rfl) rfl ?_
  obtain ⟨u2, hu2, r3⟩ := bind_some h; clear h
  refine Cov.callS (b1 := []) (b2 := [_]) (s1 := []) [_] [] .ro rfl rfl Try.call38 rfl rfl (ref23_Shape_c (G := G) List.mem_cons_self  hu2) rfl (fun v5 bo so h4 => ?_)
  obtain ⟨rfl, rfl, rfl⟩ := h4
  refine Cov.same (bl' := [_]) (sl' := []) rfl rfl rfl ?_
  refine Cov.q .ro (.not rfl) rfl ?_
  refine Cov.q .ro (.move rfl) rfl ?_
  refine Cov.cutR 3 (β := Unit) (fun y => [(11, .bool (decide (((!u2) = true) ∨ (x1 < 1))))]) [(1, _), (2, _)] (fun y => G :: Fs) (fun y => []) [_] (fun y => []) [] (fun y => True) ⟨rfl, rfl, trivial⟩ [0] rfl [] rfl ?_ ?_
  · rintro _ _
    refine Cov.prune [(11, .bool (decide (((!u2) = true) ∨ (x1 < 1)))), (1, _), (2, _)] ⟨rfl, rfl, rfl, trivial⟩ ?_
    refine Cov.same (bl' := [_]) (sl' := []) (Fs' := G :: Fs) rfl rfl rfl ?_
    refine Cov.q .ro (.move rfl) rfl ?_
    refine Cov.cutR 3 (β := Unit) (fun y => [(15, .bool (decide ((((!u2) = true) ∨ (x1 < 1)) ∨ (1024 < x1))))]) [(1, _), (2, _)] (fun y => G :: Fs) (fun y => []) [_] (fun y => []) [] (fun y => True) ⟨rfl, rfl, trivial⟩ [0] rfl [] rfl ?_ ?_
    · rintro _ _
      refine Cov.prune [(15, .bool (decide ((((!u2) = true) ∨ (x1 < 1)) ∨ (1024 < x1)))), (1, _), (2, _)] ⟨rfl, rfl, rfl, trivial⟩ ?_
      refine Cov.same (bl' := [_]) (sl' := []) (Fs' := G :: Fs) rfl rfl rfl ?_
      refine Cov.region_end ?_
      refine Cov.cond_dec rfl (fun c14 => ?_) (fun c14 => ?_)
      · have r15 := ifT r3 c14; clear r3
        refine Cov.seq ?_
        refine Cov.region rfl ?_
        refine Cov.q .ro (.assign rfl) rfl ?_
        refine Cov.region_end ?_
        cases r15
        refine Cov.drop 1 0 [] _ rfl rfl ?_
        refine Cov.retS (c := ⟨45, none⟩) (.inr ⟨_, rfl⟩) [.tmp 4] [_] rfl Try.func45 Try.results45 ⟨RV.tmp rfl, trivial⟩ (fun _ h => List.mem_cons_of_mem _ h) ⟨rfl, rfl, rfl⟩
      · have r16 := ifF r3 c14; clear r3
        refine Cov.skip ?_
        refine Cov.seq ?_
        refine Cov.seq ?_
        refine Cov.region rfl ?_
        refine Cov.q .ro (.fieldAddr 0 rfl fl33_0 ty3.sz rfl) rfl ?_
        refine Cov.q .ro (.load_own 0 rfl rfl ty3 rfl) rfl ?_
        refine Cov.q .ro (.eql rfl rfl) rfl ?_
        refine Cov.region_end ?_
        refine Cov.cond_dec rfl (fun c17 => ?_) (fun c17 => ?_)
        · have r18 := ifT r16 c17; clear r16
          refine Cov.seq ?_
          refine Cov.region rfl ?_
          refine Cov.q .ro (.move rfl) rfl ?_
          refine Cov.q .ro (.fieldAddr 3 rfl fl33_3 ty3.sz rfl) rfl ?_
          refine Cov.q .ro (.load_own 0 rfl rfl ty3 rfl) rfl ?_
          refine Cov.q .ro (.addw rfl rfl) rfl ?_
          refine Cov.q .ro (.subw rfl rfl) rfl ?_
          refine Cov.q .ro (.fieldAddr 3 rfl fl33_3 ty3.sz rfl) rfl ?_
          refine Cov.q .ro (.load_own 0 rfl rfl ty3 rfl) rfl ?_
          obtain ⟨u19, hu19, r20⟩ := bind_some r18; clear r18
          refine Cov.q .ro (.quow rfl rfl (nz_some hu19)) rfl ?_
          refine Cov.q .ro (.assign rfl) rfl ?_
          refine Cov.region_end ?_
          refine Cov.prune [(4, _)] ⟨rfl, trivial⟩ ?_
          cases r20
          refine Cov.drop 1 0 [] _ rfl rfl ?_
          refine Cov.retS (c := ⟨45, none⟩) (.inr ⟨_, rfl⟩) [.tmp 4] [_] rfl Try.func45 Try.results45 ⟨RV.tmp rfl, trivial⟩ (fun _ h => List.mem_cons_of_mem _ h) ⟨rfl, rfl, rfl⟩
        · have r21 := ifF r16 c17; clear r16
          refine Cov.skip ?_
          refine Cov.seq ?_
          refine Cov.region rfl ?_
          refine Cov.q .ro (.move rfl) rfl ?_
          refine Cov.q .ro (.assign rfl) rfl ?_
          refine Cov.region_end ?_
          cases r21
          refine Cov.drop 1 0 [] _ rfl rfl ?_
          refine Cov.retS (c := ⟨45, none⟩) (.inr ⟨_, rfl⟩) [.tmp 4] [_] rfl Try.func45 Try.results45 ⟨RV.tmp rfl, trivial⟩ (fun _ h => List.mem_cons_of_mem _ h) ⟨rfl, rfl, rfl⟩
    · intro hb11
      refine Cov.split 12 rfl (fun c10 => ?_) (fun c10 => ?_)
      · refine Cov.g_off rfl rfl rfl ?_
        refine Cov.g_off rfl rfl rfl ?_
        refine Cov.q .ro (.pick_t rfl rfl) rfl ?_
        refine Cov.prune _ ?_ (Cov.same rfl rfl rfl (hb11 () trivial))
        exact ⟨dor_t c10, rfl, rfl, trivial⟩
      · refine Cov.g_on rfl ?_
        refine Cov.q .ro (.move rfl) rfl ?_
        refine Cov.g_on rfl ?_
        refine Cov.q .ro (.gtr rfl rfl) rfl ?_
        refine Cov.q .ro (.pick_f rfl rfl) rfl ?_
        refine Cov.prune _ ?_ (Cov.same rfl rfl rfl (hb11 () trivial))
        exact ⟨dor_f c10, rfl, rfl, trivial⟩
  · intro hb7
    refine Cov.split_b 8 rfl (fun c6 => ?_) (fun c6 => ?_)
    · refine Cov.g_off rfl rfl rfl ?_
      refine Cov.g_off rfl rfl rfl ?_
      refine Cov.q .ro (.pick_t rfl rfl) rfl ?_
      refine Cov.prune _ ?_ (Cov.same rfl rfl rfl (hb7 () trivial))
      exact ⟨dor_t c6, rfl, rfl, trivial⟩
    · refine Cov.g_on rfl ?_
      refine Cov.q .ro (.move rfl) rfl ?_
      refine Cov.g_on rfl ?_
      refine Cov.q .ro (.lss rfl rfl) rfl ?_
      refine Cov.q .ro (.pick_f rfl rfl) rfl ?_
      refine Cov.prune _ ?_ (Cov.same rfl rfl rfl (hb7 () trivial))
      exact ⟨dor_f (bne_of c6), rfl, rfl, trivial⟩

end Go.Proofs.Ytmjidoadjinhgaa
