/- The walks. Printed by wip/lift/drive.py. -/
import Derived.Test.YtmjidoadjinhgaaW3
namespace Go.Proofs.Ytmjidoadjinhgaa
open Go.RowKit
set_option linter.unusedSimpArgs false
set_option linter.unusedVariables false
set_option synthInstance.maxSize 2000
set_option synthInstance.maxHeartbeats 400000

set_option maxHeartbeats 4000000 in
theorem law29_PlannerBest_c {Fs : List Hp} {G : Hp} {a0 : Option Addr} {k0 : Nat} {x0 : List Int} {r : Bool} (hG : G ∈ Fs) (s0 : SlR (Rep.int .u8) G a0 k0 x0) (h : law29_PlannerBest x0 = some r) : RetS Try.prog 3 #[.slice a0 x0.length k0] Fs [] [] (fun v bo so => v = .bool r ∧ bo = [] ∧ so = []) := by
  unfold law29_PlannerBest at h
  try dsimp only at h
  refine RetS.of (vs := [_]) Try.func3 rfl Try.ntmps3 [(0, _)] ⟨rfl, trivial⟩ rfl hG fun w0 S0 hS0 B0 => ?_
  refine Cov.seq ?_
  refine Cov.region rfl ?_
  refine Cov.q .ro (.assign rfl) rfl ?_
  refine Cov.region_end ?_
  refine Cov.seq ?_
  refine Cov.seq ?_
  refine Cov.region rfl ?_
  obtain ⟨u1, hu1, r2⟩ := bind_some h; clear h
  refine Cov.callS (b1 := []) (b2 := []) (s1 := []) [] [] .ro rfl rfl Try.call8 rfl rfl (law29_sane_c (G := G) List.mem_cons_self  hu1) rfl (fun v4 bo so h3 => ?_)
  obtain ⟨rfl, rfl, rfl⟩ := h3
  refine Cov.same (bl' := []) (sl' := []) rfl rfl rfl ?_
  refine Cov.q .ro (.not rfl) rfl ?_
  refine Cov.region_end ?_
  refine Cov.cond rfl (fun c5 => ?_) (fun c5 => ?_)
  · have r6 := ifT r2 c5; clear r2
    refine Cov.seq ?_
    refine Cov.region rfl ?_
    refine Cov.q .ro (.assign rfl) rfl ?_
    refine Cov.region_end ?_
    cases r6
    refine Cov.retS (c := ⟨3, none⟩) (.inr ⟨_, rfl⟩) [.tmp 2] [_] rfl Try.func3 Try.results3 ⟨RV.tmp rfl, trivial⟩ (fun _ h => List.mem_cons_of_mem _ h) ⟨rfl, rfl, rfl⟩
  · have r7 := ifBF r2 c5; clear r2
    refine Cov.skip ?_
    refine Cov.seq ?_
    refine Cov.region rfl ?_
    refine Cov.q .ro (.move rfl) rfl ?_
    obtain ⟨u8, hu8, r9⟩ := bind_some r7; clear r7
    refine Cov.callS (b1 := []) (b2 := []) (s1 := []) [_] [] .ro rfl rfl Try.call9 rfl rfl (play_New_c (G := G) List.mem_cons_self s0 hu8) rfl (fun v11 bo so h10 => ?_)
    obtain ⟨a13, k14, b12, rfl, rfl, rfl, s15⟩ := h10
    refine Cov.same (bl' := [_]) (sl' := []) rfl rfl rfl ?_
    refine Cov.q .ro (.assign rfl) rfl ?_
    refine Cov.region_end ?_
    refine Cov.seq ?_
    refine Cov.region rfl ?_
    refine Cov.q .ro (.move rfl) rfl ?_
    obtain ⟨u16, hu16, r17⟩ := bind_some r9; clear r9
    refine Cov.callS (b1 := [_]) (b2 := []) (s1 := []) [_] [] .ro rfl rfl Try.call10 rfl rfl (law29_wanted_c (G := G) List.mem_cons_self s15 hu16) rfl (fun v19 bo so h18 => ?_)
    obtain ⟨a20, k21, rfl, rfl, rfl, s22⟩ := h18
    refine Cov.same (bl' := [_]) (sl' := []) rfl rfl rfl ?_
    refine Cov.alloc .ro ty29 rfl (fun b23 hb23 => ?_)
    refine Cov.store 0 [_, _, _, _, _, _, _, _, _, _] [_, _] .ro rfl rfl rfl ty29 rfl rfl rfl rfl ?_
    refine Cov.region_end ?_
    refine Cov.seq ?_
    refine Cov.seq ?_
    refine Cov.region rfl ?_
    refine Cov.q .ro (.load_own_a 0 [_, _, _, _, _, _, _, _, _, _] rfl rfl ty29 rfl) rfl ?_
    obtain ⟨u24, hu24, r25⟩ := bind_some r17; clear r17
    refine Cov.callS (b1 := []) (b2 := [_, _]) (s1 := []) [_] [] .ro rfl rfl Try.call11 rfl rfl (planner_Valid_c (G := G) List.mem_cons_self  hu24) rfl (fun v27 bo so h26 => ?_)
    obtain ⟨rfl, rfl, rfl⟩ := h26
    refine Cov.same (bl' := [_, _]) (sl' := []) rfl rfl rfl ?_
    refine Cov.q .ro (.not rfl) rfl ?_
    refine Cov.region_end ?_
    refine Cov.cond rfl (fun c28 => ?_) (fun c28 => ?_)
    · have r29 := ifT r25 c28; clear r25
      refine Cov.seq ?_
      refine Cov.region rfl ?_
      refine Cov.q .ro (.load_own_a 0 [_, _, _, _, _, _, _, _, _, _] rfl rfl ty29 rfl) rfl ?_
      obtain ⟨u30, hu30, r31⟩ := bind_some r29; clear r29
      refine Cov.callS (b1 := []) (b2 := [_, _]) (s1 := []) [_] [] .ro rfl rfl Try.call12 rfl rfl (planner_Best_c (G := G) List.mem_cons_self  hu30) rfl (fun v33 bo so h32 => ?_)
      obtain ⟨rfl, rfl, rfl⟩ := h32
      refine Cov.same (bl' := [_, _]) (sl' := []) rfl rfl rfl ?_
      refine Cov.q .ro (.move rfl) rfl ?_
      refine Cov.q .ro (.extract rfl rfl) rfl ?_
      refine Cov.q .ro (.extract rfl rfl) rfl ?_
      refine Cov.alloc .ro ty35 rfl (fun b34 hb34 => ?_)
      refine Cov.store 0 [_, _, _, _, _, _, _, _] [_, _, _] .ro rfl rfl rfl ty35 rfl rfl rfl rfl ?_
      refine Cov.q .ro (.assign rfl) rfl ?_
      refine Cov.region_end ?_
      refine Cov.prune [(6, _)] ⟨rfl, trivial⟩ ?_
      refine Cov.seq ?_
      refine Cov.region rfl ?_
      refine Cov.q .ro (.move rfl) rfl ?_
      refine Cov.q .ro (.eql rfl rfl) rfl ?_
      refine Cov.q .ro (.assign rfl) rfl ?_
      refine Cov.region_end ?_
      cases r31
      refine Cov.drop 3 0 [] _ rfl rfl ?_
      refine Cov.retS (c := ⟨3, none⟩) (.inr ⟨_, rfl⟩) [.tmp 2] [_] rfl Try.func3 Try.results3 ⟨RV.tmp rfl, trivial⟩ (fun _ h => List.mem_cons_of_mem _ h) ⟨rfl, rfl, rfl⟩
    · have r35 := ifBF r25 c28; clear r25
      refine Cov.skip ?_
      refine Cov.seq ?_
      refine Cov.region rfl ?_
      refine Cov.q .ro (.load_own_a 0 [_, _, _, _, _, _, _, _, _, _] rfl rfl ty29 rfl) rfl ?_
      obtain ⟨u36, hu36, r37⟩ := bind_some r35; clear r35
      refine Cov.callS (b1 := []) (b2 := [_, _]) (s1 := []) [_] [] .ro rfl rfl Try.call12 rfl rfl (planner_Best_c (G := G) List.mem_cons_self  hu36) rfl (fun v39 bo so h38 => ?_)
      obtain ⟨rfl, rfl, rfl⟩ := h38
      refine Cov.same (bl' := [_, _]) (sl' := []) rfl rfl rfl ?_
      refine Cov.q .ro (.move rfl) rfl ?_
      refine Cov.q .ro (.extract rfl rfl) rfl ?_
      refine Cov.q .ro (.extract rfl rfl) rfl ?_
      refine Cov.alloc .ro ty35 rfl (fun b40 hb40 => ?_)
      refine Cov.store 0 [_, _, _, _, _, _, _, _] [_, _, _] .ro rfl rfl rfl ty35 rfl rfl rfl rfl ?_
      refine Cov.q .ro (.assign rfl) rfl ?_
      refine Cov.region_end ?_
      refine Cov.prune [(3, _), (4, _), (7, _), (8, _)] ⟨rfl, rfl, rfl, rfl, trivial⟩ ?_
      refine Cov.seq ?_
      refine Cov.region rfl ?_
      refine Cov.q .ro (.load_own_a 1 [_, _, _, _, _, _, _, _, _, _] rfl rfl ty29 rfl) rfl ?_
      obtain ⟨u41, hu41, r42⟩ := bind_some r37; clear r37
      refine Cov.callS (b1 := []) (b2 := [_, _, _]) (s1 := []) [_] [] .ro rfl rfl Try.call13 rfl rfl (planner_Candidates_c (G := G) List.mem_cons_self  hu41) rfl (fun v44 bo so h43 => ?_)
      obtain ⟨a46, k47, cs48, rfl, rfl, rfl, o49⟩ := h43
      refine Cov.same (bl' := [_, _, _]) (sl' := [_]) rfl rfl rfl ?_
      refine Cov.q .ro (.move rfl) rfl ?_
      refine Cov.q .ro (.extract rfl rfl) rfl ?_
      refine Cov.q .ro (.extract rfl rfl) rfl ?_
      refine Cov.q .ro (.assign rfl) rfl ?_
      refine Cov.q .ro (.assign rfl) rfl ?_
      refine Cov.region_end ?_
      refine Cov.seq ?_
      refine Cov.seq ?_
      refine Cov.region rfl ?_
      refine Cov.q .ro (.move rfl) rfl ?_
      refine Cov.q .ro (.neq rfl rfl) rfl ?_
      refine Cov.q .ro (.move rfl) rfl ?_
      refine Cov.cutR 7 (β := Unit) (fun y => [(54, .bool (decide ((u41.2 ≠ 0) ∨ ((decide (u36.2 = 0)) ≠ (decide (0 < (u41.1.length : Int)))))))]) [(3, _), (4, _), (7, _), (8, _), (9, _)] (fun y => G :: Fs) (fun y => []) [_, _, _] (fun y => []) [_] (fun y => True) ⟨rfl, rfl, rfl, rfl, rfl, trivial⟩ [0, 1, 2] rfl [0] rfl ?_ ?_
      · rintro _ _
        refine Cov.prune [(54, .bool (decide ((u41.2 ≠ 0) ∨ ((decide (u36.2 = 0)) ≠ (decide (0 < (u41.1.length : Int))))))), (3, _), (4, _), (7, _), (8, _), (9, _)] ⟨rfl, rfl, rfl, rfl, rfl, rfl, trivial⟩ ?_
        refine Cov.same (bl' := [_, _, _]) (sl' := [_]) (Fs' := G :: Fs) rfl rfl rfl ?_
        refine Cov.region_end ?_
        refine Cov.cond_dec rfl (fun c54 => ?_) (fun c54 => ?_)
        · have r55 := ifT r42 c54; clear r42
          refine Cov.seq ?_
          refine Cov.region rfl ?_
          refine Cov.q .ro (.assign rfl) rfl ?_
          refine Cov.region_end ?_
          cases r55
          refine Cov.drop 3 0 [] _ rfl rfl ?_
          refine Cov.drop 0 1 _ [] rfl rfl ?_
          refine Cov.retS (c := ⟨3, none⟩) (.inr ⟨_, rfl⟩) [.tmp 2] [_] rfl Try.func3 Try.results3 ⟨RV.tmp rfl, trivial⟩ (fun _ h => List.mem_cons_of_mem _ h) ⟨rfl, rfl, rfl⟩
        · have r56 := ifF r42 c54; clear r42
          refine Cov.skip ?_
          refine Cov.seq ?_
          refine Cov.seq ?_
          refine Cov.region rfl ?_
          refine Cov.q .ro (.move rfl) rfl ?_
          refine Cov.q .ro (.neq rfl rfl) rfl ?_
          refine Cov.region_end ?_
          refine Cov.cond_dec rfl (fun c57 => ?_) (fun c57 => ?_)
          · have r58 := ifT r56 c57; clear r56
            refine Cov.seq ?_
            refine Cov.region rfl ?_
            refine Cov.q .ro (.move rfl) rfl ?_
            refine Cov.q .ro (.eql rfl rfl) rfl ?_
            refine Cov.q .ro (.assign rfl) rfl ?_
            refine Cov.region_end ?_
            cases r58
            refine Cov.drop 3 0 [] _ rfl rfl ?_
            refine Cov.drop 0 1 _ [] rfl rfl ?_
            refine Cov.retS (c := ⟨3, none⟩) (.inr ⟨_, rfl⟩) [.tmp 2] [_] rfl Try.func3 Try.results3 ⟨RV.tmp rfl, trivial⟩ (fun _ h => List.mem_cons_of_mem _ h) ⟨rfl, rfl, rfl⟩
          · have r59 := ifF r56 c57; clear r56
            refine Cov.skip ?_
            refine Cov.seq ?_
            refine Cov.region rfl ?_
            refine Cov.q .ro (.fieldAddr 0 rfl fl35_0 ty33.sz rfl) rfl ?_
            refine Cov.q .ro (.load_own_a 0 [_, _, _, _] rfl rfl ty33 rfl) rfl ?_
            refine Cov.q .ro (.fieldAddr 4 rfl fl29_4 ty3.sz rfl) rfl ?_
            refine Cov.q .ro (.load_own 1 rfl rfl ty3 rfl) rfl ?_
            refine Cov.q .ro (.fieldAddr 5 rfl fl29_5 ty3.sz rfl) rfl ?_
            refine Cov.q .ro (.load_own 1 rfl rfl ty3 rfl) rfl ?_
            refine Cov.q .ro (.fieldAddr 6 rfl fl29_6 ty3.sz rfl) rfl ?_
            refine Cov.q .ro (.load_own 1 rfl rfl ty3 rfl) rfl ?_
            obtain ⟨u60, hu60, r61⟩ := bind_some r59; clear r59
            refine Cov.callS (b1 := []) (b2 := [_, _, _]) (s1 := []) [_, _, _, _] [] .ro rfl rfl Try.call14 rfl rfl (ref28_Of_c (G := G) List.mem_cons_self  hu60) rfl (fun v63 bo so h62 => ?_)
            obtain ⟨rfl, rfl, rfl⟩ := h62
            refine Cov.same (bl' := [_, _, _]) (sl' := [_]) rfl rfl rfl ?_
            refine Cov.q .ro (.move rfl) rfl ?_
            refine Cov.q .ro (.extract rfl rfl) rfl ?_
            refine Cov.q .ro (.extract rfl rfl) rfl ?_
            refine Cov.alloc .ro ty27 rfl (fun b64 hb64 => ?_)
            refine Cov.store 0 [_, _, _] [_, _, _, _] .ro rfl rfl rfl ty27 rfl rfl rfl rfl ?_
            refine Cov.q .ro (.assign rfl) rfl ?_
            refine Cov.region_end ?_
            refine Cov.prune [(3, _), (4, _), (7, _), (9, _), (11, _), (12, _)] ⟨rfl, rfl, rfl, rfl, rfl, rfl, trivial⟩ ?_
            refine Cov.seq ?_
            refine Cov.seq ?_
            refine Cov.drawL (.q 0 (.q 1 (.q 2 (.q 3 (.q 4 (.q 5 (.q 6 (.q 7 (.q 8 (.q 9 (.q 10 (.q 11 (.q 13 (.q 14 (.e 12 1 (.q 15 (.q 16 (.q 17 (.q 18 (.q 19 (.q 20 (.e 21 1 (.q 22 (.q 23 .nil)))))))))))))))))))))))) [_, _, _, _] (by kernel_rfl) (by kernel_rfl) (pick_mem [0, 1, 2, 3] rfl) ?_
            refine Cov.dq (.move rfl) rfl ?_
            refine Cov.dq (.neq rfl rfl) rfl ?_
            refine Cov.dq (.move rfl) rfl ?_
            refine Cov.cutD 5 (β := Unit) (fun y => [(78, .bool (decide ((u60.2 ≠ 0) ∨ ((u60.1.1, u60.1.2.1, u60.1.2.2) ≠ (u36.1.2.1.1, u36.1.2.1.2.1, u36.1.2.1.2.2)))))]) [(3, _), (4, _), (7, _), (9, _), (11, _)] (fun y => G :: Fs) (fun y => []) [_, _, _, _] (fun y => []) [_] (fun y => True) ⟨rfl, rfl, rfl, rfl, rfl, trivial⟩ [0, 1, 2, 3] rfl [0] rfl ?_ ?_
            · rintro _ _
              refine Cov.prune [(78, .bool (decide ((u60.2 ≠ 0) ∨ ((u60.1.1, u60.1.2.1, u60.1.2.2) ≠ (u36.1.2.1.1, u36.1.2.1.2.1, u36.1.2.1.2.2))))), (3, _), (4, _), (7, _), (9, _), (11, _)] ⟨rfl, rfl, rfl, rfl, rfl, rfl, trivial⟩ ?_
              refine Cov.same (bl' := [_, _, _, _]) (sl' := [_]) (Fs' := G :: Fs) rfl rfl rfl ?_
              refine Cov.dq (.move rfl) rfl ?_
              obtain ⟨u75, h76, r77⟩ := bind_some r61; clear r61
              refine Cov.cutD 8 (β := Unit) (fun y => [(87, .bool u75)]) [(3, _), (4, _), (7, _), (9, _)] (fun y => G :: Fs) (fun y => []) [_, _, _, _] (fun y => []) [_] (fun y => True) ⟨rfl, rfl, rfl, rfl, trivial⟩ [0, 1, 2, 3] rfl [0] rfl ?_ ?_
              · rintro _ _
                refine Cov.prune [(87, .bool u75), (3, _), (4, _), (7, _), (9, _)] ⟨rfl, rfl, rfl, rfl, rfl, trivial⟩ ?_
                refine Cov.same (bl' := [_, _, _, _]) (sl' := [_]) (Fs' := G :: Fs) rfl rfl rfl ?_
                refine Cov.dq (.move rfl) rfl ?_
                obtain ⟨u86, h87, r88⟩ := bind_some r77; clear r77
                refine Cov.cutD 6 (β := Unit) (fun y => [(94, .bool u86)]) [(3, _), (4, _), (7, _), (9, _)] (fun y => G :: Fs) (fun y => []) [_, _, _, _] (fun y => []) [_] (fun y => True) ⟨rfl, rfl, rfl, rfl, trivial⟩ [0, 1, 2, 3] rfl [0] rfl ?_ ?_
                · rintro _ _
                  refine Cov.prune [(94, .bool u86), (3, _), (4, _), (7, _), (9, _)] ⟨rfl, rfl, rfl, rfl, rfl, trivial⟩ ?_
                  refine Cov.same (bl' := [_, _, _, _]) (sl' := [_]) (Fs' := G :: Fs) rfl rfl rfl ?_
                  refine Cov.draw_end ?_
                  refine Cov.cond rfl (fun c91 => ?_) (fun c91 => ?_)
                  · have r92 := ifT r88 c91; clear r88
                    refine Cov.seq ?_
                    refine Cov.region rfl ?_
                    refine Cov.q .ro (.assign rfl) rfl ?_
                    refine Cov.region_end ?_
                    cases r92
                    refine Cov.drop 4 0 [] _ rfl rfl ?_
                    refine Cov.drop 0 1 _ [] rfl rfl ?_
                    refine Cov.retS (c := ⟨3, none⟩) (.inr ⟨_, rfl⟩) [.tmp 2] [_] rfl Try.func3 Try.results3 ⟨RV.tmp rfl, trivial⟩ (fun _ h => List.mem_cons_of_mem _ h) ⟨rfl, rfl, rfl⟩
                  · have r93 := ifBF r88 c91; clear r88
                    refine Cov.skip ?_
                    refine Cov.seq ?_
                    refine Cov.seq ?_
                    refine Cov.region rfl ?_
                    refine Cov.q .ro (.assign rfl) rfl ?_
                    refine Cov.region_end ?_
                    refine Cov.cutB (β := Int × Int × Int × Int × Int × Int × Int × Int × Int × Int × Int × Int × Int × Int × Int × Int × Int × Int × Int × Int × Int × List Int × Option Addr × Nat × Int) (fun y => []) [(4, _), (7, _), (9, _)] (fun y => G :: Fs) (fun y => [(b64, .cells #[.int .i64 y.1, .int .i64 y.2.1, .int .i64 y.2.2.1] 27 (0, 0)), (b40, .cells #[.int .i64 y.2.2.2.1, .int .i64 y.2.2.2.2.1, .int .i64 y.2.2.2.2.2.1, .int .i64 y.2.2.2.2.2.2.1, .int .i64 y.2.2.2.2.2.2.2.1, .int .i64 y.2.2.2.2.2.2.2.2.1, .int .i64 y.2.2.2.2.2.2.2.2.2.1, .int .i64 y.2.2.2.2.2.2.2.2.2.2.1] 35 (0, 0)), (b23, .cells #[.int .i64 y.2.2.2.2.2.2.2.2.2.2.2.1, .int .i64 y.2.2.2.2.2.2.2.2.2.2.2.2.1, .int .i64 y.2.2.2.2.2.2.2.2.2.2.2.2.2.1, .int .i64 y.2.2.2.2.2.2.2.2.2.2.2.2.2.2.1, .int .i64 y.2.2.2.2.2.2.2.2.2.2.2.2.2.2.2.1, .int .i64 y.2.2.2.2.2.2.2.2.2.2.2.2.2.2.2.2.1, .int .i64 y.2.2.2.2.2.2.2.2.2.2.2.2.2.2.2.2.2.1, .int .i64 y.2.2.2.2.2.2.2.2.2.2.2.2.2.2.2.2.2.2.1, .int .i64 y.2.2.2.2.2.2.2.2.2.2.2.2.2.2.2.2.2.2.2.1, .int .i64 y.2.2.2.2.2.2.2.2.2.2.2.2.2.2.2.2.2.2.2.2.1] 29 (0, 0)), (b12, .cells #[.slice y.2.2.2.2.2.2.2.2.2.2.2.2.2.2.2.2.2.2.2.2.2.2.1 y.2.2.2.2.2.2.2.2.2.2.2.2.2.2.2.2.2.2.2.2.2.1.length y.2.2.2.2.2.2.2.2.2.2.2.2.2.2.2.2.2.2.2.2.2.2.2.1, .int .i64 y.2.2.2.2.2.2.2.2.2.2.2.2.2.2.2.2.2.2.2.2.2.2.2.2] 58 (0, 0))]) [] (fun y => []) [_] (fun y => SlR (Rep.int .u8) G y.2.2.2.2.2.2.2.2.2.2.2.2.2.2.2.2.2.2.2.2.2.2.1 y.2.2.2.2.2.2.2.2.2.2.2.2.2.2.2.2.2.2.2.2.2.2.2.1 y.2.2.2.2.2.2.2.2.2.2.2.2.2.2.2.2.2.2.2.2.2.1 ∧ (law29_PlannerBest_J2 u41.1) y.1 y.2.1 y.2.2.1 y.2.2.2.1 y.2.2.2.2.1 y.2.2.2.2.2.1 y.2.2.2.2.2.2.1 y.2.2.2.2.2.2.2.1 y.2.2.2.2.2.2.2.2.1 y.2.2.2.2.2.2.2.2.2.1 y.2.2.2.2.2.2.2.2.2.2.1 y.2.2.2.2.2.2.2.2.2.2.2.1 y.2.2.2.2.2.2.2.2.2.2.2.2.1 y.2.2.2.2.2.2.2.2.2.2.2.2.2.1 y.2.2.2.2.2.2.2.2.2.2.2.2.2.2.1 y.2.2.2.2.2.2.2.2.2.2.2.2.2.2.2.1 y.2.2.2.2.2.2.2.2.2.2.2.2.2.2.2.2.1 y.2.2.2.2.2.2.2.2.2.2.2.2.2.2.2.2.2.1 y.2.2.2.2.2.2.2.2.2.2.2.2.2.2.2.2.2.2.1 y.2.2.2.2.2.2.2.2.2.2.2.2.2.2.2.2.2.2.2.1 y.2.2.2.2.2.2.2.2.2.2.2.2.2.2.2.2.2.2.2.2.1 y.2.2.2.2.2.2.2.2.2.2.2.2.2.2.2.2.2.2.2.2.2.1 y.2.2.2.2.2.2.2.2.2.2.2.2.2.2.2.2.2.2.2.2.2.2.2.2 = some r) ⟨rfl, rfl, rfl, trivial⟩ [] rfl [0] rfl ?_ ?_
                    · intro y hI
                      obtain ⟨v238, v239, v240, v241, v242, v243, v244, v245, v246, v247, v248, v249, v250, v251, v252, v253, v254, v255, v256, v257, v258, v259, a260, k261, v263⟩ := y
                      obtain ⟨s262, r265⟩ := hI
                      try dsimp only at s262 r265
                      refine Cov.prune [(4, _), (7, _), (9, _)] ⟨rfl, rfl, rfl, trivial⟩ ?_
                      refine Cov.same (bl' := [(b64, .cells #[.int .i64 v238, .int .i64 v239, .int .i64 v240] 27 (0, 0)), (b40, .cells #[.int .i64 v241, .int .i64 v242, .int .i64 v243, .int .i64 v244, .int .i64 v245, .int .i64 v246, .int .i64 v247, .int .i64 v248] 35 (0, 0)), (b23, .cells #[.int .i64 v249, .int .i64 v250, .int .i64 v251, .int .i64 v252, .int .i64 v253, .int .i64 v254, .int .i64 v255, .int .i64 v256, .int .i64 v257, .int .i64 v258] 29 (0, 0)), (b12, .cells #[.slice a260 v259.length k261, .int .i64 v263] 58 (0, 0))]) (sl' := [_]) (Fs' := G :: Fs) rfl rfl rfl ?_
                      unfold law29_PlannerBest_J2 at r265
                      try dsimp only at r265
                      refine Cov.seq ?_
                      refine Cov.seq ?_
                      refine Cov.region rfl ?_
                      refine Cov.q .ro (.move rfl) rfl ?_
                      refine Cov.q .ro (.len_sl rfl rfl sl39) rfl ?_
                      refine Cov.q .ro (.move rfl) rfl ?_
                      refine Cov.region_end ?_
                      refine Cov.block ?_
                      refine Cov.loop2 (α := Nat × (List ((Int × Int × Int × Int) × (Int × Int × Int) × Int))) (fun y => [(131, .int .i64 (y.1 : Int))]) [(4, _), (7, _), (129, _), (130, _)] (fun y => []) (fun y => []) [_, _, _, _] (fun y => []) [_] (fun y => List.drop y.1 u41.1 = y.2 ∧ law29_PlannerBest_L1 v248 v249 v250 v251 v252 v253 v254 v255 v256 v257 v258 y.2  = some r) (fun y => y.2.length) (0, u41.1) ⟨rfl, r265⟩ ⟨rfl, rfl, rfl, rfl, rfl, trivial⟩ rfl rfl rfl (fun y hI hb325 => ?_)
                      obtain ⟨i321, w322⟩ := y
                      obtain ⟨g323, r324⟩ := hI
                      try dsimp only at g323 r324
                      refine Cov.prune [(131, .int .i64 (i321 : Int)), (4, _), (7, _), (129, _), (130, _)] ⟨rfl, rfl, rfl, rfl, rfl, trivial⟩ ?_
                      refine Cov.same (bl' := [_, _, _, _]) (sl' := [_]) (Fs' := G :: Fs) rfl rfl rfl ?_
                      cases w322 with
                      | nil =>
                        rw [law29_PlannerBest_L1] at r324; try dsimp only at r324
                        refine Cov.seq ?_
                        refine Cov.region rfl ?_
                        refine Cov.q .ro (.lss rfl rfl) rfl ?_
                        refine Cov.region_end ?_
                        refine Cov.seq ?_
                        refine Cov.cond_dec rfl (fun c => absurd c (drop_nil g323)) (fun _ => ?_)
                        refine Cov.exit rfl ?_
                        refine Cov.seq ?_
                        refine Cov.region rfl ?_
                        refine Cov.q .ro (.assign rfl) rfl ?_
                        refine Cov.region_end ?_
                        cases r324
                        refine Cov.drop 4 0 [] _ rfl rfl ?_
                        refine Cov.drop 0 1 _ [] rfl rfl ?_
                        refine Cov.retS (c := ⟨3, none⟩) (.inr ⟨_, rfl⟩) [.tmp 2] [_] rfl Try.func3 Try.results3 ⟨RV.tmp rfl, trivial⟩ (fun _ h => List.mem_cons_of_mem _ h) ⟨rfl, rfl, rfl⟩
                      | cons x352 xs353 =>
                        have r351 : law29_PlannerBest_B1 v248 v249 v250 v251 v252 v253 v254 v255 v256 v257 v258 (law29_PlannerBest_L1 v248 v249 v250 v251 v252 v253 v254 v255 v256 v257 v258 xs353) x352  = some r := r324; clear r324; unfold law29_PlannerBest_B1 at r351; try dsimp only at r351
                        refine Cov.seq ?_
                        refine Cov.region rfl ?_
                        refine Cov.q .ro (.lss rfl rfl) rfl ?_
                        refine Cov.region_end ?_
                        refine Cov.seq ?_
                        refine Cov.cond_dec rfl (fun _ => ?_) (fun c => absurd (drop_lt g323) c)
                        refine Cov.skip ?_
                        refine Cov.seq ?_
                        refine Cov.block ?_
                        refine Cov.seq ?_
                        refine Cov.region rfl ?_
                        obtain ⟨c354, p355, h356⟩ := OL.get o49 (drop_idx g323)
                        obtain ⟨_, _, rfl, ⟨_, _, rfl, rfl, _, _, rfl, rfl, _, _, rfl, rfl, rfl⟩, _, _, rfl, ⟨_, _, rfl, rfl, _, _, rfl, rfl, rfl⟩, rfl⟩ := h356
                        refine Cov.q .ro (.idxO 0 rfl rfl rfl (drop_idx g323) sl39 ty35.sz) rfl ?_
                        refine Cov.q .ro (.loadO_a 0 0 [_, _, _, _, _, _, _, _] rfl (drop_idx g323) p355 rfl (.inl ⟨rfl, rfl⟩) ty35 rfl) rfl ?_
                        refine Cov.alloc .ro ty35 rfl (fun b357 hb357 => ?_)
                        refine Cov.store 0 [_, _, _, _, _, _, _, _] [_, _, _, _, _] .ro rfl rfl rfl ty35 rfl rfl rfl rfl ?_
                        refine Cov.region_end ?_
                        refine Cov.seq ?_
                        refine Cov.region rfl ?_
                        refine Cov.q .ro (.fieldAddr 7 rfl fl35_2 ty3.sz rfl) rfl ?_
                        refine Cov.q .ro (.load_own 0 rfl rfl ty3 rfl) rfl ?_
                        refine Cov.q .ro (.fieldAddr 7 rfl fl35_2 ty3.sz rfl) rfl ?_
                        refine Cov.q .ro (.load_own 2 rfl rfl ty3 rfl) rfl ?_
                        refine Cov.q .ro (.lss rfl rfl) rfl ?_
                        refine Cov.q .ro (.move rfl) rfl ?_
                        obtain ⟨u364, h365, r366⟩ := bind_some r351; clear r351
                        refine Cov.cutR 6 (β := Unit) (fun y => [(146, .bool u364)]) [(131, _), (4, _), (7, _), (129, _), (130, _)] (fun y => G :: Fs) (fun y => []) [_, _, _, _, _] (fun y => []) [_] (fun y => True) ⟨rfl, rfl, rfl, rfl, rfl, trivial⟩ [0, 1, 2, 3, 4] rfl [0] rfl ?_ ?_
                        · rintro _ _
                          refine Cov.prune [(146, .bool u364), (131, _), (4, _), (7, _), (129, _), (130, _)] ⟨rfl, rfl, rfl, rfl, rfl, rfl, trivial⟩ ?_
                          refine Cov.same (bl' := [_, _, _, _, _]) (sl' := [_]) (Fs' := G :: Fs) rfl rfl rfl ?_
                          refine Cov.region_end ?_
                          refine Cov.cond rfl (fun c369 => ?_) (fun c369 => ?_)
                          · have r370 := ifT r366 c369; clear r366
                            refine Cov.seq ?_
                            refine Cov.region rfl ?_
                            refine Cov.q .ro (.assign rfl) rfl ?_
                            refine Cov.region_end ?_
                            cases r370
                            refine Cov.drop 5 0 [] _ rfl rfl ?_
                            refine Cov.drop 0 1 _ [] rfl rfl ?_
                            refine Cov.retS (c := ⟨3, none⟩) (.inr ⟨_, rfl⟩) [.tmp 2] [_] rfl Try.func3 Try.results3 ⟨RV.tmp rfl, trivial⟩ (fun _ h => List.mem_cons_of_mem _ h) ⟨rfl, rfl, rfl⟩
                          · have r371 := ifBF r366 c369; clear r366
                            refine Cov.skip ?_
                            refine Cov.inBlock ?_
                            refine Cov.region rfl ?_
                            refine Cov.q .ro (.addw rfl rfl) rfl ?_
                            refine Cov.q .ro (.move rfl) rfl ?_
                            refine Cov.region_end ?_
                            refine Cov.drop 1 0 [_, _, _, _] _ rfl rfl ?_
                            refine Cov.prune _ ?_ (Cov.same rfl rfl rfl (hb325 ((i321 + 1), xs353) ⟨(drop_succ g323), r371⟩ (Nat.lt_succ_self _)))
                            exact ⟨(congrArg (fun z => some (Value.int .i64 z)) (idx_wrap (OL.len' o49) g323)), rfl, rfl, rfl, rfl, trivial⟩
                        · intro hb363
                          refine Cov.split 140 rfl (fun c362 => ?_) (fun c362 => ?_)
                          · have r372 := ifT h365 c362
                            refine Cov.g_off rfl rfl rfl ?_
                            refine Cov.g_off rfl rfl rfl ?_
                            refine Cov.g_off rfl rfl rfl ?_
                            refine Cov.g_off rfl rfl rfl ?_
                            refine Cov.g_off rfl rfl rfl ?_
                            refine Cov.q .ro (.pick_t rfl rfl) rfl ?_
                            refine Cov.prune _ ?_ (Cov.same rfl rfl rfl (hb363 () trivial))
                            exact ⟨sval r372, rfl, rfl, rfl, rfl, rfl, trivial⟩
                          · have r373 := ifF h365 c362
                            refine Cov.g_on rfl ?_
                            refine Cov.q .ro (.fieldAddr 0 rfl fl35_0 ty33.sz rfl) rfl ?_
                            refine Cov.g_on rfl ?_
                            refine Cov.q .ro (.load_own_a 0 [_, _, _, _] rfl rfl ty33 rfl) rfl ?_
                            refine Cov.g_on rfl ?_
                            refine Cov.q .ro (.load_own_a 3 [_, _, _, _, _, _, _, _, _, _] rfl rfl ty29 rfl) rfl ?_
                            refine Cov.g_on rfl ?_
                            obtain ⟨u374, hu374, r375⟩ := bind_some r373; clear r373
                            refine Cov.callS (b1 := []) (b2 := [_, _, _, _, _]) (s1 := []) [_, _] [] .ro rfl rfl Try.call16 rfl rfl (planner_Serves_c (G := G) List.mem_cons_self  hu374) rfl (fun v377 bo so h376 => ?_)
                            obtain ⟨rfl, rfl, rfl⟩ := h376
                            refine Cov.same (bl' := [_, _, _, _, _]) (sl' := [_]) rfl rfl rfl ?_
                            refine Cov.g_on rfl ?_
                            refine Cov.q .ro (.not rfl) rfl ?_
                            refine Cov.q .ro (.pick_f rfl rfl) rfl ?_
                            refine Cov.prune _ ?_ (Cov.same rfl rfl rfl (hb363 () trivial))
                            exact ⟨sval r375, rfl, rfl, rfl, rfl, rfl, trivial⟩
                    · intro hb378
                      refine Cov.block ?_
                      refine Cov.pull 3 rfl [_, _, _, _] rfl ?_
                      refine Cov.loop2 (α := Nat × Int × List Int × Option Addr × Nat × Int) (fun y => [(13, .int .i64 y.2.1)]) [(3, _), (4, _), (7, _), (9, _)] (fun y => []) (fun y => [(b12, .cells #[.slice y.2.2.2.1 y.2.2.1.length y.2.2.2.2.1, .int .i64 y.2.2.2.2.2] 58 (0, 0))]) [_, _, _] (fun y => []) [_] (fun y => SlR (Rep.int .u8) G y.2.2.2.1 y.2.2.2.2.1 y.2.2.1 ∧ law29_PlannerBest_L3 (law29_PlannerBest_J2 u41.1) u60.1.1 u60.1.2.1 u60.1.2.2 u36.1.1.1 u36.1.1.2.1 u36.1.1.2.2.1 u36.1.1.2.2.2 u36.1.2.1.1 u36.1.2.1.2.1 u36.1.2.1.2.2 u36.1.2.2 u16.1.1 u16.1.2.1 u16.1.2.2.1 u16.1.2.2.2.1 u16.1.2.2.2.2.1 u16.1.2.2.2.2.2.1 u16.1.2.2.2.2.2.2.1 u16.1.2.2.2.2.2.2.2.1 u16.1.2.2.2.2.2.2.2.2.1 u16.1.2.2.2.2.2.2.2.2.2 y.1 y.2.1 y.2.2.1 y.2.2.2.2.2 = some r) (fun y => y.1) (big, 0, u16.2.1, a20, k21, u16.2.2) ⟨s22, r93⟩ ⟨rfl, rfl, rfl, rfl, rfl, trivial⟩ rfl rfl rfl (fun y hI hb455 => ?_)
                      obtain ⟨n446, v448, v449, a450, k451, v453⟩ := y
                      obtain ⟨s452, r454⟩ := hI
                      try dsimp only at s452 r454
                      refine Cov.prune [(13, .int .i64 v448), (3, _), (4, _), (7, _), (9, _)] ⟨rfl, rfl, rfl, rfl, rfl, trivial⟩ ?_
                      refine Cov.same (bl' := [(b12, .cells #[.slice a450 v449.length k451, .int .i64 v453] 58 (0, 0)), _, _, _]) (sl' := [_]) (Fs' := G :: Fs) rfl rfl rfl ?_
                      obtain ⟨m479, rfl⟩ : ∃ m, n446 = m + 1 := by cases n446 with | zero => exact absurd (show (none : Option _) = some _ from r454) (by simp) | succ m => exact ⟨m, rfl⟩
                      have r478 : law29_PlannerBest_B3 (law29_PlannerBest_J2 u41.1) u60.1.1 u60.1.2.1 u60.1.2.2 u36.1.1.1 u36.1.1.2.1 u36.1.1.2.2.1 u36.1.1.2.2.2 u36.1.2.1.1 u36.1.2.1.2.1 u36.1.2.1.2.2 u36.1.2.2 u16.1.1 u16.1.2.1 u16.1.2.2.1 u16.1.2.2.2.1 u16.1.2.2.2.2.1 u16.1.2.2.2.2.2.1 u16.1.2.2.2.2.2.2.1 u16.1.2.2.2.2.2.2.2.1 u16.1.2.2.2.2.2.2.2.2.1 u16.1.2.2.2.2.2.2.2.2.2 (law29_PlannerBest_L3 (law29_PlannerBest_J2 u41.1) u60.1.1 u60.1.2.1 u60.1.2.2 u36.1.1.1 u36.1.1.2.1 u36.1.1.2.2.1 u36.1.1.2.2.2 u36.1.2.1.1 u36.1.2.1.2.1 u36.1.2.1.2.2 u36.1.2.2 u16.1.1 u16.1.2.1 u16.1.2.2.1 u16.1.2.2.2.1 u16.1.2.2.2.2.1 u16.1.2.2.2.2.2.1 u16.1.2.2.2.2.2.2.1 u16.1.2.2.2.2.2.2.2.1 u16.1.2.2.2.2.2.2.2.2.1 u16.1.2.2.2.2.2.2.2.2.2 m479) v448 v449 v453 = some r := r454; clear r454; unfold law29_PlannerBest_B3 at r478; try dsimp only at r478
                      refine Cov.seq ?_
                      refine Cov.seq ?_
                      refine Cov.region rfl ?_
                      refine Cov.q .ro (.move rfl) rfl ?_
                      refine Cov.q .ro (.lss rfl rfl) rfl ?_
                      refine Cov.region_end ?_
                      refine Cov.cond_dec rfl (fun c480 => ?_) (fun c480 => ?_)
                      · have r481 := ifT r478 c480; clear r478
                        refine Cov.skip ?_
                        refine Cov.seq ?_
                        refine Cov.block ?_
                        refine Cov.seq ?_
                        refine Cov.region rfl ?_
                        refine Cov.q .ro (.move rfl) rfl ?_
                        obtain ⟨u482, hu482, r483⟩ := bind_some r481; clear r481
                        refine Cov.callS (b1 := [_]) (b2 := [_, _, _]) (s1 := []) [_] [] .ro rfl rfl Try.call17 rfl rfl (play_Dice_Odd_c (G := G) List.mem_cons_self s452 hu482) rfl (fun v485 bo so h484 => ?_)
                        obtain ⟨a486, k487, rfl, rfl, rfl, s488⟩ := h484
                        refine Cov.same (bl' := [_, _, _, _]) (sl' := [_]) rfl rfl rfl ?_
                        refine Cov.alloc .ro ty33 rfl (fun b489 hb489 => ?_)
                        refine Cov.store 0 [_, _, _, _] [_, _, _, _, _] .ro rfl rfl rfl ty33 rfl rfl rfl rfl ?_
                        refine Cov.region_end ?_
                        refine Cov.seq ?_
                        refine Cov.region rfl ?_
                        refine Cov.q .ro (.fieldAddr 0 rfl fl29_0 ty3.sz rfl) rfl ?_
                        refine Cov.q .ro (.load_own 4 rfl rfl ty3 rfl) rfl ?_
                        refine Cov.q .ro (.fieldAddr 1 rfl fl33_1 ty3.sz rfl) rfl ?_
                        refine Cov.store 0 [_, _, _, _] [_, _, _, _, _] .ro rfl rfl rfl ty3 rfl rfl rfl rfl ?_
                        refine Cov.region_end ?_
                        refine Cov.seq ?_
                        refine Cov.region rfl ?_
                        refine Cov.q .ro (.load_own_a 0 [_, _, _, _] rfl rfl ty33 rfl) rfl ?_
                        refine Cov.q .ro (.load_own_a 4 [_, _, _, _, _, _, _, _, _, _] rfl rfl ty29 rfl) rfl ?_
                        obtain ⟨u490, hu490, r491⟩ := bind_some r483; clear r483
                        refine Cov.callS (b1 := []) (b2 := [_, _, _, _, _]) (s1 := []) [_, _] [] .ro rfl rfl Try.call16 rfl rfl (planner_Serves_c (G := G) List.mem_cons_self  hu490) rfl (fun v493 bo so h492 => ?_)
                        obtain ⟨rfl, rfl, rfl⟩ := h492
                        refine Cov.same (bl' := [_, _, _, _, _]) (sl' := [_]) rfl rfl rfl ?_
                        refine Cov.region_end ?_
                        refine Cov.cond rfl (fun c494 => ?_) (fun c494 => ?_)
                        · have r495 := ifT r491 c494; clear r491
                          refine Cov.seq ?_
                          refine Cov.region rfl ?_
                          refine Cov.q .ro (.load_own_a 0 [_, _, _, _] rfl rfl ty33 rfl) rfl ?_
                          refine Cov.q .ro (.fieldAddr 4 rfl fl29_4 ty3.sz rfl) rfl ?_
                          refine Cov.q .ro (.load_own 4 rfl rfl ty3 rfl) rfl ?_
                          refine Cov.q .ro (.fieldAddr 5 rfl fl29_5 ty3.sz rfl) rfl ?_
                          refine Cov.q .ro (.load_own 4 rfl rfl ty3 rfl) rfl ?_
                          refine Cov.q .ro (.fieldAddr 6 rfl fl29_6 ty3.sz rfl) rfl ?_
                          refine Cov.q .ro (.load_own 4 rfl rfl ty3 rfl) rfl ?_
                          obtain ⟨u496, hu496, r497⟩ := bind_some r495; clear r495
                          refine Cov.callS (b1 := []) (b2 := [_, _, _, _, _]) (s1 := []) [_, _, _, _] [] .ro rfl rfl Try.call14 rfl rfl (ref28_Of_c (G := G) List.mem_cons_self  hu496) rfl (fun v499 bo so h498 => ?_)
                          obtain ⟨rfl, rfl, rfl⟩ := h498
                          refine Cov.same (bl' := [_, _, _, _, _]) (sl' := [_]) rfl rfl rfl ?_
                          refine Cov.q .ro (.move rfl) rfl ?_
                          refine Cov.q .ro (.extract rfl rfl) rfl ?_
                          refine Cov.q .ro (.extract rfl rfl) rfl ?_
                          refine Cov.alloc .ro ty27 rfl (fun b500 hb500 => ?_)
                          refine Cov.store 0 [_, _, _] [_, _, _, _, _, _] .ro rfl rfl rfl ty27 rfl rfl rfl rfl ?_
                          refine Cov.q .ro (.assign rfl) rfl ?_
                          refine Cov.region_end ?_
                          refine Cov.prune [(13, _), (3, _), (4, _), (7, _), (9, _), (15, _), (16, _)] ⟨rfl, rfl, rfl, rfl, rfl, rfl, rfl, trivial⟩ ?_
                          refine Cov.seq ?_
                          refine Cov.drawL (.q 0 (.q 1 (.q 2 (.q 3 (.q 4 (.q 5 (.q 7 (.q 8 (.e 6 1 (.q 9 (.q 10 .nil))))))))))) [_, _, _, _, _, _] (by kernel_rfl) (by kernel_rfl) (pick_mem [0, 1, 2, 3, 4, 5] rfl) ?_
                          refine Cov.dq (.move rfl) rfl ?_
                          refine Cov.dq (.neq rfl rfl) rfl ?_
                          refine Cov.dq (.move rfl) rfl ?_
                          obtain ⟨u507, h508, r509⟩ := bind_some r497; clear r497
                          refine Cov.cutD 8 (β := Unit) (fun y => [(128, .bool u507)]) [(13, _), (3, _), (4, _), (7, _), (9, _)] (fun y => G :: Fs) (fun y => []) [_, _, _, _, _, _] (fun y => []) [_] (fun y => True) ⟨rfl, rfl, rfl, rfl, rfl, trivial⟩ [0, 1, 2, 3, 4, 5] rfl [0] rfl ?_ ?_
                          · rintro _ _
                            refine Cov.prune [(128, .bool u507), (13, _), (3, _), (4, _), (7, _), (9, _)] ⟨rfl, rfl, rfl, rfl, rfl, rfl, trivial⟩ ?_
                            refine Cov.same (bl' := [_, _, _, _, _, _]) (sl' := [_]) (Fs' := G :: Fs) rfl rfl rfl ?_
                            refine Cov.draw_end ?_
                            refine Cov.cond rfl (fun c512 => ?_) (fun c512 => ?_)
                            · have r513 := ifT r509 c512; clear r509
                              refine Cov.seq ?_
                              refine Cov.region rfl ?_
                              refine Cov.q .ro (.assign rfl) rfl ?_
                              refine Cov.region_end ?_
                              cases r513
                              refine Cov.drop 6 0 [] _ rfl rfl ?_
                              refine Cov.drop 0 1 _ [] rfl rfl ?_
                              refine Cov.retS (c := ⟨3, none⟩) (.inr ⟨_, rfl⟩) [.tmp 2] [_] rfl Try.func3 Try.results3 ⟨RV.tmp rfl, trivial⟩ (fun _ h => List.mem_cons_of_mem _ h) ⟨rfl, rfl, rfl⟩
                            · have r514 := ifBF r509 c512; clear r509
                              refine Cov.skip ?_
                              refine Cov.inBlock ?_
                              refine Cov.region rfl ?_
                              refine Cov.q .ro (.move rfl) rfl ?_
                              refine Cov.q .ro (.addw rfl rfl) rfl ?_
                              refine Cov.q .ro (.assign rfl) rfl ?_
                              refine Cov.region_end ?_
                              refine Cov.drop 2 0 [_, _, _, _] _ rfl rfl ?_
                              refine Cov.prune _ ?_ (Cov.same rfl rfl rfl (hb455 (m479, (w64 (v448 + 1)), u482.2.1, a486, k487, u482.2.2) ⟨s488, r514⟩ (Nat.lt_succ_self _)))
                              exact ⟨rfl, rfl, rfl, rfl, rfl, trivial⟩
                          · intro hb506
                            refine Cov.split 120 rfl (fun c505 => ?_) (fun c505 => ?_)
                            · have r515 := ifT h508 c505
                              refine Cov.dgq_off rfl rfl rfl ?_
                              refine Cov.dgq_off rfl rfl rfl ?_
                              refine Cov.dgq_off rfl rfl rfl ?_
                              refine Cov.dgq_off rfl rfl rfl ?_
                              refine Cov.dgq_off rfl rfl rfl ?_
                              refine Cov.dge_offL rfl rfl rfl (HpLe.refl _) (pick_mem [0, 1, 2, 3, 4, 5] rfl) ?_
                              refine Cov.dgq_off rfl rfl rfl ?_
                              refine Cov.dq (.pick_t rfl rfl) rfl ?_
                              refine Cov.prune _ ?_ (Cov.same rfl rfl rfl (hb506 () trivial))
                              exact ⟨sval r515, rfl, rfl, rfl, rfl, rfl, trivial⟩
                            · have r516 := ifF h508 c505
                              refine Cov.dgq_on rfl ?_
                              refine Cov.dq (.load_own_a 0 [_, _, _] rfl rfl ty27 rfl) rfl ?_
                              refine Cov.dgq_on rfl ?_
                              refine Cov.dq (.fieldAddr 7 rfl fl29_7 ty27.sz rfl) rfl ?_
                              refine Cov.dgq_on rfl ?_
                              refine Cov.dq (.load_own_a 5 [_, _, _] rfl rfl ty27 rfl) rfl ?_
                              refine Cov.dgq_on rfl ?_
                              refine Cov.dq (.fieldAddr 7 rfl fl35_2 ty3.sz rfl) rfl ?_
                              refine Cov.dgq_on rfl ?_
                              refine Cov.dq (.load_own 4 rfl rfl ty3 rfl) rfl ?_
                              refine Cov.dge_on rfl ?_
                              obtain ⟨u517, hu517, r518⟩ := bind_some r516; clear r516
                              refine Cov.callS (b1 := []) (b2 := [_, _, _, _, _, _]) (s1 := []) [_, _] [] .d1 rfl rfl Try.call15 rfl rfl (ref28_Sum_c (G := G) List.mem_cons_self  hu517) rfl (fun v520 bo so h519 => ?_)
                              obtain ⟨rfl, rfl, rfl⟩ := h519
                              refine Cov.same (bl' := [_, _, _, _, _, _]) (sl' := [_]) rfl rfl rfl ?_
                              refine Cov.clsL (HpLe.refl _) (pick_mem [0, 1, 2, 3, 4, 5] rfl) ?_
                              refine Cov.dgq_on rfl ?_
                              refine Cov.dq (.lss rfl rfl) rfl ?_
                              refine Cov.dq (.pick_f rfl rfl) rfl ?_
                              refine Cov.prune _ ?_ (Cov.same rfl rfl rfl (hb506 () trivial))
                              exact ⟨sval r518, rfl, rfl, rfl, rfl, rfl, trivial⟩
                        · have r521 := ifBF r491 c494; clear r491
                          refine Cov.skip ?_
                          refine Cov.inBlock ?_
                          refine Cov.region rfl ?_
                          refine Cov.q .ro (.move rfl) rfl ?_
                          refine Cov.q .ro (.addw rfl rfl) rfl ?_
                          refine Cov.q .ro (.assign rfl) rfl ?_
                          refine Cov.region_end ?_
                          refine Cov.prune [(13, _), (3, _), (4, _), (7, _), (9, _)] ⟨rfl, rfl, rfl, rfl, rfl, trivial⟩ ?_
                          refine Cov.drop 1 0 [_, _, _, _] _ rfl rfl ?_
                          refine Cov.prune _ ?_ (Cov.same rfl rfl rfl (hb455 (m479, (w64 (v448 + 1)), u482.2.1, a486, k487, u482.2.2) ⟨s488, r521⟩ (Nat.lt_succ_self _)))
                          exact ⟨rfl, rfl, rfl, rfl, rfl, trivial⟩
                      · have r522 := ifF r478 c480; clear r478
                        refine Cov.exit rfl ?_
                        refine Cov.pull 3 rfl [_, _, _, _] rfl ?_
                        refine Cov.pull 3 rfl [_, _, _, _] rfl ?_
                        refine Cov.pull 3 rfl [_, _, _, _] rfl ?_
                        refine Cov.prune _ ?_ (Cov.same rfl rfl rfl (hb378 (u60.1.1, u60.1.2.1, u60.1.2.2, u36.1.1.1, u36.1.1.2.1, u36.1.1.2.2.1, u36.1.1.2.2.2, u36.1.2.1.1, u36.1.2.1.2.1, u36.1.2.1.2.2, u36.1.2.2, u16.1.1, u16.1.2.1, u16.1.2.2.1, u16.1.2.2.2.1, u16.1.2.2.2.2.1, u16.1.2.2.2.2.2.1, u16.1.2.2.2.2.2.2.1, u16.1.2.2.2.2.2.2.2.1, u16.1.2.2.2.2.2.2.2.2.1, u16.1.2.2.2.2.2.2.2.2.2, v449, a450, k451, v453) ⟨s452, r522⟩))
                        exact ⟨rfl, rfl, rfl, trivial⟩
                · intro hb85
                  refine Cov.split_b 88 rfl (fun c84 => ?_) (fun c84 => ?_)
                  · have r523 := ifT h87 c84
                    refine Cov.dgq_off rfl rfl rfl ?_
                    refine Cov.dgq_off rfl rfl rfl ?_
                    refine Cov.dgq_off rfl rfl rfl ?_
                    refine Cov.dge_offL rfl rfl rfl (HpLe.refl _) (pick_mem [0, 1, 2, 3] rfl) ?_
                    refine Cov.dgq_off rfl rfl rfl ?_
                    refine Cov.dq (.pick_t rfl rfl) rfl ?_
                    refine Cov.prune _ ?_ (Cov.same rfl rfl rfl (hb85 () trivial))
                    exact ⟨sval r523, rfl, rfl, rfl, rfl, trivial⟩
                  · have r524 := ifBF h87 c84
                    refine Cov.dgq_on rfl ?_
                    refine Cov.dq (.fieldAddr 0 rfl fl35_0 ty33.sz rfl) rfl ?_
                    refine Cov.dgq_on rfl ?_
                    refine Cov.dq (.load_own_a 1 [_, _, _, _] rfl rfl ty33 rfl) rfl ?_
                    refine Cov.dgq_on rfl ?_
                    refine Cov.dq (.load_own_a 2 [_, _, _, _, _, _, _, _, _, _] rfl rfl ty29 rfl) rfl ?_
                    refine Cov.dge_on rfl ?_
                    obtain ⟨u525, hu525, r526⟩ := bind_some r524; clear r524
                    refine Cov.callS (b1 := []) (b2 := [_, _, _, _]) (s1 := []) [_, _] [] .d1 rfl rfl Try.call16 rfl rfl (planner_Serves_c (G := G) List.mem_cons_self  hu525) rfl (fun v528 bo so h527 => ?_)
                    obtain ⟨rfl, rfl, rfl⟩ := h527
                    refine Cov.same (bl' := [_, _, _, _]) (sl' := [_]) rfl rfl rfl ?_
                    refine Cov.clsL (HpLe.refl _) (pick_mem [0, 1, 2, 3] rfl) ?_
                    refine Cov.dgq_on rfl ?_
                    refine Cov.dq (.not rfl) rfl ?_
                    refine Cov.dq (.pick_f rfl rfl) rfl ?_
                    refine Cov.prune _ ?_ (Cov.same rfl rfl rfl (hb85 () trivial))
                    exact ⟨sval r526, rfl, rfl, rfl, rfl, trivial⟩
              · intro hb74
                refine Cov.split 79 rfl (fun c73 => ?_) (fun c73 => ?_)
                · have r529 := ifT h76 c73
                  refine Cov.dgq_off rfl rfl rfl ?_
                  refine Cov.dgq_off rfl rfl rfl ?_
                  refine Cov.dgq_off rfl rfl rfl ?_
                  refine Cov.dgq_off rfl rfl rfl ?_
                  refine Cov.dgq_off rfl rfl rfl ?_
                  refine Cov.dge_offL rfl rfl rfl (HpLe.refl _) (pick_mem [0, 1, 2, 3] rfl) ?_
                  refine Cov.dgq_off rfl rfl rfl ?_
                  refine Cov.dq (.pick_t rfl rfl) rfl ?_
                  refine Cov.prune _ ?_ (Cov.same rfl rfl rfl (hb74 () trivial))
                  exact ⟨sval r529, rfl, rfl, rfl, rfl, trivial⟩
                · have r530 := ifF h76 c73
                  refine Cov.dgq_on rfl ?_
                  refine Cov.dq (.load_own_a 0 [_, _, _] rfl rfl ty27 rfl) rfl ?_
                  refine Cov.dgq_on rfl ?_
                  refine Cov.dq (.fieldAddr 7 rfl fl29_7 ty27.sz rfl) rfl ?_
                  refine Cov.dgq_on rfl ?_
                  refine Cov.dq (.load_own_a 2 [_, _, _] rfl rfl ty27 rfl) rfl ?_
                  refine Cov.dgq_on rfl ?_
                  refine Cov.dq (.fieldAddr 7 rfl fl35_2 ty3.sz rfl) rfl ?_
                  refine Cov.dgq_on rfl ?_
                  refine Cov.dq (.load_own 1 rfl rfl ty3 rfl) rfl ?_
                  refine Cov.dge_on rfl ?_
                  obtain ⟨u531, hu531, r532⟩ := bind_some r530; clear r530
                  refine Cov.callS (b1 := []) (b2 := [_, _, _, _]) (s1 := []) [_, _] [] .d1 rfl rfl Try.call15 rfl rfl (ref28_Sum_c (G := G) List.mem_cons_self  hu531) rfl (fun v534 bo so h533 => ?_)
                  obtain ⟨rfl, rfl, rfl⟩ := h533
                  refine Cov.same (bl' := [_, _, _, _]) (sl' := [_]) rfl rfl rfl ?_
                  refine Cov.clsL (HpLe.refl _) (pick_mem [0, 1, 2, 3] rfl) ?_
                  refine Cov.dgq_on rfl ?_
                  refine Cov.dq (.neq rfl rfl) rfl ?_
                  refine Cov.dq (.pick_f rfl rfl) rfl ?_
                  refine Cov.prune _ ?_ (Cov.same rfl rfl rfl (hb74 () trivial))
                  exact ⟨sval r532, rfl, rfl, rfl, rfl, trivial⟩
            · intro hb66
              refine Cov.split 73 rfl (fun c65 => ?_) (fun c65 => ?_)
              · refine Cov.dgq_off rfl rfl rfl ?_
                refine Cov.dgq_off rfl rfl rfl ?_
                refine Cov.dgq_off rfl rfl rfl ?_
                refine Cov.dgq_off rfl rfl rfl ?_
                refine Cov.dq (.pick_t rfl rfl) rfl ?_
                refine Cov.prune _ ?_ (Cov.same rfl rfl rfl (hb66 () trivial))
                exact ⟨dor_t c65, rfl, rfl, rfl, rfl, rfl, trivial⟩
              · refine Cov.dgq_on rfl ?_
                refine Cov.dq (.load_own_a 0 [_, _, _] rfl rfl ty27 rfl) rfl ?_
                refine Cov.dgq_on rfl ?_
                refine Cov.dq (.fieldAddr 4 rfl fl35_1 ty27.sz rfl) rfl ?_
                refine Cov.dgq_on rfl ?_
                refine Cov.dq (.load_own_a 1 [_, _, _] rfl rfl ty27 rfl) rfl ?_
                refine Cov.dgq_on rfl ?_
                refine Cov.dq (.cast (show Value.bool (decide (([u60.1.1, u60.1.2.1, u60.1.2.2] : List Int) ≠ ([u36.1.2.1.1, u36.1.2.1.2.1, u36.1.2.1.2.2] : List Int))) = Value.bool (decide ((u60.1.1, u60.1.2.1, u60.1.2.2) ≠ (u36.1.2.1.1, u36.1.2.1.2.1, u36.1.2.1.2.2))) from congrArg Value.bool (decide_eq_decide.2 (by simp))) (.neq_i [u60.1.1, u60.1.2.1, u60.1.2.2] [u36.1.2.1.1, u36.1.2.1.2.1, u36.1.2.1.2.2] Try.underlying27 (by kernel_rfl) Try.stoodInHeld27 Try.eqGuardType27 rfl rfl rfl rfl)) rfl ?_
                refine Cov.dq (.pick_f rfl rfl) rfl ?_
                refine Cov.prune _ ?_ (Cov.same rfl rfl rfl (hb66 () trivial))
                exact ⟨dor_f c65, rfl, rfl, rfl, rfl, rfl, trivial⟩
      · intro hb51
        refine Cov.split 47 rfl (fun c50 => ?_) (fun c50 => ?_)
        · refine Cov.g_off rfl rfl rfl ?_
          refine Cov.g_off rfl rfl rfl ?_
          refine Cov.g_off rfl rfl rfl ?_
          refine Cov.g_off rfl rfl rfl ?_
          refine Cov.g_off rfl rfl rfl ?_
          refine Cov.g_off rfl rfl rfl ?_
          refine Cov.q .ro (.pick_t rfl rfl) rfl ?_
          refine Cov.prune _ ?_ (Cov.same rfl rfl rfl (hb51 () trivial))
          exact ⟨dor_t c50, rfl, rfl, rfl, rfl, rfl, trivial⟩
        · refine Cov.g_on rfl ?_
          refine Cov.q .ro (.move rfl) rfl ?_
          refine Cov.g_on rfl ?_
          refine Cov.q .ro (.eql rfl rfl) rfl ?_
          refine Cov.g_on rfl ?_
          refine Cov.q .ro (.move rfl) rfl ?_
          refine Cov.g_on rfl ?_
          refine Cov.q .ro (.len_sl rfl rfl sl39) rfl ?_
          refine Cov.g_on rfl ?_
          refine Cov.q .ro (.gtr rfl rfl) rfl ?_
          refine Cov.g_on rfl ?_
          refine Cov.q .ro (.neq_b Try.underlying4 rfl rfl) rfl ?_
          refine Cov.q .ro (.pick_f rfl rfl) rfl ?_
          refine Cov.prune _ ?_ (Cov.same rfl rfl rfl (hb51 () trivial))
          exact ⟨dor_f c50, rfl, rfl, rfl, rfl, rfl, trivial⟩

end Go.Proofs.Ytmjidoadjinhgaa
