/- The walks. Printed by wip/lift/drive.py. -/
import Derived.Test.YtmjidoadjinhgaaW3
namespace Go.Proofs.Ytmjidoadjinhgaa
open Go.RowKit
set_option linter.unusedSimpArgs false
set_option linter.unusedVariables false
set_option synthInstance.maxSize 2000
set_option synthInstance.maxHeartbeats 400000

set_option maxHeartbeats 4000000 in
theorem law29_PlannerSteps_c {Fs : List Hp} {G : Hp} {a0 : Option Addr} {k0 : Nat} {x0 : List Int} {x1_0 : Int} {x1_1 : Int} {x1_2 : Int} {x1_3 : Int} {x1_4 : Int} {x1_5 : Int} {x1_6 : Int} {x1_7 : Int} {x1_8 : Int} {x1_9 : Int} {x2_0 : Int} {x2_1 : Int} {x2_2 : Int} {x2_3 : Int} {x3_0 : Int} {x3_1 : Int} {x3_2 : Int} {x3_3 : Int} {x3_4 : Int} {x3_5 : Int} {x3_6 : Int} {x3_7 : Int} {x4_0 : Int} {x4_1 : Int} {x4_2 : Int} {x4_3 : Int} {x4_4 : Int} {x4_5 : Int} {x4_6 : Int} {x4_7 : Int} {r : Bool} (hG : G ∈ Fs) (s0 : SlR (Rep.int .u8) G a0 k0 x0) (h : law29_PlannerSteps x0 (x1_0, x1_1, x1_2, x1_3, x1_4, x1_5, x1_6, (x1_7, x1_8, x1_9)) (x2_0, x2_1, x2_2, x2_3) ((x3_0, x3_1, x3_2, x3_3), (x3_4, x3_5, x3_6), x3_7) ((x4_0, x4_1, x4_2, x4_3), (x4_4, x4_5, x4_6), x4_7) = some r) : RetS Try.prog 7 #[.slice a0 x0.length k0, .agg #[.int .i64 x1_0, .int .i64 x1_1, .int .i64 x1_2, .int .i64 x1_3, .int .i64 x1_4, .int .i64 x1_5, .int .i64 x1_6, .int .i64 x1_7, .int .i64 x1_8, .int .i64 x1_9], .agg #[.int .i64 x2_0, .int .i64 x2_1, .int .i64 x2_2, .int .i64 x2_3], .agg #[.int .i64 x3_0, .int .i64 x3_1, .int .i64 x3_2, .int .i64 x3_3, .int .i64 x3_4, .int .i64 x3_5, .int .i64 x3_6, .int .i64 x3_7], .agg #[.int .i64 x4_0, .int .i64 x4_1, .int .i64 x4_2, .int .i64 x4_3, .int .i64 x4_4, .int .i64 x4_5, .int .i64 x4_6, .int .i64 x4_7]] Fs [] [] (fun v bo so => v = .bool r ∧ bo = [] ∧ so = []) := by
  unfold law29_PlannerSteps at h
  try dsimp only at h
  refine RetS.of (vs := [_, _, _, _, _]) Try.func7 rfl Try.ntmps7 [(0, _), (1, _), (2, _), (3, _), (4, _)] ⟨rfl, rfl, rfl, rfl, rfl, trivial⟩ rfl hG fun w0 S0 hS0 B0 => ?_
  refine Cov.seq ?_
  refine Cov.region rfl ?_
  refine Cov.box [_, _, _, _, _, _, _, _, _, _] .ro rfl rfl rfl (fun b1 hb1 => ?_)
  refine Cov.box [_, _, _, _] .ro rfl rfl rfl (fun b2 hb2 => ?_)
  refine Cov.box [_, _, _, _, _, _, _, _] .ro rfl rfl rfl (fun b3 hb3 => ?_)
  refine Cov.box [_, _, _, _, _, _, _, _] .ro rfl rfl rfl (fun b4 hb4 => ?_)
  refine Cov.q .ro (.assign rfl) rfl ?_
  refine Cov.region_end ?_
  refine Cov.seq ?_
  refine Cov.seq ?_
  refine Cov.region rfl ?_
  obtain ⟨u5, hu5, r6⟩ := bind_some h; clear h
  refine Cov.callS (b1 := []) (b2 := [_, _, _, _]) (s1 := []) [] [] .ro rfl rfl Try.call8 rfl rfl (law29_sane_c (G := G) List.mem_cons_self  hu5) rfl (fun v8 bo so h7 => ?_)
  obtain ⟨rfl, rfl, rfl⟩ := h7
  refine Cov.same (bl' := [_, _, _, _]) (sl' := []) rfl rfl rfl ?_
  refine Cov.q .ro (.not rfl) rfl ?_
  refine Cov.region_end ?_
  refine Cov.cond rfl (fun c9 => ?_) (fun c9 => ?_)
  · have r10 := ifT r6 c9; clear r6
    refine Cov.seq ?_
    refine Cov.region rfl ?_
    refine Cov.q .ro (.assign rfl) rfl ?_
    refine Cov.region_end ?_
    cases r10
    refine Cov.drop 4 0 [] _ rfl rfl ?_
    refine Cov.retS (c := ⟨7, none⟩) (.inr ⟨_, rfl⟩) [.tmp 10] [_] rfl Try.func7 Try.results7 ⟨RV.tmp rfl, trivial⟩ (fun _ h => List.mem_cons_of_mem _ h) ⟨rfl, rfl, rfl⟩
  · have r11 := ifBF r6 c9; clear r6
    refine Cov.skip ?_
    refine Cov.seq ?_
    refine Cov.region rfl ?_
    refine Cov.q .ro (.move rfl) rfl ?_
    obtain ⟨u12, hu12, r13⟩ := bind_some r11; clear r11
    refine Cov.callS (b1 := []) (b2 := [_, _, _, _]) (s1 := []) [_] [] .ro rfl rfl Try.call9 rfl rfl (play_New_c (G := G) List.mem_cons_self s0 hu12) rfl (fun v15 bo so h14 => ?_)
    obtain ⟨a17, k18, b16, rfl, rfl, rfl, s19⟩ := h14
    refine Cov.same (bl' := [_, _, _, _, _]) (sl' := []) rfl rfl rfl ?_
    refine Cov.q .ro (.assign rfl) rfl ?_
    refine Cov.region_end ?_
    refine Cov.seq ?_
    refine Cov.seq ?_
    refine Cov.drawL (.q 0 (.q 1 (.q 3 (.q 7 (.e 2 1 (.e 4 1 (.e 5 1 (.q 6 .nil)))))))) [_, _, _, _] (by kernel_rfl) (by kernel_rfl) (pick_mem [1, 2, 3, 4] rfl) ?_
    refine Cov.dq (.load_own_a 3 [_, _, _, _, _, _, _, _, _, _] rfl rfl ty29 rfl) rfl ?_
    refine Cov.dq (.move rfl) rfl ?_
    refine Cov.dq (.move rfl) rfl ?_
    refine Cov.dq (.move rfl) rfl ?_
    obtain ⟨u20, hu20, r21⟩ := bind_some r13; clear r13
    refine Cov.callS (b1 := [_]) (b2 := [_, _, _, _]) (s1 := []) [_] [] .d1 rfl rfl Try.call10 rfl rfl (law29_wanted_c (G := G) List.mem_cons_self s19 hu20) rfl (fun v23 bo so h22 => ?_)
    obtain ⟨a24, k25, rfl, rfl, rfl, s26⟩ := h22
    refine Cov.same (bl' := [_, _, _, _, _]) (sl' := []) rfl rfl rfl ?_
    refine Cov.clsL (HpLe.refl _) (pick_mem [1, 2, 3, 4] rfl) ?_
    obtain ⟨u27, hu27, r28⟩ := bind_some r21; clear r21
    refine Cov.callS (b1 := [_]) (b2 := [_, _, _, _]) (s1 := []) [_] [] .d1 rfl rfl Try.call10 rfl rfl (law29_wanted_c (G := G) List.mem_cons_self s26 hu27) rfl (fun v30 bo so h29 => ?_)
    obtain ⟨a31, k32, rfl, rfl, rfl, s33⟩ := h29
    refine Cov.same (bl' := [_, _, _, _, _]) (sl' := []) rfl rfl rfl ?_
    refine Cov.clsL (HpLe.refl _) (pick_mem [1, 2, 3, 4] rfl) ?_
    refine Cov.lit [_, _, _, _, _, _, _, _, _, _, _, _, _, _, _, _, _, _, _, _, _, _, _, _, _, _, _, _, _, _] [(0, _), (1, _), (2, _)] .d1 sl52 ty29 rfl rfl rfl rfl rfl rfl (fun b34 hb34 => ?_)
    have o35 : OL (Rep.pair (Rep.int .i64) (Rep.pair (Rep.int .i64) (Rep.pair (Rep.int .i64) (Rep.pair (Rep.int .i64) (Rep.pair (Rep.int .i64) (Rep.pair (Rep.int .i64) (Rep.pair (Rep.int .i64) (Rep.pair (Rep.int .i64) (Rep.pair (Rep.int .i64) (Rep.int .i64)))))))))) G [.int .i64 x1_0, .int .i64 x1_1, .int .i64 x1_2, .int .i64 x1_3, .int .i64 x1_4, .int .i64 x1_5, .int .i64 x1_6, .int .i64 x1_7, .int .i64 x1_8, .int .i64 x1_9, .int .i64 u20.1.1, .int .i64 u20.1.2.1, .int .i64 u20.1.2.2.1, .int .i64 u20.1.2.2.2.1, .int .i64 u20.1.2.2.2.2.1, .int .i64 u20.1.2.2.2.2.2.1, .int .i64 u20.1.2.2.2.2.2.2.1, .int .i64 u20.1.2.2.2.2.2.2.2.1, .int .i64 u20.1.2.2.2.2.2.2.2.2.1, .int .i64 u20.1.2.2.2.2.2.2.2.2.2, .int .i64 u27.1.1, .int .i64 u27.1.2.1, .int .i64 u27.1.2.2.1, .int .i64 u27.1.2.2.2.1, .int .i64 u27.1.2.2.2.2.1, .int .i64 u27.1.2.2.2.2.2.1, .int .i64 u27.1.2.2.2.2.2.2.1, .int .i64 u27.1.2.2.2.2.2.2.2.1, .int .i64 u27.1.2.2.2.2.2.2.2.2.1, .int .i64 u27.1.2.2.2.2.2.2.2.2.2] ([(x1_0, x1_1, x1_2, x1_3, x1_4, x1_5, x1_6, (x1_7, x1_8, x1_9)), u20.1, u27.1] : List (Int × Int × Int × Int × Int × Int × Int × (Int × Int × Int))) := ((OL.cons rfl (Rep.pairI (Rep.intI .i64 x1_0) (Rep.pairI (Rep.intI .i64 x1_1) (Rep.pairI (Rep.intI .i64 x1_2) (Rep.pairI (Rep.intI .i64 x1_3) (Rep.pairI (Rep.intI .i64 x1_4) (Rep.pairI (Rep.intI .i64 x1_5) (Rep.pairI (Rep.intI .i64 x1_6) (Rep.pairI (Rep.intI .i64 x1_7) (Rep.pairI (Rep.intI .i64 x1_8) (Rep.intI .i64 x1_9)))))))))) (OL.cons rfl (Rep.pairI (Rep.intI .i64 u20.1.1) (Rep.pairI (Rep.intI .i64 u20.1.2.1) (Rep.pairI (Rep.intI .i64 u20.1.2.2.1) (Rep.pairI (Rep.intI .i64 u20.1.2.2.2.1) (Rep.pairI (Rep.intI .i64 u20.1.2.2.2.2.1) (Rep.pairI (Rep.intI .i64 u20.1.2.2.2.2.2.1) (Rep.pairI (Rep.intI .i64 u20.1.2.2.2.2.2.2.1) (Rep.pairI (Rep.intI .i64 u20.1.2.2.2.2.2.2.2.1) (Rep.pairI (Rep.intI .i64 u20.1.2.2.2.2.2.2.2.2.1) (Rep.intI .i64 u20.1.2.2.2.2.2.2.2.2.2)))))))))) (OL.cons rfl (Rep.pairI (Rep.intI .i64 u27.1.1) (Rep.pairI (Rep.intI .i64 u27.1.2.1) (Rep.pairI (Rep.intI .i64 u27.1.2.2.1) (Rep.pairI (Rep.intI .i64 u27.1.2.2.2.1) (Rep.pairI (Rep.intI .i64 u27.1.2.2.2.2.1) (Rep.pairI (Rep.intI .i64 u27.1.2.2.2.2.2.1) (Rep.pairI (Rep.intI .i64 u27.1.2.2.2.2.2.2.1) (Rep.pairI (Rep.intI .i64 u27.1.2.2.2.2.2.2.2.1) (Rep.pairI (Rep.intI .i64 u27.1.2.2.2.2.2.2.2.2.1) (Rep.intI .i64 u27.1.2.2.2.2.2.2.2.2.2)))))))))) (OL.nil (Rp' := (Rep.pair (Rep.int .i64) (Rep.pair (Rep.int .i64) (Rep.pair (Rep.int .i64) (Rep.pair (Rep.int .i64) (Rep.pair (Rep.int .i64) (Rep.pair (Rep.int .i64) (Rep.pair (Rep.int .i64) (Rep.pair (Rep.int .i64) (Rep.pair (Rep.int .i64) (Rep.int .i64))))))))))))))) :)
    refine Cov.reval 34 (n' := ([(x1_0, x1_1, x1_2, x1_3, x1_4, x1_5, x1_6, (x1_7, x1_8, x1_9)), u20.1, u27.1] : List (Int × Int × Int × Int × Int × Int × Int × (Int × Int × Int))).length) rfl rfl ?_
    refine Cov.clsL (HpLe.refl _) (pick_mem [1, 2, 3, 4] rfl) ?_
    refine Cov.dq (.len_sl rfl rfl sl52) rfl ?_
    refine Cov.draw_end ?_
    refine Cov.prune [(7, _), (8, _), (9, _), (11, _), (36, _), (34, _), (35, _)] ⟨rfl, rfl, rfl, rfl, rfl, rfl, rfl, trivial⟩ ?_
    refine Cov.cutB (β := Hp × List Int × Option Addr × Nat × Int × Int × Int × Int × Int × Int × Int × Int × Int × Int × Int × Int × Int × Int × Int × Int × Int × Int × Int × Int × Int × Int × Int × Int × Int × Int × Int × Int × Int × Int × Int) (fun y => []) [(8, _), (9, _)] (fun y => y.1 :: Fs) (fun y => [(b16, .cells #[.slice y.2.2.1 y.2.1.length y.2.2.2.1, .int .i64 y.2.2.2.2.1] 58 (0, 0)), (b4, .cells #[.int .i64 y.2.2.2.2.2.1, .int .i64 y.2.2.2.2.2.2.1, .int .i64 y.2.2.2.2.2.2.2.1, .int .i64 y.2.2.2.2.2.2.2.2.1, .int .i64 y.2.2.2.2.2.2.2.2.2.1, .int .i64 y.2.2.2.2.2.2.2.2.2.2.1, .int .i64 y.2.2.2.2.2.2.2.2.2.2.2.1, .int .i64 y.2.2.2.2.2.2.2.2.2.2.2.2.1] 35 (0, 0)), (b3, .cells #[.int .i64 y.2.2.2.2.2.2.2.2.2.2.2.2.2.1, .int .i64 y.2.2.2.2.2.2.2.2.2.2.2.2.2.2.1, .int .i64 y.2.2.2.2.2.2.2.2.2.2.2.2.2.2.2.1, .int .i64 y.2.2.2.2.2.2.2.2.2.2.2.2.2.2.2.2.1, .int .i64 y.2.2.2.2.2.2.2.2.2.2.2.2.2.2.2.2.2.1, .int .i64 y.2.2.2.2.2.2.2.2.2.2.2.2.2.2.2.2.2.2.1, .int .i64 y.2.2.2.2.2.2.2.2.2.2.2.2.2.2.2.2.2.2.2.1, .int .i64 y.2.2.2.2.2.2.2.2.2.2.2.2.2.2.2.2.2.2.2.2.1] 35 (0, 0)), (b2, .cells #[.int .i64 y.2.2.2.2.2.2.2.2.2.2.2.2.2.2.2.2.2.2.2.2.2.1, .int .i64 y.2.2.2.2.2.2.2.2.2.2.2.2.2.2.2.2.2.2.2.2.2.2.1, .int .i64 y.2.2.2.2.2.2.2.2.2.2.2.2.2.2.2.2.2.2.2.2.2.2.2.1, .int .i64 y.2.2.2.2.2.2.2.2.2.2.2.2.2.2.2.2.2.2.2.2.2.2.2.2.1] 33 (0, 0)), (b1, .cells #[.int .i64 y.2.2.2.2.2.2.2.2.2.2.2.2.2.2.2.2.2.2.2.2.2.2.2.2.2.1, .int .i64 y.2.2.2.2.2.2.2.2.2.2.2.2.2.2.2.2.2.2.2.2.2.2.2.2.2.2.1, .int .i64 y.2.2.2.2.2.2.2.2.2.2.2.2.2.2.2.2.2.2.2.2.2.2.2.2.2.2.2.1, .int .i64 y.2.2.2.2.2.2.2.2.2.2.2.2.2.2.2.2.2.2.2.2.2.2.2.2.2.2.2.2.1, .int .i64 y.2.2.2.2.2.2.2.2.2.2.2.2.2.2.2.2.2.2.2.2.2.2.2.2.2.2.2.2.2.1, .int .i64 y.2.2.2.2.2.2.2.2.2.2.2.2.2.2.2.2.2.2.2.2.2.2.2.2.2.2.2.2.2.2.1, .int .i64 y.2.2.2.2.2.2.2.2.2.2.2.2.2.2.2.2.2.2.2.2.2.2.2.2.2.2.2.2.2.2.2.1, .int .i64 y.2.2.2.2.2.2.2.2.2.2.2.2.2.2.2.2.2.2.2.2.2.2.2.2.2.2.2.2.2.2.2.2.1, .int .i64 y.2.2.2.2.2.2.2.2.2.2.2.2.2.2.2.2.2.2.2.2.2.2.2.2.2.2.2.2.2.2.2.2.2.1, .int .i64 y.2.2.2.2.2.2.2.2.2.2.2.2.2.2.2.2.2.2.2.2.2.2.2.2.2.2.2.2.2.2.2.2.2.2] 29 (0, 0))]) [] (fun y => []) [_] (fun y => HpLe G y.1 ∧ Bd w0 S0 Fs y.1 ∧ SlR (Rep.int .u8) y.1 y.2.2.1 y.2.2.2.1 y.2.1 ∧ law29_PlannerSteps_J1 y.2.1 y.2.2.2.2.1 y.2.2.2.2.2.1 y.2.2.2.2.2.2.1 y.2.2.2.2.2.2.2.1 y.2.2.2.2.2.2.2.2.1 y.2.2.2.2.2.2.2.2.2.1 y.2.2.2.2.2.2.2.2.2.2.1 y.2.2.2.2.2.2.2.2.2.2.2.1 y.2.2.2.2.2.2.2.2.2.2.2.2.1 y.2.2.2.2.2.2.2.2.2.2.2.2.2.1 y.2.2.2.2.2.2.2.2.2.2.2.2.2.2.1 y.2.2.2.2.2.2.2.2.2.2.2.2.2.2.2.1 y.2.2.2.2.2.2.2.2.2.2.2.2.2.2.2.2.1 y.2.2.2.2.2.2.2.2.2.2.2.2.2.2.2.2.2.1 y.2.2.2.2.2.2.2.2.2.2.2.2.2.2.2.2.2.2.1 y.2.2.2.2.2.2.2.2.2.2.2.2.2.2.2.2.2.2.2.1 y.2.2.2.2.2.2.2.2.2.2.2.2.2.2.2.2.2.2.2.2.1 y.2.2.2.2.2.2.2.2.2.2.2.2.2.2.2.2.2.2.2.2.2.1 y.2.2.2.2.2.2.2.2.2.2.2.2.2.2.2.2.2.2.2.2.2.2.1 y.2.2.2.2.2.2.2.2.2.2.2.2.2.2.2.2.2.2.2.2.2.2.2.1 y.2.2.2.2.2.2.2.2.2.2.2.2.2.2.2.2.2.2.2.2.2.2.2.2.1 y.2.2.2.2.2.2.2.2.2.2.2.2.2.2.2.2.2.2.2.2.2.2.2.2.2.1 y.2.2.2.2.2.2.2.2.2.2.2.2.2.2.2.2.2.2.2.2.2.2.2.2.2.2.1 y.2.2.2.2.2.2.2.2.2.2.2.2.2.2.2.2.2.2.2.2.2.2.2.2.2.2.2.1 y.2.2.2.2.2.2.2.2.2.2.2.2.2.2.2.2.2.2.2.2.2.2.2.2.2.2.2.2.1 y.2.2.2.2.2.2.2.2.2.2.2.2.2.2.2.2.2.2.2.2.2.2.2.2.2.2.2.2.2.1 y.2.2.2.2.2.2.2.2.2.2.2.2.2.2.2.2.2.2.2.2.2.2.2.2.2.2.2.2.2.2.1 y.2.2.2.2.2.2.2.2.2.2.2.2.2.2.2.2.2.2.2.2.2.2.2.2.2.2.2.2.2.2.2.1 y.2.2.2.2.2.2.2.2.2.2.2.2.2.2.2.2.2.2.2.2.2.2.2.2.2.2.2.2.2.2.2.2.1 y.2.2.2.2.2.2.2.2.2.2.2.2.2.2.2.2.2.2.2.2.2.2.2.2.2.2.2.2.2.2.2.2.2.1 y.2.2.2.2.2.2.2.2.2.2.2.2.2.2.2.2.2.2.2.2.2.2.2.2.2.2.2.2.2.2.2.2.2.2 = some r) ⟨rfl, rfl, trivial⟩ [] rfl [0] rfl ?_ ?_
    · intro y hI
      obtain ⟨G33392, v33396, a33397, k33398, v33400, v33401, v33402, v33403, v33404, v33405, v33406, v33407, v33408, v33409, v33410, v33411, v33412, v33413, v33414, v33415, v33416, v33417, v33418, v33419, v33420, v33421, v33422, v33423, v33424, v33425, v33426, v33427, v33428, v33429, v33430⟩ := y
      obtain ⟨e33393, B33394, s33399, r33432⟩ := hI
      try dsimp only at e33393 B33394 s33399 r33432
      refine Cov.prune [(8, _), (9, _)] ⟨rfl, rfl, trivial⟩ ?_
      refine Cov.same (bl' := [(b16, .cells #[.slice a33397 v33396.length k33398, .int .i64 v33400] 58 (0, 0)), (b4, .cells #[.int .i64 v33401, .int .i64 v33402, .int .i64 v33403, .int .i64 v33404, .int .i64 v33405, .int .i64 v33406, .int .i64 v33407, .int .i64 v33408] 35 (0, 0)), (b3, .cells #[.int .i64 v33409, .int .i64 v33410, .int .i64 v33411, .int .i64 v33412, .int .i64 v33413, .int .i64 v33414, .int .i64 v33415, .int .i64 v33416] 35 (0, 0)), (b2, .cells #[.int .i64 v33417, .int .i64 v33418, .int .i64 v33419, .int .i64 v33420] 33 (0, 0)), (b1, .cells #[.int .i64 v33421, .int .i64 v33422, .int .i64 v33423, .int .i64 v33424, .int .i64 v33425, .int .i64 v33426, .int .i64 v33427, .int .i64 v33428, .int .i64 v33429, .int .i64 v33430] 29 (0, 0))]) (sl' := [_]) (Fs' := G33392 :: Fs) rfl rfl rfl ?_
      unfold law29_PlannerSteps_J1 at r33432
      try dsimp only at r33432
      refine Cov.seq ?_
      refine Cov.drawL (.q 0 (.q 1 (.q 3 (.q 4 (.e 2 1 (.e 5 1 (.q 6 (.q 7 (.q 8 (.q 9 (.q 11 (.q 12 (.e 10 1 (.e 13 1 (.q 14 (.q 15 (.q 16 .nil))))))))))))))))) [_, _, _, _, _] (by kernel_rfl) (by kernel_rfl) (pick_mem [0, 1, 2, 3, 4] rfl) ?_
      refine Cov.dq (.load_own_a 2 [_, _, _, _, _, _, _, _] rfl rfl ty35 rfl) rfl ?_
      refine Cov.dq (.load_own_a 1 [_, _, _, _, _, _, _, _] rfl rfl ty35 rfl) rfl ?_
      refine Cov.dq (.load_own_a 2 [_, _, _, _, _, _, _, _] rfl rfl ty35 rfl) rfl ?_
      refine Cov.dq (.load_own_a 1 [_, _, _, _, _, _, _, _] rfl rfl ty35 rfl) rfl ?_
      obtain ⟨u33434, hu33434, r33435⟩ := bind_some r33432; clear r33432
      refine Cov.callS (b1 := []) (b2 := [_, _, _, _, _]) (s1 := []) [_, _] [] .d1 rfl rfl Try.call28 rfl rfl (planner_Better_c (G := G33392) List.mem_cons_self  hu33434) rfl (fun v33437 bo so h33436 => ?_)
      obtain ⟨rfl, rfl, rfl⟩ := h33436
      refine Cov.same (bl' := [_, _, _, _, _]) (sl' := [_]) rfl rfl rfl ?_
      refine Cov.clsL (HpLe.refl _) (pick_mem [0, 1, 2, 3, 4] rfl) ?_
      obtain ⟨u33438, hu33438, r33439⟩ := bind_some r33435; clear r33435
      refine Cov.callS (b1 := []) (b2 := [_, _, _, _, _]) (s1 := []) [_, _] [] .d1 rfl rfl Try.call29 rfl rfl (ref29_Better_c (G := G33392) List.mem_cons_self  hu33438) rfl (fun v33441 bo so h33440 => ?_)
      obtain ⟨rfl, rfl, rfl⟩ := h33440
      refine Cov.same (bl' := [_, _, _, _, _]) (sl' := [_]) rfl rfl rfl ?_
      refine Cov.clsL (HpLe.refl _) (pick_mem [0, 1, 2, 3, 4] rfl) ?_
      refine Cov.dq (.eql_b Try.underlying4 rfl rfl) rfl ?_
      refine Cov.dq (.move rfl) rfl ?_
      obtain ⟨u33452, h33453, r33454⟩ := bind_some r33439; clear r33439
      refine Cov.cutD 8 (β := Unit) (fun y => [(149, .bool u33452)]) [] (fun y => G33392 :: Fs) (fun y => []) [_, _, _, _, _] (fun y => []) [_] (fun y => True) trivial [0, 1, 2, 3, 4] rfl [0] rfl ?_ ?_
      · rintro _ _
        refine Cov.prune [(149, .bool u33452)] ⟨rfl, trivial⟩ ?_
        refine Cov.same (bl' := [_, _, _, _, _]) (sl' := [_]) (Fs' := G33392 :: Fs) rfl rfl rfl ?_
        refine Cov.dq (.assign rfl) rfl ?_
        refine Cov.draw_end ?_
        cases r33454
        refine Cov.drop 5 0 [] _ rfl rfl ?_
        refine Cov.drop 0 1 _ [] rfl rfl ?_
        refine Cov.retS (c := ⟨7, none⟩) (.inr ⟨_, rfl⟩) [.tmp 10] [_] rfl Try.func7 Try.results7 ⟨RV.tmp rfl, trivial⟩ (fun _ h => List.mem_cons_of_mem _ h) ⟨rfl, rfl, rfl⟩
      · intro hb33451
        refine Cov.split 141 rfl (fun c33450 => ?_) (fun c33450 => ?_)
        · have r33457 := ifT h33453 c33450
          refine Cov.dgq_on rfl ?_
          refine Cov.dq (.load_own_a 1 [_, _, _, _, _, _, _, _] rfl rfl ty35 rfl) rfl ?_
          refine Cov.dgq_on rfl ?_
          refine Cov.dq (.load_own_a 2 [_, _, _, _, _, _, _, _] rfl rfl ty35 rfl) rfl ?_
          refine Cov.dgq_on rfl ?_
          refine Cov.dq (.load_own_a 1 [_, _, _, _, _, _, _, _] rfl rfl ty35 rfl) rfl ?_
          refine Cov.dgq_on rfl ?_
          refine Cov.dq (.load_own_a 2 [_, _, _, _, _, _, _, _] rfl rfl ty35 rfl) rfl ?_
          refine Cov.dge_on rfl ?_
          obtain ⟨u33458, hu33458, r33459⟩ := bind_some r33457; clear r33457
          refine Cov.callS (b1 := []) (b2 := [_, _, _, _, _]) (s1 := []) [_, _] [] .d1 rfl rfl Try.call28 rfl rfl (planner_Better_c (G := G33392) List.mem_cons_self  hu33458) rfl (fun v33461 bo so h33460 => ?_)
          obtain ⟨rfl, rfl, rfl⟩ := h33460
          refine Cov.same (bl' := [_, _, _, _, _]) (sl' := [_]) rfl rfl rfl ?_
          refine Cov.clsL (HpLe.refl _) (pick_mem [0, 1, 2, 3, 4] rfl) ?_
          refine Cov.dge_on rfl ?_
          obtain ⟨u33462, hu33462, r33463⟩ := bind_some r33459; clear r33459
          refine Cov.callS (b1 := []) (b2 := [_, _, _, _, _]) (s1 := []) [_, _] [] .d1 rfl rfl Try.call29 rfl rfl (ref29_Better_c (G := G33392) List.mem_cons_self  hu33462) rfl (fun v33465 bo so h33464 => ?_)
          obtain ⟨rfl, rfl, rfl⟩ := h33464
          refine Cov.same (bl' := [_, _, _, _, _]) (sl' := [_]) rfl rfl rfl ?_
          refine Cov.clsL (HpLe.refl _) (pick_mem [0, 1, 2, 3, 4] rfl) ?_
          refine Cov.dgq_on rfl ?_
          refine Cov.dq (.eql_b Try.underlying4 rfl rfl) rfl ?_
          refine Cov.dq (.pick_t rfl rfl) rfl ?_
          refine Cov.prune _ ?_ (Cov.same rfl rfl rfl (hb33451 () trivial))
          exact ⟨sval r33463, trivial⟩
        · have r33466 := ifF h33453 c33450
          refine Cov.dgq_off rfl rfl rfl ?_
          refine Cov.dgq_off rfl rfl rfl ?_
          refine Cov.dgq_off rfl rfl rfl ?_
          refine Cov.dgq_off rfl rfl rfl ?_
          refine Cov.dge_offL rfl rfl rfl (HpLe.refl _) (pick_mem [0, 1, 2, 3, 4] rfl) ?_
          refine Cov.dge_offL rfl rfl rfl (HpLe.refl _) (pick_mem [0, 1, 2, 3, 4] rfl) ?_
          refine Cov.dgq_off rfl rfl rfl ?_
          refine Cov.dq (.pick_f rfl rfl) rfl ?_
          refine Cov.prune _ ?_ (Cov.same rfl rfl rfl (hb33451 () trivial))
          exact ⟨sval r33466, trivial⟩
    · intro hb33467
      refine Cov.block ?_
      refine Cov.pull 4 rfl [_, _, _, _, _] rfl ?_
      refine Cov.pull 4 rfl [_, _, _, _, _] rfl ?_
      refine Cov.pull 4 rfl [_, _, _, _, _] rfl ?_
      refine Cov.pull 4 rfl [_, _, _, _, _] rfl ?_
      refine Cov.pull 4 rfl [_, _, _, _, _] rfl ?_
      refine Cov.loop2 (α := Nat × (List (Int × Int × Int × Int × Int × Int × Int × (Int × Int × Int))) × Hp × List Int × Option Addr × Nat × Int × Int × Int × Int × Int × Int × Int × Int × Int × Int × Int × Int × Int × Int × Int × Int × Int × Int × Int × Int × Int × Int × Int × Int × Int × Int × Int × Int × Int × Int × Int) (fun y => [(36, .int .i64 (y.1 : Int))]) [(7, _), (8, _), (9, _), (11, _), (34, _), (35, _)] (fun y => [y.2.2.1]) (fun y => [(b16, .cells #[.slice y.2.2.2.2.1 y.2.2.2.1.length y.2.2.2.2.2.1, .int .i64 y.2.2.2.2.2.2.1] 58 (0, 0)), (b4, .cells #[.int .i64 y.2.2.2.2.2.2.2.1, .int .i64 y.2.2.2.2.2.2.2.2.1, .int .i64 y.2.2.2.2.2.2.2.2.2.1, .int .i64 y.2.2.2.2.2.2.2.2.2.2.1, .int .i64 y.2.2.2.2.2.2.2.2.2.2.2.1, .int .i64 y.2.2.2.2.2.2.2.2.2.2.2.2.1, .int .i64 y.2.2.2.2.2.2.2.2.2.2.2.2.2.1, .int .i64 y.2.2.2.2.2.2.2.2.2.2.2.2.2.2.1] 35 (0, 0)), (b3, .cells #[.int .i64 y.2.2.2.2.2.2.2.2.2.2.2.2.2.2.2.1, .int .i64 y.2.2.2.2.2.2.2.2.2.2.2.2.2.2.2.2.1, .int .i64 y.2.2.2.2.2.2.2.2.2.2.2.2.2.2.2.2.2.1, .int .i64 y.2.2.2.2.2.2.2.2.2.2.2.2.2.2.2.2.2.2.1, .int .i64 y.2.2.2.2.2.2.2.2.2.2.2.2.2.2.2.2.2.2.2.1, .int .i64 y.2.2.2.2.2.2.2.2.2.2.2.2.2.2.2.2.2.2.2.2.1, .int .i64 y.2.2.2.2.2.2.2.2.2.2.2.2.2.2.2.2.2.2.2.2.2.1, .int .i64 y.2.2.2.2.2.2.2.2.2.2.2.2.2.2.2.2.2.2.2.2.2.2.1] 35 (0, 0)), (b2, .cells #[.int .i64 y.2.2.2.2.2.2.2.2.2.2.2.2.2.2.2.2.2.2.2.2.2.2.2.1, .int .i64 y.2.2.2.2.2.2.2.2.2.2.2.2.2.2.2.2.2.2.2.2.2.2.2.2.1, .int .i64 y.2.2.2.2.2.2.2.2.2.2.2.2.2.2.2.2.2.2.2.2.2.2.2.2.2.1, .int .i64 y.2.2.2.2.2.2.2.2.2.2.2.2.2.2.2.2.2.2.2.2.2.2.2.2.2.2.1] 33 (0, 0)), (b1, .cells #[.int .i64 y.2.2.2.2.2.2.2.2.2.2.2.2.2.2.2.2.2.2.2.2.2.2.2.2.2.2.2.1, .int .i64 y.2.2.2.2.2.2.2.2.2.2.2.2.2.2.2.2.2.2.2.2.2.2.2.2.2.2.2.2.1, .int .i64 y.2.2.2.2.2.2.2.2.2.2.2.2.2.2.2.2.2.2.2.2.2.2.2.2.2.2.2.2.2.1, .int .i64 y.2.2.2.2.2.2.2.2.2.2.2.2.2.2.2.2.2.2.2.2.2.2.2.2.2.2.2.2.2.2.1, .int .i64 y.2.2.2.2.2.2.2.2.2.2.2.2.2.2.2.2.2.2.2.2.2.2.2.2.2.2.2.2.2.2.2.1, .int .i64 y.2.2.2.2.2.2.2.2.2.2.2.2.2.2.2.2.2.2.2.2.2.2.2.2.2.2.2.2.2.2.2.2.1, .int .i64 y.2.2.2.2.2.2.2.2.2.2.2.2.2.2.2.2.2.2.2.2.2.2.2.2.2.2.2.2.2.2.2.2.2.1, .int .i64 y.2.2.2.2.2.2.2.2.2.2.2.2.2.2.2.2.2.2.2.2.2.2.2.2.2.2.2.2.2.2.2.2.2.2.1, .int .i64 y.2.2.2.2.2.2.2.2.2.2.2.2.2.2.2.2.2.2.2.2.2.2.2.2.2.2.2.2.2.2.2.2.2.2.2.1, .int .i64 y.2.2.2.2.2.2.2.2.2.2.2.2.2.2.2.2.2.2.2.2.2.2.2.2.2.2.2.2.2.2.2.2.2.2.2.2] 29 (0, 0))]) [] (fun y => []) [_] (fun y => HpLe G y.2.2.1 ∧ Bd w0 S0 Fs y.2.2.1 ∧ SlR (Rep.int .u8) y.2.2.1 y.2.2.2.2.1 y.2.2.2.2.2.1 y.2.2.2.1 ∧ List.drop y.1 ([(x1_0, x1_1, x1_2, x1_3, x1_4, x1_5, x1_6, (x1_7, x1_8, x1_9)), u20.1, u27.1] : List (Int × Int × Int × Int × Int × Int × Int × (Int × Int × Int))) = y.2.1 ∧ law29_PlannerSteps_L4 law29_PlannerSteps_J1 y.2.1 y.2.2.2.1 y.2.2.2.2.2.2.1 y.2.2.2.2.2.2.2.1 y.2.2.2.2.2.2.2.2.1 y.2.2.2.2.2.2.2.2.2.1 y.2.2.2.2.2.2.2.2.2.2.1 y.2.2.2.2.2.2.2.2.2.2.2.1 y.2.2.2.2.2.2.2.2.2.2.2.2.1 y.2.2.2.2.2.2.2.2.2.2.2.2.2.1 y.2.2.2.2.2.2.2.2.2.2.2.2.2.2.1 y.2.2.2.2.2.2.2.2.2.2.2.2.2.2.2.1 y.2.2.2.2.2.2.2.2.2.2.2.2.2.2.2.2.1 y.2.2.2.2.2.2.2.2.2.2.2.2.2.2.2.2.2.1 y.2.2.2.2.2.2.2.2.2.2.2.2.2.2.2.2.2.2.1 y.2.2.2.2.2.2.2.2.2.2.2.2.2.2.2.2.2.2.2.1 y.2.2.2.2.2.2.2.2.2.2.2.2.2.2.2.2.2.2.2.2.1 y.2.2.2.2.2.2.2.2.2.2.2.2.2.2.2.2.2.2.2.2.2.1 y.2.2.2.2.2.2.2.2.2.2.2.2.2.2.2.2.2.2.2.2.2.2.1 y.2.2.2.2.2.2.2.2.2.2.2.2.2.2.2.2.2.2.2.2.2.2.2.1 y.2.2.2.2.2.2.2.2.2.2.2.2.2.2.2.2.2.2.2.2.2.2.2.2.1 y.2.2.2.2.2.2.2.2.2.2.2.2.2.2.2.2.2.2.2.2.2.2.2.2.2.1 y.2.2.2.2.2.2.2.2.2.2.2.2.2.2.2.2.2.2.2.2.2.2.2.2.2.2.1 y.2.2.2.2.2.2.2.2.2.2.2.2.2.2.2.2.2.2.2.2.2.2.2.2.2.2.2.1 y.2.2.2.2.2.2.2.2.2.2.2.2.2.2.2.2.2.2.2.2.2.2.2.2.2.2.2.2.1 y.2.2.2.2.2.2.2.2.2.2.2.2.2.2.2.2.2.2.2.2.2.2.2.2.2.2.2.2.2.1 y.2.2.2.2.2.2.2.2.2.2.2.2.2.2.2.2.2.2.2.2.2.2.2.2.2.2.2.2.2.2.1 y.2.2.2.2.2.2.2.2.2.2.2.2.2.2.2.2.2.2.2.2.2.2.2.2.2.2.2.2.2.2.2.1 y.2.2.2.2.2.2.2.2.2.2.2.2.2.2.2.2.2.2.2.2.2.2.2.2.2.2.2.2.2.2.2.2.1 y.2.2.2.2.2.2.2.2.2.2.2.2.2.2.2.2.2.2.2.2.2.2.2.2.2.2.2.2.2.2.2.2.2.1 y.2.2.2.2.2.2.2.2.2.2.2.2.2.2.2.2.2.2.2.2.2.2.2.2.2.2.2.2.2.2.2.2.2.2.1 y.2.2.2.2.2.2.2.2.2.2.2.2.2.2.2.2.2.2.2.2.2.2.2.2.2.2.2.2.2.2.2.2.2.2.2.1 y.2.2.2.2.2.2.2.2.2.2.2.2.2.2.2.2.2.2.2.2.2.2.2.2.2.2.2.2.2.2.2.2.2.2.2.2 = some r) (fun y => y.2.1.length) (0, ([(x1_0, x1_1, x1_2, x1_3, x1_4, x1_5, x1_6, (x1_7, x1_8, x1_9)), u20.1, u27.1] : List (Int × Int × Int × Int × Int × Int × Int × (Int × Int × Int))), G, u27.2.1, a31, k32, u27.2.2, x4_0, x4_1, x4_2, x4_3, x4_4, x4_5, x4_6, x4_7, x3_0, x3_1, x3_2, x3_3, x3_4, x3_5, x3_6, x3_7, x2_0, x2_1, x2_2, x2_3, x1_0, x1_1, x1_2, x1_3, x1_4, x1_5, x1_6, x1_7, x1_8, x1_9) ⟨(HpLe.refl _), B0, s33, rfl, r28⟩ ⟨rfl, rfl, rfl, rfl, rfl, rfl, rfl, trivial⟩ rfl rfl rfl (fun y hI hb50182 => ?_)
      obtain ⟨i50139, w50140, G50142, v50146, a50147, k50148, v50150, v50151, v50152, v50153, v50154, v50155, v50156, v50157, v50158, v50159, v50160, v50161, v50162, v50163, v50164, v50165, v50166, v50167, v50168, v50169, v50170, v50171, v50172, v50173, v50174, v50175, v50176, v50177, v50178, v50179, v50180⟩ := y
      obtain ⟨e50143, B50144, s50149, g50141, r50181⟩ := hI
      try dsimp only at e50143 B50144 s50149 g50141 r50181
      refine Cov.prune [(36, .int .i64 (i50139 : Int)), (7, _), (8, _), (9, _), (11, _), (34, _), (35, _)] ⟨rfl, rfl, rfl, rfl, rfl, rfl, rfl, trivial⟩ ?_
      refine Cov.same (bl' := [(b16, .cells #[.slice a50147 v50146.length k50148, .int .i64 v50150] 58 (0, 0)), (b4, .cells #[.int .i64 v50151, .int .i64 v50152, .int .i64 v50153, .int .i64 v50154, .int .i64 v50155, .int .i64 v50156, .int .i64 v50157, .int .i64 v50158] 35 (0, 0)), (b3, .cells #[.int .i64 v50159, .int .i64 v50160, .int .i64 v50161, .int .i64 v50162, .int .i64 v50163, .int .i64 v50164, .int .i64 v50165, .int .i64 v50166] 35 (0, 0)), (b2, .cells #[.int .i64 v50167, .int .i64 v50168, .int .i64 v50169, .int .i64 v50170] 33 (0, 0)), (b1, .cells #[.int .i64 v50171, .int .i64 v50172, .int .i64 v50173, .int .i64 v50174, .int .i64 v50175, .int .i64 v50176, .int .i64 v50177, .int .i64 v50178, .int .i64 v50179, .int .i64 v50180] 29 (0, 0))]) (sl' := [_]) (Fs' := G50142 :: Fs) rfl rfl rfl ?_
      cases w50140 with
      | nil =>
        rw [law29_PlannerSteps_L4] at r50181; try dsimp only at r50181
        refine Cov.seq ?_
        refine Cov.region rfl ?_
        refine Cov.q .ro (.lss rfl rfl) rfl ?_
        refine Cov.region_end ?_
        refine Cov.seq ?_
        refine Cov.cond_dec rfl (fun c => absurd c (drop_nil g50141)) (fun _ => ?_)
        refine Cov.exit rfl ?_
        refine Cov.prune _ ?_ (Cov.same rfl rfl rfl (hb33467 (G50142, v50146, a50147, k50148, v50150, v50151, v50152, v50153, v50154, v50155, v50156, v50157, v50158, v50159, v50160, v50161, v50162, v50163, v50164, v50165, v50166, v50167, v50168, v50169, v50170, v50171, v50172, v50173, v50174, v50175, v50176, v50177, v50178, v50179, v50180) ⟨e50143, B50144, s50149, r50181⟩))
        exact ⟨rfl, rfl, trivial⟩
      | cons x50186 xs50187 =>
        have r50185 : law29_PlannerSteps_B4 law29_PlannerSteps_J1 (law29_PlannerSteps_L4 law29_PlannerSteps_J1 xs50187) x50186 v50146 v50150 v50151 v50152 v50153 v50154 v50155 v50156 v50157 v50158 v50159 v50160 v50161 v50162 v50163 v50164 v50165 v50166 v50167 v50168 v50169 v50170 v50171 v50172 v50173 v50174 v50175 v50176 v50177 v50178 v50179 v50180 = some r := r50181; clear r50181; unfold law29_PlannerSteps_B4 at r50185; try dsimp only at r50185
        refine Cov.seq ?_
        refine Cov.region rfl ?_
        refine Cov.q .ro (.lss rfl rfl) rfl ?_
        refine Cov.region_end ?_
        refine Cov.seq ?_
        refine Cov.cond_dec rfl (fun _ => ?_) (fun c => absurd (drop_lt g50141) c)
        refine Cov.skip ?_
        refine Cov.seq ?_
        refine Cov.block ?_
        refine Cov.seq ?_
        refine Cov.region rfl ?_
        obtain ⟨c50188, p50189, h50190⟩ := OL.get (OL.mono e50143 o35) (drop_idx g50141)
        obtain ⟨_, _, rfl, rfl, _, _, rfl, rfl, _, _, rfl, rfl, _, _, rfl, rfl, _, _, rfl, rfl, _, _, rfl, rfl, _, _, rfl, rfl, _, _, rfl, rfl, _, _, rfl, rfl, rfl⟩ := h50190
        refine Cov.q .ro (.idxO 0 rfl rfl rfl (drop_idx g50141) sl52 ty29.sz) rfl ?_
        refine Cov.q .ro (.loadO_a 0 0 [_, _, _, _, _, _, _, _, _, _] rfl (drop_idx g50141) p50189 rfl (.inl ⟨rfl, rfl⟩) ty29 rfl) rfl ?_
        refine Cov.alloc .ro ty29 rfl (fun b50191 hb50191 => ?_)
        refine Cov.store 0 [_, _, _, _, _, _, _, _, _, _] [_, _, _, _, _, _] .ro rfl rfl rfl ty29 rfl rfl rfl rfl ?_
        refine Cov.region_end ?_
        refine Cov.seq ?_
        refine Cov.seq ?_
        refine Cov.drawL (.q 0 (.q 2 (.e 1 1 (.e 3 1 (.q 4 .nil))))) [_, _, _, _, _, _] (by kernel_rfl) (by kernel_rfl) (pick_mem [0, 1, 2, 3, 4, 5] rfl) ?_
        refine Cov.dq (.load_own_a 0 [_, _, _, _, _, _, _, _, _, _] rfl rfl ty29 rfl) rfl ?_
        refine Cov.dq (.load_own_a 0 [_, _, _, _, _, _, _, _, _, _] rfl rfl ty29 rfl) rfl ?_
        obtain ⟨u50192, hu50192, r50193⟩ := bind_some r50185; clear r50185
        refine Cov.callS (b1 := []) (b2 := [_, _, _, _, _, _]) (s1 := []) [_] [] .d1 rfl rfl Try.call11 rfl rfl (planner_Valid_c (G := G50142) List.mem_cons_self  hu50192) rfl (fun v50195 bo so h50194 => ?_)
        obtain ⟨rfl, rfl, rfl⟩ := h50194
        refine Cov.same (bl' := [_, _, _, _, _, _]) (sl' := [_]) rfl rfl rfl ?_
        refine Cov.clsL (HpLe.refl _) (pick_mem [0, 1, 2, 3, 4, 5] rfl) ?_
        obtain ⟨u50196, hu50196, r50197⟩ := bind_some r50193; clear r50193
        refine Cov.callS (b1 := []) (b2 := [_, _, _, _, _, _]) (s1 := []) [_] [] .d1 rfl rfl Try.call22 rfl rfl (ref29_Valid_c (G := G50142) List.mem_cons_self  hu50196) rfl (fun v50199 bo so h50198 => ?_)
        obtain ⟨rfl, rfl, rfl⟩ := h50198
        refine Cov.same (bl' := [_, _, _, _, _, _]) (sl' := [_]) rfl rfl rfl ?_
        refine Cov.clsL (HpLe.refl _) (pick_mem [0, 1, 2, 3, 4, 5] rfl) ?_
        refine Cov.dq (.neq_b Try.underlying4 rfl rfl) rfl ?_
        refine Cov.draw_end ?_
        refine Cov.cond_dec rfl (fun c50200 => ?_) (fun c50200 => ?_)
        · have r50201 := ifT r50197 c50200; clear r50197
          refine Cov.seq ?_
          refine Cov.region rfl ?_
          refine Cov.q .ro (.assign rfl) rfl ?_
          refine Cov.region_end ?_
          refine Cov.prune [(10, _)] ⟨rfl, trivial⟩ ?_
          cases r50201
          refine Cov.drop 6 0 [] _ rfl rfl ?_
          refine Cov.drop 0 1 _ [] rfl rfl ?_
          refine Cov.retS (c := ⟨7, none⟩) (.inr ⟨_, rfl⟩) [.tmp 10] [_] rfl Try.func7 Try.results7 ⟨RV.tmp rfl, trivial⟩ (fun _ h => List.mem_cons_of_mem _ h) ⟨rfl, rfl, rfl⟩
        · have r50202 := ifF r50197 c50200; clear r50197
          refine Cov.skip ?_
          refine Cov.seq ?_
          refine Cov.seq ?_
          refine Cov.drawL (.q 0 (.q 1 (.q 3 (.q 7 (.e 2 1 (.e 4 1 (.e 5 1 (.q 6 .nil)))))))) [_, _, _, _, _] (by kernel_rfl) (by kernel_rfl) (pick_mem [0, 2, 3, 4, 5] rfl) ?_
          refine Cov.dq (.load_own_a 3 [_, _, _, _] rfl rfl ty33 rfl) rfl ?_
          refine Cov.dq (.move rfl) rfl ?_
          refine Cov.dq (.move rfl) rfl ?_
          refine Cov.dq (.move rfl) rfl ?_
          obtain ⟨u50203, hu50203, r50204⟩ := bind_some r50202; clear r50202
          refine Cov.pull 1 rfl [_, _, _, _, _, _] rfl ?_
          refine Cov.callS (b1 := [_]) (b2 := [_, _, _, _, _]) (s1 := []) [_] [] .d1 rfl rfl Try.call17 rfl rfl (play_Dice_Odd_c (G := G50142) List.mem_cons_self s50149 hu50203) rfl (fun v50206 bo so h50205 => ?_)
          obtain ⟨a50207, k50208, rfl, rfl, rfl, s50209⟩ := h50205
          refine Cov.same (bl' := [_, _, _, _, _, _]) (sl' := [_]) rfl rfl rfl ?_
          refine Cov.clsL (HpLe.refl _) (pick_mem [1, 2, 3, 4, 5] rfl) ?_
          obtain ⟨u50210, hu50210, r50211⟩ := bind_some r50204; clear r50204
          refine Cov.callS (b1 := [_]) (b2 := [_, _, _, _, _]) (s1 := []) [_] [] .d1 rfl rfl Try.call19 rfl rfl (play_Dice_Scheme_c (G := G50142) List.mem_cons_self s50209 hu50210) rfl (fun v50213 bo so h50212 => ?_)
          obtain ⟨a50214, k50215, rfl, rfl, rfl, s50216⟩ := h50212
          refine Cov.same (bl' := [_, _, _, _, _, _]) (sl' := [_]) rfl rfl rfl ?_
          refine Cov.clsL (HpLe.refl _) (pick_mem [1, 2, 3, 4, 5] rfl) ?_
          refine Cov.lit [_, _, _, _, _, _, _, _, _, _, _, _] [(0, _), (1, _), (2, _)] .d1 sl53 ty33 rfl rfl rfl rfl rfl rfl (fun b50217 hb50217 => ?_)
          have o50218 : OL (Rep.pair (Rep.int .i64) (Rep.pair (Rep.int .i64) (Rep.pair (Rep.int .i64) (Rep.int .i64)))) G50142 [.int .i64 v50167, .int .i64 v50168, .int .i64 v50169, .int .i64 v50170, .int .i64 u50203.1.1, .int .i64 u50203.1.2.1, .int .i64 u50203.1.2.2.1, .int .i64 u50203.1.2.2.2, .int .i64 u50210.1.1, .int .i64 u50210.1.2.1, .int .i64 u50210.1.2.2.1, .int .i64 u50210.1.2.2.2] ([(v50167, v50168, v50169, v50170), u50203.1, u50210.1] : List (Int × Int × Int × Int)) := ((OL.cons rfl (Rep.pairI (Rep.intI .i64 v50167) (Rep.pairI (Rep.intI .i64 v50168) (Rep.pairI (Rep.intI .i64 v50169) (Rep.intI .i64 v50170)))) (OL.cons rfl (Rep.pairI (Rep.intI .i64 u50203.1.1) (Rep.pairI (Rep.intI .i64 u50203.1.2.1) (Rep.pairI (Rep.intI .i64 u50203.1.2.2.1) (Rep.intI .i64 u50203.1.2.2.2)))) (OL.cons rfl (Rep.pairI (Rep.intI .i64 u50210.1.1) (Rep.pairI (Rep.intI .i64 u50210.1.2.1) (Rep.pairI (Rep.intI .i64 u50210.1.2.2.1) (Rep.intI .i64 u50210.1.2.2.2)))) (OL.nil (Rp' := (Rep.pair (Rep.int .i64) (Rep.pair (Rep.int .i64) (Rep.pair (Rep.int .i64) (Rep.int .i64))))))))) :)
          refine Cov.reval 50 (n' := ([(v50167, v50168, v50169, v50170), u50203.1, u50210.1] : List (Int × Int × Int × Int)).length) rfl rfl ?_
          refine Cov.clsL (HpLe.refl _) (pick_mem [1, 2, 3, 4, 5] rfl) ?_
          refine Cov.dq (.len_sl rfl rfl sl53) rfl ?_
          refine Cov.draw_end ?_
          refine Cov.prune [(36, _), (7, _), (8, _), (9, _), (11, _), (34, _), (35, _), (13, _), (52, _), (50, _), (51, _)] ⟨rfl, rfl, rfl, rfl, rfl, rfl, rfl, rfl, rfl, rfl, rfl, trivial⟩ ?_
          refine Cov.cutB (β := Int × Int × Int × Int × Int × Int × Int × Int × Int × Int × Int × Int × Int × Int × Int × Int × Int × Int × Int × Int × Int × Int × Int × Int × Int × Int × Int × Int × Int × Int × Int × Int × Int × Int × Int × Int × Int × Int × Int × Int × Int) (fun y => []) [(36, _), (7, _), (8, _), (9, _), (11, _), (34, _), (35, _), (13, _)] (fun y => G50142 :: Fs) (fun y => [(b16, .cells #[.slice a50214 u50210.2.1.length k50215, .int .i64 y.1] 58 (0, 0)), (b50191, .cells #[.int .i64 y.2.1, .int .i64 y.2.2.1, .int .i64 y.2.2.2.1, .int .i64 y.2.2.2.2.1, .int .i64 y.2.2.2.2.2.1, .int .i64 y.2.2.2.2.2.2.1, .int .i64 y.2.2.2.2.2.2.2.1, .int .i64 y.2.2.2.2.2.2.2.2.1, .int .i64 y.2.2.2.2.2.2.2.2.2.1, .int .i64 y.2.2.2.2.2.2.2.2.2.2.1] 29 (0, 0)), (b4, .cells #[.int .i64 y.2.2.2.2.2.2.2.2.2.2.2.1, .int .i64 y.2.2.2.2.2.2.2.2.2.2.2.2.1, .int .i64 y.2.2.2.2.2.2.2.2.2.2.2.2.2.1, .int .i64 y.2.2.2.2.2.2.2.2.2.2.2.2.2.2.1, .int .i64 y.2.2.2.2.2.2.2.2.2.2.2.2.2.2.2.1, .int .i64 y.2.2.2.2.2.2.2.2.2.2.2.2.2.2.2.2.1, .int .i64 y.2.2.2.2.2.2.2.2.2.2.2.2.2.2.2.2.2.1, .int .i64 y.2.2.2.2.2.2.2.2.2.2.2.2.2.2.2.2.2.2.1] 35 (0, 0)), (b3, .cells #[.int .i64 y.2.2.2.2.2.2.2.2.2.2.2.2.2.2.2.2.2.2.2.1, .int .i64 y.2.2.2.2.2.2.2.2.2.2.2.2.2.2.2.2.2.2.2.2.1, .int .i64 y.2.2.2.2.2.2.2.2.2.2.2.2.2.2.2.2.2.2.2.2.2.1, .int .i64 y.2.2.2.2.2.2.2.2.2.2.2.2.2.2.2.2.2.2.2.2.2.2.1, .int .i64 y.2.2.2.2.2.2.2.2.2.2.2.2.2.2.2.2.2.2.2.2.2.2.2.1, .int .i64 y.2.2.2.2.2.2.2.2.2.2.2.2.2.2.2.2.2.2.2.2.2.2.2.2.1, .int .i64 y.2.2.2.2.2.2.2.2.2.2.2.2.2.2.2.2.2.2.2.2.2.2.2.2.2.1, .int .i64 y.2.2.2.2.2.2.2.2.2.2.2.2.2.2.2.2.2.2.2.2.2.2.2.2.2.2.1] 35 (0, 0)), (b2, .cells #[.int .i64 y.2.2.2.2.2.2.2.2.2.2.2.2.2.2.2.2.2.2.2.2.2.2.2.2.2.2.2.1, .int .i64 y.2.2.2.2.2.2.2.2.2.2.2.2.2.2.2.2.2.2.2.2.2.2.2.2.2.2.2.2.1, .int .i64 y.2.2.2.2.2.2.2.2.2.2.2.2.2.2.2.2.2.2.2.2.2.2.2.2.2.2.2.2.2.1, .int .i64 y.2.2.2.2.2.2.2.2.2.2.2.2.2.2.2.2.2.2.2.2.2.2.2.2.2.2.2.2.2.2.1] 33 (0, 0)), (b1, .cells #[.int .i64 y.2.2.2.2.2.2.2.2.2.2.2.2.2.2.2.2.2.2.2.2.2.2.2.2.2.2.2.2.2.2.2.1, .int .i64 y.2.2.2.2.2.2.2.2.2.2.2.2.2.2.2.2.2.2.2.2.2.2.2.2.2.2.2.2.2.2.2.2.1, .int .i64 y.2.2.2.2.2.2.2.2.2.2.2.2.2.2.2.2.2.2.2.2.2.2.2.2.2.2.2.2.2.2.2.2.2.1, .int .i64 y.2.2.2.2.2.2.2.2.2.2.2.2.2.2.2.2.2.2.2.2.2.2.2.2.2.2.2.2.2.2.2.2.2.2.1, .int .i64 y.2.2.2.2.2.2.2.2.2.2.2.2.2.2.2.2.2.2.2.2.2.2.2.2.2.2.2.2.2.2.2.2.2.2.2.1, .int .i64 y.2.2.2.2.2.2.2.2.2.2.2.2.2.2.2.2.2.2.2.2.2.2.2.2.2.2.2.2.2.2.2.2.2.2.2.2.1, .int .i64 y.2.2.2.2.2.2.2.2.2.2.2.2.2.2.2.2.2.2.2.2.2.2.2.2.2.2.2.2.2.2.2.2.2.2.2.2.2.1, .int .i64 y.2.2.2.2.2.2.2.2.2.2.2.2.2.2.2.2.2.2.2.2.2.2.2.2.2.2.2.2.2.2.2.2.2.2.2.2.2.2.1, .int .i64 y.2.2.2.2.2.2.2.2.2.2.2.2.2.2.2.2.2.2.2.2.2.2.2.2.2.2.2.2.2.2.2.2.2.2.2.2.2.2.2.1, .int .i64 y.2.2.2.2.2.2.2.2.2.2.2.2.2.2.2.2.2.2.2.2.2.2.2.2.2.2.2.2.2.2.2.2.2.2.2.2.2.2.2.2] 29 (0, 0))]) [] (fun y => []) [_, _] (fun y => (law29_PlannerSteps_J2 (law29_PlannerSteps_L4 law29_PlannerSteps_J1 xs50187) u50210.2.1) y.1 y.2.1 y.2.2.1 y.2.2.2.1 y.2.2.2.2.1 y.2.2.2.2.2.1 y.2.2.2.2.2.2.1 y.2.2.2.2.2.2.2.1 y.2.2.2.2.2.2.2.2.1 y.2.2.2.2.2.2.2.2.2.1 y.2.2.2.2.2.2.2.2.2.2.1 y.2.2.2.2.2.2.2.2.2.2.2.1 y.2.2.2.2.2.2.2.2.2.2.2.2.1 y.2.2.2.2.2.2.2.2.2.2.2.2.2.1 y.2.2.2.2.2.2.2.2.2.2.2.2.2.2.1 y.2.2.2.2.2.2.2.2.2.2.2.2.2.2.2.1 y.2.2.2.2.2.2.2.2.2.2.2.2.2.2.2.2.1 y.2.2.2.2.2.2.2.2.2.2.2.2.2.2.2.2.2.1 y.2.2.2.2.2.2.2.2.2.2.2.2.2.2.2.2.2.2.1 y.2.2.2.2.2.2.2.2.2.2.2.2.2.2.2.2.2.2.2.1 y.2.2.2.2.2.2.2.2.2.2.2.2.2.2.2.2.2.2.2.2.1 y.2.2.2.2.2.2.2.2.2.2.2.2.2.2.2.2.2.2.2.2.2.1 y.2.2.2.2.2.2.2.2.2.2.2.2.2.2.2.2.2.2.2.2.2.2.1 y.2.2.2.2.2.2.2.2.2.2.2.2.2.2.2.2.2.2.2.2.2.2.2.1 y.2.2.2.2.2.2.2.2.2.2.2.2.2.2.2.2.2.2.2.2.2.2.2.2.1 y.2.2.2.2.2.2.2.2.2.2.2.2.2.2.2.2.2.2.2.2.2.2.2.2.2.1 y.2.2.2.2.2.2.2.2.2.2.2.2.2.2.2.2.2.2.2.2.2.2.2.2.2.2.1 y.2.2.2.2.2.2.2.2.2.2.2.2.2.2.2.2.2.2.2.2.2.2.2.2.2.2.2.1 y.2.2.2.2.2.2.2.2.2.2.2.2.2.2.2.2.2.2.2.2.2.2.2.2.2.2.2.2.1 y.2.2.2.2.2.2.2.2.2.2.2.2.2.2.2.2.2.2.2.2.2.2.2.2.2.2.2.2.2.1 y.2.2.2.2.2.2.2.2.2.2.2.2.2.2.2.2.2.2.2.2.2.2.2.2.2.2.2.2.2.2.1 y.2.2.2.2.2.2.2.2.2.2.2.2.2.2.2.2.2.2.2.2.2.2.2.2.2.2.2.2.2.2.2.1 y.2.2.2.2.2.2.2.2.2.2.2.2.2.2.2.2.2.2.2.2.2.2.2.2.2.2.2.2.2.2.2.2.1 y.2.2.2.2.2.2.2.2.2.2.2.2.2.2.2.2.2.2.2.2.2.2.2.2.2.2.2.2.2.2.2.2.2.1 y.2.2.2.2.2.2.2.2.2.2.2.2.2.2.2.2.2.2.2.2.2.2.2.2.2.2.2.2.2.2.2.2.2.2.1 y.2.2.2.2.2.2.2.2.2.2.2.2.2.2.2.2.2.2.2.2.2.2.2.2.2.2.2.2.2.2.2.2.2.2.2.1 y.2.2.2.2.2.2.2.2.2.2.2.2.2.2.2.2.2.2.2.2.2.2.2.2.2.2.2.2.2.2.2.2.2.2.2.2.1 y.2.2.2.2.2.2.2.2.2.2.2.2.2.2.2.2.2.2.2.2.2.2.2.2.2.2.2.2.2.2.2.2.2.2.2.2.2.1 y.2.2.2.2.2.2.2.2.2.2.2.2.2.2.2.2.2.2.2.2.2.2.2.2.2.2.2.2.2.2.2.2.2.2.2.2.2.2.1 y.2.2.2.2.2.2.2.2.2.2.2.2.2.2.2.2.2.2.2.2.2.2.2.2.2.2.2.2.2.2.2.2.2.2.2.2.2.2.2.1 y.2.2.2.2.2.2.2.2.2.2.2.2.2.2.2.2.2.2.2.2.2.2.2.2.2.2.2.2.2.2.2.2.2.2.2.2.2.2.2.2 = some r) ⟨rfl, rfl, rfl, rfl, rfl, rfl, rfl, rfl, trivial⟩ [] rfl [0, 1] rfl ?_ ?_
          · intro y hI
            obtain ⟨v50406, v50407, v50408, v50409, v50410, v50411, v50412, v50413, v50414, v50415, v50416, v50417, v50418, v50419, v50420, v50421, v50422, v50423, v50424, v50425, v50426, v50427, v50428, v50429, v50430, v50431, v50432, v50433, v50434, v50435, v50436, v50437, v50438, v50439, v50440, v50441, v50442, v50443, v50444, v50445, v50446⟩ := y
            have r50448 := hI; clear hI
            try dsimp only at r50448
            refine Cov.prune [(36, _), (7, _), (8, _), (9, _), (11, _), (34, _), (35, _), (13, _)] ⟨rfl, rfl, rfl, rfl, rfl, rfl, rfl, rfl, trivial⟩ ?_
            refine Cov.same (bl' := [(b16, .cells #[.slice a50214 u50210.2.1.length k50215, .int .i64 v50406] 58 (0, 0)), (b50191, .cells #[.int .i64 v50407, .int .i64 v50408, .int .i64 v50409, .int .i64 v50410, .int .i64 v50411, .int .i64 v50412, .int .i64 v50413, .int .i64 v50414, .int .i64 v50415, .int .i64 v50416] 29 (0, 0)), (b4, .cells #[.int .i64 v50417, .int .i64 v50418, .int .i64 v50419, .int .i64 v50420, .int .i64 v50421, .int .i64 v50422, .int .i64 v50423, .int .i64 v50424] 35 (0, 0)), (b3, .cells #[.int .i64 v50425, .int .i64 v50426, .int .i64 v50427, .int .i64 v50428, .int .i64 v50429, .int .i64 v50430, .int .i64 v50431, .int .i64 v50432] 35 (0, 0)), (b2, .cells #[.int .i64 v50433, .int .i64 v50434, .int .i64 v50435, .int .i64 v50436] 33 (0, 0)), (b1, .cells #[.int .i64 v50437, .int .i64 v50438, .int .i64 v50439, .int .i64 v50440, .int .i64 v50441, .int .i64 v50442, .int .i64 v50443, .int .i64 v50444, .int .i64 v50445, .int .i64 v50446] 29 (0, 0))]) (sl' := [_, _]) (Fs' := G50142 :: Fs) rfl rfl rfl ?_
            unfold law29_PlannerSteps_J2 at r50448
            try dsimp only at r50448
            refine Cov.seq ?_
            refine Cov.region rfl ?_
            refine Cov.q .ro (.load_own_a 1 [_, _, _, _, _, _, _, _, _, _] rfl rfl ty29 rfl) rfl ?_
            obtain ⟨u50454, hu50454, r50455⟩ := bind_some r50448; clear r50448
            refine Cov.callS (b1 := []) (b2 := [_, _, _, _, _, _]) (s1 := []) [_] [] .ro rfl rfl Try.call13 rfl rfl (planner_Candidates_c (G := G50142) List.mem_cons_self  hu50454) rfl (fun v50457 bo so h50456 => ?_)
            obtain ⟨a50459, k50460, cs50461, rfl, rfl, rfl, o50462⟩ := h50456
            refine Cov.same (bl' := [_, _, _, _, _, _]) (sl' := [_, _, _]) rfl rfl rfl ?_
            refine Cov.q .ro (.move rfl) rfl ?_
            refine Cov.q .ro (.extract rfl rfl) rfl ?_
            refine Cov.q .ro (.extract rfl rfl) rfl ?_
            refine Cov.q .ro (.assign rfl) rfl ?_
            refine Cov.q .ro (.assign rfl) rfl ?_
            refine Cov.region_end ?_
            refine Cov.seq ?_
            refine Cov.region rfl ?_
            refine Cov.q .ro (.load_own_a 1 [_, _, _, _, _, _, _, _, _, _] rfl rfl ty29 rfl) rfl ?_
            obtain ⟨u50463, hu50463, r50464⟩ := bind_some r50455; clear r50455
            refine Cov.callS (b1 := []) (b2 := [_, _, _, _, _, _]) (s1 := []) [_] [] .ro rfl rfl Try.call24 rfl rfl (ref29_Candidates_c (G := G50142) List.mem_cons_self  hu50463) rfl (fun v50466 bo so h50465 => ?_)
            obtain ⟨a50468, k50469, cs50470, rfl, rfl, rfl, o50471⟩ := h50465
            refine Cov.same (bl' := [_, _, _, _, _, _]) (sl' := [_, _, _, _]) rfl rfl rfl ?_
            refine Cov.q .ro (.move rfl) rfl ?_
            refine Cov.q .ro (.extract rfl rfl) rfl ?_
            refine Cov.q .ro (.extract rfl rfl) rfl ?_
            refine Cov.q .ro (.assign rfl) rfl ?_
            refine Cov.q .ro (.assign rfl) rfl ?_
            refine Cov.region_end ?_
            refine Cov.seq ?_
            refine Cov.region rfl ?_
            refine Cov.q .ro (.load_own_a 1 [_, _, _, _, _, _, _, _, _, _] rfl rfl ty29 rfl) rfl ?_
            obtain ⟨u50472, hu50472, r50473⟩ := bind_some r50464; clear r50464
            refine Cov.callS (b1 := []) (b2 := [_, _, _, _, _, _]) (s1 := []) [_] [] .ro rfl rfl Try.call12 rfl rfl (planner_Best_c (G := G50142) List.mem_cons_self  hu50472) rfl (fun v50475 bo so h50474 => ?_)
            obtain ⟨rfl, rfl, rfl⟩ := h50474
            refine Cov.same (bl' := [_, _, _, _, _, _]) (sl' := [_, _, _, _]) rfl rfl rfl ?_
            refine Cov.q .ro (.move rfl) rfl ?_
            refine Cov.q .ro (.extract rfl rfl) rfl ?_
            refine Cov.q .ro (.extract rfl rfl) rfl ?_
            refine Cov.alloc .ro ty35 rfl (fun b50476 hb50476 => ?_)
            refine Cov.store 0 [_, _, _, _, _, _, _, _] [_, _, _, _, _, _, _] .ro rfl rfl rfl ty35 rfl rfl rfl rfl ?_
            refine Cov.q .ro (.assign rfl) rfl ?_
            refine Cov.region_end ?_
            refine Cov.prune [(36, _), (7, _), (8, _), (9, _), (11, _), (34, _), (35, _), (13, _), (17, _), (18, _), (19, _), (20, _), (21, _), (22, _)] ⟨rfl, rfl, rfl, rfl, rfl, rfl, rfl, rfl, rfl, rfl, rfl, rfl, rfl, rfl, trivial⟩ ?_
            refine Cov.seq ?_
            refine Cov.region rfl ?_
            refine Cov.q .ro (.load_own_a 2 [_, _, _, _, _, _, _, _, _, _] rfl rfl ty29 rfl) rfl ?_
            obtain ⟨u50477, hu50477, r50478⟩ := bind_some r50473; clear r50473
            refine Cov.callS (b1 := []) (b2 := [_, _, _, _, _, _, _]) (s1 := []) [_] [] .ro rfl rfl Try.call25 rfl rfl (ref29_Best_c (G := G50142) List.mem_cons_self  hu50477) rfl (fun v50480 bo so h50479 => ?_)
            obtain ⟨rfl, rfl, rfl⟩ := h50479
            refine Cov.same (bl' := [_, _, _, _, _, _, _]) (sl' := [_, _, _, _]) rfl rfl rfl ?_
            refine Cov.q .ro (.move rfl) rfl ?_
            refine Cov.q .ro (.extract rfl rfl) rfl ?_
            refine Cov.q .ro (.extract rfl rfl) rfl ?_
            refine Cov.alloc .ro ty35 rfl (fun b50481 hb50481 => ?_)
            refine Cov.store 0 [_, _, _, _, _, _, _, _] [_, _, _, _, _, _, _, _] .ro rfl rfl rfl ty35 rfl rfl rfl rfl ?_
            refine Cov.q .ro (.assign rfl) rfl ?_
            refine Cov.region_end ?_
            refine Cov.seq ?_
            refine Cov.freezeR 1 rfl rfl o50462 [_, _, _] rfl B50144 (fun G50482 e50483 B50484 s50485 => ?_)
            refine Cov.freezeR 0 rfl rfl (OL.mono e50483 o50471) [_, _] rfl B50484 (fun G50487 e50488 B50489 s50490 => ?_)
            refine Cov.drawL (.q 0 (.q 1 (.q 2 (.q 3 (.q 4 (.q 5 (.e 6 1 (.q 7 (.q 8 (.q 9 (.q 10 (.q 11 (.q 12 (.q 13 (.q 14 (.q 15 (.q 16 (.q 17 (.q 18 (.q 19 (.q 20 (.q 21 (.q 24 (.q 25 (.alt (.e 22 1 (.alt (.e 23 1 (.e 26 1 (.e 27 1 (.q 28 (.q 29 (.q 30 (.q 31 (.q 32 (.e 33 1 (.q 34 (.q 35 .nil))))))))))) (.e 26 1 (.e 23 1 (.e 27 1 (.q 28 (.q 29 (.q 30 (.q 31 (.q 32 (.e 33 1 (.q 34 (.q 35 .nil))))))))))))) (.e 26 1 (.e 22 1 (.e 23 1 (.e 27 1 (.q 28 (.q 29 (.q 30 (.q 31 (.q 32 (.e 33 1 (.q 34 (.q 35 .nil))))))))))))))))))))))))))))))))))))) [_, _, _, _, _, _, _, _] (by kernel_rfl) (by kernel_rfl) (pick_mem [0, 1, 2, 3, 4, 5, 6, 7] rfl) ?_
            refine Cov.dq (.move rfl) rfl ?_
            refine Cov.dq (.move rfl) rfl ?_
            refine Cov.dq (.neq rfl rfl) rfl ?_
            refine Cov.dq (.move rfl) rfl ?_
            obtain ⟨u50498, h50499, r50500⟩ := bind_some r50478; clear r50478
            refine Cov.cutD 5 (β := Unit) (fun y => [(105, .bool u50498)]) [(36, _), (7, _), (8, _), (9, _), (11, _), (34, _), (35, _), (17, _), (19, _), (21, _), (22, _), (23, _), (24, _)] (fun y => G50487 :: Fs) (fun y => []) [_, _, _, _, _, _, _, _] (fun y => []) [_, _] (fun y => True) ⟨rfl, rfl, rfl, rfl, rfl, rfl, rfl, rfl, rfl, rfl, rfl, rfl, rfl, trivial⟩ [0, 1, 2, 3, 4, 5, 6, 7] rfl [0, 1] rfl ?_ ?_
            · rintro _ _
              refine Cov.prune [(105, .bool u50498), (36, _), (7, _), (8, _), (9, _), (11, _), (34, _), (35, _), (17, _), (19, _), (21, _), (22, _), (23, _), (24, _)] ⟨rfl, rfl, rfl, rfl, rfl, rfl, rfl, rfl, rfl, rfl, rfl, rfl, rfl, rfl, trivial⟩ ?_
              refine Cov.same (bl' := [_, _, _, _, _, _, _, _]) (sl' := [_, _]) (Fs' := G50487 :: Fs) rfl rfl rfl ?_
              refine Cov.dq (.move rfl) rfl ?_
              refine Cov.cutD 4 (β := Unit) (fun y => [(110, .bool (decide ((u50498 = true) ∨ ((u50472.1.1.1, u50472.1.1.2.1, u50472.1.1.2.2.1, u50472.1.1.2.2.2, u50472.1.2.1.1, u50472.1.2.1.2.1, u50472.1.2.1.2.2, u50472.1.2.2) ≠ (u50477.1.1.1, u50477.1.1.2.1, u50477.1.1.2.2.1, u50477.1.1.2.2.2, u50477.1.2.1.1, u50477.1.2.1.2.1, u50477.1.2.1.2.2, u50477.1.2.2)))))]) [(36, _), (7, _), (8, _), (9, _), (11, _), (34, _), (35, _), (17, _), (19, _), (22, _), (24, _)] (fun y => G50487 :: Fs) (fun y => []) [_, _, _, _, _, _, _, _] (fun y => []) [_, _] (fun y => True) ⟨rfl, rfl, rfl, rfl, rfl, rfl, rfl, rfl, rfl, rfl, rfl, trivial⟩ [0, 1, 2, 3, 4, 5, 6, 7] rfl [0, 1] rfl ?_ ?_
              · rintro _ _
                refine Cov.prune [(110, .bool (decide ((u50498 = true) ∨ ((u50472.1.1.1, u50472.1.1.2.1, u50472.1.1.2.2.1, u50472.1.1.2.2.2, u50472.1.2.1.1, u50472.1.2.1.2.1, u50472.1.2.1.2.2, u50472.1.2.2) ≠ (u50477.1.1.1, u50477.1.1.2.1, u50477.1.1.2.2.1, u50477.1.1.2.2.2, u50477.1.2.1.1, u50477.1.2.1.2.1, u50477.1.2.1.2.2, u50477.1.2.2))))), (36, _), (7, _), (8, _), (9, _), (11, _), (34, _), (35, _), (17, _), (19, _), (22, _), (24, _)] ⟨rfl, rfl, rfl, rfl, rfl, rfl, rfl, rfl, rfl, rfl, rfl, rfl, trivial⟩ ?_
                refine Cov.same (bl' := [_, _, _, _, _, _, _, _]) (sl' := [_, _]) (Fs' := G50487 :: Fs) rfl rfl rfl ?_
                refine Cov.dq (.move rfl) rfl ?_
                refine Cov.cutD 4 (β := Unit) (fun y => [(115, .bool (decide (((u50498 = true) ∨ ((u50472.1.1.1, u50472.1.1.2.1, u50472.1.1.2.2.1, u50472.1.1.2.2.2, u50472.1.2.1.1, u50472.1.2.1.2.1, u50472.1.2.1.2.2, u50472.1.2.2) ≠ (u50477.1.1.1, u50477.1.1.2.1, u50477.1.1.2.2.1, u50477.1.1.2.2.2, u50477.1.2.1.1, u50477.1.2.1.2.1, u50477.1.2.1.2.2, u50477.1.2.2))) ∨ (u50472.2 ≠ u50477.2))))]) [(36, _), (7, _), (8, _), (9, _), (11, _), (34, _), (35, _), (17, _), (19, _)] (fun y => G50487 :: Fs) (fun y => []) [_, _, _, _, _, _, _, _] (fun y => []) [_, _] (fun y => True) ⟨rfl, rfl, rfl, rfl, rfl, rfl, rfl, rfl, rfl, trivial⟩ [0, 1, 2, 3, 4, 5, 6, 7] rfl [0, 1] rfl ?_ ?_
                · rintro _ _
                  refine Cov.prune [(115, .bool (decide (((u50498 = true) ∨ ((u50472.1.1.1, u50472.1.1.2.1, u50472.1.1.2.2.1, u50472.1.1.2.2.2, u50472.1.2.1.1, u50472.1.2.1.2.1, u50472.1.2.1.2.2, u50472.1.2.2) ≠ (u50477.1.1.1, u50477.1.1.2.1, u50477.1.1.2.2.1, u50477.1.1.2.2.2, u50477.1.2.1.1, u50477.1.2.1.2.1, u50477.1.2.1.2.2, u50477.1.2.2))) ∨ (u50472.2 ≠ u50477.2)))), (36, _), (7, _), (8, _), (9, _), (11, _), (34, _), (35, _), (17, _), (19, _)] ⟨rfl, rfl, rfl, rfl, rfl, rfl, rfl, rfl, rfl, rfl, trivial⟩ ?_
                  refine Cov.same (bl' := [_, _, _, _, _, _, _, _]) (sl' := [_, _]) (Fs' := G50487 :: Fs) rfl rfl rfl ?_
                  refine Cov.dq (.move rfl) rfl ?_
                  obtain ⟨u58557, h58558, r58559⟩ := bind_some r50500; clear r50500
                  refine Cov.cutD 10 (β := Hp) (fun y => [(126, .bool u58557)]) [(36, _), (7, _), (8, _), (9, _), (11, _), (34, _), (35, _), (17, _), (19, _)] (fun y => y :: Fs) (fun y => []) [_, _, _, _, _, _, _, _] (fun y => []) [_, _] (fun y => HpLe G50487 y ∧ Bd w0 S0 Fs y) ⟨rfl, rfl, rfl, rfl, rfl, rfl, rfl, rfl, rfl, trivial⟩ [0, 1, 2, 3, 4, 5, 6, 7] rfl [0, 1] rfl ?_ ?_
                  · rintro G58560 ⟨e58561, B58562⟩
                    refine Cov.prune [(126, .bool u58557), (36, _), (7, _), (8, _), (9, _), (11, _), (34, _), (35, _), (17, _), (19, _)] ⟨rfl, rfl, rfl, rfl, rfl, rfl, rfl, rfl, rfl, rfl, trivial⟩ ?_
                    refine Cov.same (bl' := [_, _, _, _, _, _, _, _]) (sl' := [_, _]) (Fs' := G58560 :: Fs) rfl rfl rfl ?_
                    refine Cov.dq (.move rfl) rfl ?_
                    obtain ⟨u58570, h58571, r58572⟩ := bind_some r58559; clear r58559
                    refine Cov.cutD 5 (β := Unit) (fun y => [(132, .bool u58570)]) [(36, _), (7, _), (8, _), (9, _), (11, _), (34, _), (35, _)] (fun y => G58560 :: Fs) (fun y => []) [_, _, _, _, _, _, _, _] (fun y => []) [_, _] (fun y => True) ⟨rfl, rfl, rfl, rfl, rfl, rfl, rfl, trivial⟩ [0, 1, 2, 3, 4, 5, 6, 7] rfl [0, 1] rfl ?_ ?_
                    · rintro _ _
                      refine Cov.prune [(132, .bool u58570), (36, _), (7, _), (8, _), (9, _), (11, _), (34, _), (35, _)] ⟨rfl, rfl, rfl, rfl, rfl, rfl, rfl, rfl, trivial⟩ ?_
                      refine Cov.same (bl' := [_, _, _, _, _, _, _, _]) (sl' := [_, _]) (Fs' := G58560 :: Fs) rfl rfl rfl ?_
                      refine Cov.draw_end ?_
                      refine Cov.cond rfl (fun c58575 => ?_) (fun c58575 => ?_)
                      · have r58576 := ifT r58572 c58575; clear r58572
                        refine Cov.seq ?_
                        refine Cov.region rfl ?_
                        refine Cov.q .ro (.assign rfl) rfl ?_
                        refine Cov.region_end ?_
                        cases r58576
                        refine Cov.drop 8 0 [] _ rfl rfl ?_
                        refine Cov.drop 0 2 _ [] rfl rfl ?_
                        refine Cov.retS (c := ⟨7, none⟩) (.inr ⟨_, rfl⟩) [.tmp 10] [_] rfl Try.func7 Try.results7 ⟨RV.tmp rfl, trivial⟩ (fun _ h => List.mem_cons_of_mem _ h) ⟨rfl, rfl, rfl⟩
                      · have r58577 := ifBF r58572 c58575; clear r58572
                        refine Cov.skip ?_
                        refine Cov.inBlock ?_
                        refine Cov.region rfl ?_
                        refine Cov.q .ro (.addw rfl rfl) rfl ?_
                        refine Cov.q .ro (.move rfl) rfl ?_
                        refine Cov.region_end ?_
                        refine Cov.pull 7 rfl [_, _, _, _, _, _, _, _] rfl ?_
                        refine Cov.pull 7 rfl [_, _, _, _, _, _, _, _] rfl ?_
                        refine Cov.pull 7 rfl [_, _, _, _, _, _, _, _] rfl ?_
                        refine Cov.pull 7 rfl [_, _, _, _, _, _, _, _] rfl ?_
                        refine Cov.pull 6 rfl [_, _, _, _, _, _, _, _] rfl ?_
                        refine Cov.pull 7 rfl [_, _, _, _, _, _, _, _] rfl ?_
                        refine Cov.pull 7 rfl [_, _, _, _, _, _, _, _] rfl ?_
                        refine Cov.pull 7 rfl [_, _, _, _, _, _, _, _] rfl ?_
                        refine Cov.drop 3 0 [_, _, _, _, _] _ rfl rfl ?_
                        refine Cov.drop 0 1 _ [_] rfl rfl ?_
                        refine Cov.prune _ ?_ (Cov.same rfl rfl rfl (hb50182 ((i50139 + 1), xs50187, G58560, u50210.2.1, a50214, k50215, v50406, v50417, v50418, v50419, v50420, v50421, v50422, v50423, v50424, v50425, v50426, v50427, v50428, v50429, v50430, v50431, v50432, v50433, v50434, v50435, v50436, v50437, v50438, v50439, v50440, v50441, v50442, v50443, v50444, v50445, v50446) ⟨(HpLe.trans (HpLe.trans (HpLe.trans e50143 e50483) e50488) e58561), B58562, (SlR.mono (HpLe.trans (HpLe.trans e50483 e50488) e58561) s50216), (drop_succ g50141), r58577⟩ (Nat.lt_succ_self _)))
                        exact ⟨(congrArg (fun z => some (Value.int .i64 z)) (idx_wrap (OL.len' o35) g50141)), rfl, rfl, rfl, rfl, rfl, rfl, trivial⟩
                    · intro hb58569
                      refine Cov.split_b 127 rfl (fun c58568 => ?_) (fun c58568 => ?_)
                      · have r58578 := ifT h58571 c58568
                        refine Cov.dgq_off rfl rfl rfl ?_
                        refine Cov.dgq_off rfl rfl rfl ?_
                        refine Cov.dge_offL rfl rfl rfl e58561 (pick_mem [0, 1, 2, 3, 4, 5, 6, 7] rfl) ?_
                        refine Cov.dgq_off rfl rfl rfl ?_
                        refine Cov.dq (.pick_t rfl rfl) rfl ?_
                        refine Cov.prune _ ?_ (Cov.same rfl rfl rfl (hb58569 () trivial))
                        exact ⟨sval r58578, rfl, rfl, rfl, rfl, rfl, rfl, rfl, trivial⟩
                      · have r58579 := ifBF h58571 c58568
                        refine Cov.dgq_on rfl ?_
                        refine Cov.dq (.move rfl) rfl ?_
                        refine Cov.dgq_on rfl ?_
                        refine Cov.dq (.move rfl) rfl ?_
                        refine Cov.dge_on rfl ?_
                        obtain ⟨u58580, hu58580, r58581⟩ := bind_some r58579; clear r58579
                        refine Cov.callS (b1 := []) (b2 := [_, _, _, _, _, _, _, _]) (s1 := []) [_, _] [] .d1 rfl rfl Try.call27 rfl rfl (planner_Same_c (G := G58560) List.mem_cons_self (SlR.mono (HpLe.trans e50488 e58561) s50485) (SlR.mono e58561 s50490) hu58580) rfl (fun v58583 bo so h58582 => ?_)
                        obtain ⟨rfl, rfl, rfl⟩ := h58582
                        refine Cov.same (bl' := [_, _, _, _, _, _, _, _]) (sl' := [_, _]) rfl rfl rfl ?_
                        refine Cov.clsL e58561 (pick_mem [0, 1, 2, 3, 4, 5, 6, 7] rfl) ?_
                        refine Cov.dgq_on rfl ?_
                        refine Cov.dq (.not rfl) rfl ?_
                        refine Cov.dq (.pick_f rfl rfl) rfl ?_
                        refine Cov.prune _ ?_ (Cov.same rfl rfl rfl (hb58569 () trivial))
                        exact ⟨sval r58581, rfl, rfl, rfl, rfl, rfl, rfl, rfl, trivial⟩
                  · intro hb58556
                    refine Cov.split 116 rfl (fun c58555 => ?_) (fun c58555 => ?_)
                    · have r58584 := ifT h58558 c58555
                      refine Cov.dgq_off rfl rfl rfl ?_
                      refine Cov.dgq_off rfl rfl rfl ?_
                      refine Cov.dgq_off rfl rfl rfl ?_
                      refine Cov.dgq_off rfl rfl rfl ?_
                      refine Cov.alt ?_ ?_
                      · refine Cov.dge_offL rfl rfl rfl (HpLe.refl _) (pick_mem [0, 1, 2, 3, 4, 5, 6, 7] rfl) ?_
                        refine Cov.alt ?_ ?_
                        · refine Cov.dge_offL rfl rfl rfl (HpLe.refl _) (pick_mem [0, 1, 2, 3, 4, 5, 6, 7] rfl) ?_
                          refine Cov.dge_offL rfl rfl rfl (HpLe.refl _) (pick_mem [0, 1, 2, 3, 4, 5, 6, 7] rfl) ?_
                          refine Cov.dge_offL rfl rfl rfl (HpLe.refl _) (pick_mem [0, 1, 2, 3, 4, 5, 6, 7] rfl) ?_
                          refine Cov.dgq_off rfl rfl rfl ?_
                          refine Cov.dq (.pick_t rfl rfl) rfl ?_
                          refine Cov.prune _ ?_ (Cov.same rfl rfl rfl (hb58556 G50487 ⟨(HpLe.refl _), B50489⟩))
                          exact ⟨sval r58584, rfl, rfl, rfl, rfl, rfl, rfl, rfl, rfl, rfl, trivial⟩
                        · refine Cov.dge_offL rfl rfl rfl (HpLe.refl _) (pick_mem [0, 1, 2, 3, 4, 5, 6, 7] rfl) ?_
                          refine Cov.dge_offL rfl rfl rfl (HpLe.refl _) (pick_mem [0, 1, 2, 3, 4, 5, 6, 7] rfl) ?_
                          refine Cov.dge_offL rfl rfl rfl (HpLe.refl _) (pick_mem [0, 1, 2, 3, 4, 5, 6, 7] rfl) ?_
                          refine Cov.dgq_off rfl rfl rfl ?_
                          refine Cov.dq (.pick_t rfl rfl) rfl ?_
                          refine Cov.prune _ ?_ (Cov.same rfl rfl rfl (hb58556 G50487 ⟨(HpLe.refl _), B50489⟩))
                          exact ⟨sval r58584, rfl, rfl, rfl, rfl, rfl, rfl, rfl, rfl, rfl, trivial⟩
                      · refine Cov.dge_offL rfl rfl rfl (HpLe.refl _) (pick_mem [0, 1, 2, 3, 4, 5, 6, 7] rfl) ?_
                        refine Cov.dge_offL rfl rfl rfl (HpLe.refl _) (pick_mem [0, 1, 2, 3, 4, 5, 6, 7] rfl) ?_
                        refine Cov.dge_offL rfl rfl rfl (HpLe.refl _) (pick_mem [0, 1, 2, 3, 4, 5, 6, 7] rfl) ?_
                        refine Cov.dge_offL rfl rfl rfl (HpLe.refl _) (pick_mem [0, 1, 2, 3, 4, 5, 6, 7] rfl) ?_
                        refine Cov.dgq_off rfl rfl rfl ?_
                        refine Cov.dq (.pick_t rfl rfl) rfl ?_
                        refine Cov.prune _ ?_ (Cov.same rfl rfl rfl (hb58556 G50487 ⟨(HpLe.refl _), B50489⟩))
                        exact ⟨sval r58584, rfl, rfl, rfl, rfl, rfl, rfl, rfl, rfl, rfl, trivial⟩
                    · have r62595 := ifF h58558 c58555
                      refine Cov.dgq_on rfl ?_
                      refine Cov.dq (.move rfl) rfl ?_
                      refine Cov.dgq_on rfl ?_
                      refine Cov.dq (.load_own_a 5 [_, _, _, _, _, _, _, _] rfl rfl ty35 rfl) rfl ?_
                      refine Cov.dgq_on rfl ?_
                      refine Cov.dq (.move rfl) rfl ?_
                      refine Cov.dgq_on rfl ?_
                      refine Cov.dq (.load_own_a 5 [_, _, _, _, _, _, _, _] rfl rfl ty35 rfl) rfl ?_
                      obtain ⟨u62604, hu62604, r62618⟩ := bind_some r62595; clear r62595
                      obtain ⟨u62615, hu62615, r62619⟩ := bind_some r62618; clear r62618
                      refine Cov.alt ?_ ?_
                      · refine Cov.dge_on rfl ?_
                        refine Cov.lit [_, _, _, _, _, _, _, _] [(0, _)] .d1 sl39 ty35 rfl rfl rfl rfl rfl rfl (fun b62620 hb62620 => ?_)
                        have o62621 : OL (Rep.pair (Rep.pair (Rep.int .i64) (Rep.pair (Rep.int .i64) (Rep.pair (Rep.int .i64) (Rep.int .i64)))) (Rep.pair (Rep.pair (Rep.int .i64) (Rep.pair (Rep.int .i64) (Rep.int .i64))) (Rep.int .i64))) G50487 [.int .i64 v50425, .int .i64 v50426, .int .i64 v50427, .int .i64 v50428, .int .i64 v50429, .int .i64 v50430, .int .i64 v50431, .int .i64 v50432] ([((v50425, v50426, v50427, v50428), (v50429, v50430, v50431), v50432)] : List ((Int × Int × Int × Int) × (Int × Int × Int) × Int)) := ((OL.cons rfl (Rep.pairI (Rep.pairI (Rep.intI .i64 v50425) (Rep.pairI (Rep.intI .i64 v50426) (Rep.pairI (Rep.intI .i64 v50427) (Rep.intI .i64 v50428)))) (Rep.pairI (Rep.pairI (Rep.intI .i64 v50429) (Rep.pairI (Rep.intI .i64 v50430) (Rep.intI .i64 v50431))) (Rep.intI .i64 v50432))) (OL.nil (Rp' := (Rep.pair (Rep.pair (Rep.int .i64) (Rep.pair (Rep.int .i64) (Rep.pair (Rep.int .i64) (Rep.int .i64)))) (Rep.pair (Rep.pair (Rep.int .i64) (Rep.pair (Rep.int .i64) (Rep.int .i64))) (Rep.int .i64)))))) :)
                        refine Cov.reval 119 (n' := ([((v50425, v50426, v50427, v50428), (v50429, v50430, v50431), v50432)] : List ((Int × Int × Int × Int) × (Int × Int × Int) × Int)).length) rfl rfl ?_
                        refine Cov.clsL (HpLe.refl _) (pick_mem [0, 1, 2, 3, 4, 5, 6, 7] rfl) ?_
                        refine Cov.alt ?_ ?_
                        · refine Cov.dge_on rfl ?_
                          refine Cov.freezeR 0 rfl rfl o62621 [_, _] rfl B50489 (fun G62623 e62624 B62625 s62626 => ?_)
                          refine Cov.callS (b1 := []) (b2 := [_, _, _, _, _, _, _, _]) (s1 := []) [_, _] [] .d1 rfl rfl Try.call27 rfl rfl (planner_Same_c (G := G62623) List.mem_cons_self (SlR.mono (HpLe.trans e50488 e62624) s50485) s62626 hu62604) rfl (fun v62629 bo so h62628 => ?_)
                          obtain ⟨rfl, rfl, rfl⟩ := h62628
                          refine Cov.same (bl' := [_, _, _, _, _, _, _, _]) (sl' := [_, _]) rfl rfl rfl ?_
                          refine Cov.clsL e62624 (pick_mem [0, 1, 2, 3, 4, 5, 6, 7] rfl) ?_
                          refine Cov.dge_on rfl ?_
                          refine Cov.lit [_, _, _, _, _, _, _, _] [(0, _)] .d1 sl39 ty35 rfl rfl rfl rfl rfl rfl (fun b62630 hb62630 => ?_)
                          have o62631 : OL (Rep.pair (Rep.pair (Rep.int .i64) (Rep.pair (Rep.int .i64) (Rep.pair (Rep.int .i64) (Rep.int .i64)))) (Rep.pair (Rep.pair (Rep.int .i64) (Rep.pair (Rep.int .i64) (Rep.int .i64))) (Rep.int .i64))) G62623 [.int .i64 v50425, .int .i64 v50426, .int .i64 v50427, .int .i64 v50428, .int .i64 v50429, .int .i64 v50430, .int .i64 v50431, .int .i64 v50432] ([((v50425, v50426, v50427, v50428), (v50429, v50430, v50431), v50432)] : List ((Int × Int × Int × Int) × (Int × Int × Int) × Int)) := ((OL.cons rfl (Rep.pairI (Rep.pairI (Rep.intI .i64 v50425) (Rep.pairI (Rep.intI .i64 v50426) (Rep.pairI (Rep.intI .i64 v50427) (Rep.intI .i64 v50428)))) (Rep.pairI (Rep.pairI (Rep.intI .i64 v50429) (Rep.pairI (Rep.intI .i64 v50430) (Rep.intI .i64 v50431))) (Rep.intI .i64 v50432))) (OL.nil (Rp' := (Rep.pair (Rep.pair (Rep.int .i64) (Rep.pair (Rep.int .i64) (Rep.pair (Rep.int .i64) (Rep.int .i64)))) (Rep.pair (Rep.pair (Rep.int .i64) (Rep.pair (Rep.int .i64) (Rep.int .i64))) (Rep.int .i64)))))) :)
                          refine Cov.reval 123 (n' := ([((v50425, v50426, v50427, v50428), (v50429, v50430, v50431), v50432)] : List ((Int × Int × Int × Int) × (Int × Int × Int) × Int)).length) rfl rfl ?_
                          refine Cov.clsL e62624 (pick_mem [0, 1, 2, 3, 4, 5, 6, 7] rfl) ?_
                          refine Cov.dge_on rfl ?_
                          refine Cov.freezeR 0 rfl rfl o62631 [_, _] rfl B62625 (fun G62633 e62634 B62635 s62636 => ?_)
                          refine Cov.callS (b1 := []) (b2 := [_, _, _, _, _, _, _, _]) (s1 := []) [_, _] [] .d1 rfl rfl Try.call26 rfl rfl (ref29_Same_c (G := G62633) List.mem_cons_self (SlR.mono (HpLe.trans (HpLe.trans e50488 e62624) e62634) s50485) s62636 hu62615) rfl (fun v62639 bo so h62638 => ?_)
                          obtain ⟨rfl, rfl, rfl⟩ := h62638
                          refine Cov.same (bl' := [_, _, _, _, _, _, _, _]) (sl' := [_, _]) rfl rfl rfl ?_
                          refine Cov.clsL (HpLe.trans e62624 e62634) (pick_mem [0, 1, 2, 3, 4, 5, 6, 7] rfl) ?_
                          refine Cov.dgq_on rfl ?_
                          refine Cov.dq (.neq_b Try.underlying4 rfl rfl) rfl ?_
                          refine Cov.dq (.pick_f rfl rfl) rfl ?_
                          refine Cov.prune _ ?_ (Cov.same rfl rfl rfl (hb58556 G62633 ⟨(HpLe.trans e62624 e62634), B62635⟩))
                          exact ⟨sval r62619, rfl, rfl, rfl, rfl, rfl, rfl, rfl, rfl, rfl, trivial⟩
                        · refine Cov.dge_on rfl ?_
                          refine Cov.lit [_, _, _, _, _, _, _, _] [(0, _)] .d1 sl39 ty35 rfl rfl rfl rfl rfl rfl (fun b62640 hb62640 => ?_)
                          have o62641 : OL (Rep.pair (Rep.pair (Rep.int .i64) (Rep.pair (Rep.int .i64) (Rep.pair (Rep.int .i64) (Rep.int .i64)))) (Rep.pair (Rep.pair (Rep.int .i64) (Rep.pair (Rep.int .i64) (Rep.int .i64))) (Rep.int .i64))) G50487 [.int .i64 v50425, .int .i64 v50426, .int .i64 v50427, .int .i64 v50428, .int .i64 v50429, .int .i64 v50430, .int .i64 v50431, .int .i64 v50432] ([((v50425, v50426, v50427, v50428), (v50429, v50430, v50431), v50432)] : List ((Int × Int × Int × Int) × (Int × Int × Int) × Int)) := ((OL.cons rfl (Rep.pairI (Rep.pairI (Rep.intI .i64 v50425) (Rep.pairI (Rep.intI .i64 v50426) (Rep.pairI (Rep.intI .i64 v50427) (Rep.intI .i64 v50428)))) (Rep.pairI (Rep.pairI (Rep.intI .i64 v50429) (Rep.pairI (Rep.intI .i64 v50430) (Rep.intI .i64 v50431))) (Rep.intI .i64 v50432))) (OL.nil (Rp' := (Rep.pair (Rep.pair (Rep.int .i64) (Rep.pair (Rep.int .i64) (Rep.pair (Rep.int .i64) (Rep.int .i64)))) (Rep.pair (Rep.pair (Rep.int .i64) (Rep.pair (Rep.int .i64) (Rep.int .i64))) (Rep.int .i64)))))) :)
                          refine Cov.reval 123 (n' := ([((v50425, v50426, v50427, v50428), (v50429, v50430, v50431), v50432)] : List ((Int × Int × Int × Int) × (Int × Int × Int) × Int)).length) rfl rfl ?_
                          refine Cov.clsL (HpLe.refl _) (pick_mem [0, 1, 2, 3, 4, 5, 6, 7] rfl) ?_
                          refine Cov.dge_on rfl ?_
                          refine Cov.freezeR 1 rfl rfl o62621 [_, _, _] rfl B50489 (fun G62643 e62644 B62645 s62646 => ?_)
                          refine Cov.callS (b1 := []) (b2 := [_, _, _, _, _, _, _, _]) (s1 := []) [_, _] [] .d1 rfl rfl Try.call27 rfl rfl (planner_Same_c (G := G62643) List.mem_cons_self (SlR.mono (HpLe.trans e50488 e62644) s50485) s62646 hu62604) rfl (fun v62649 bo so h62648 => ?_)
                          obtain ⟨rfl, rfl, rfl⟩ := h62648
                          refine Cov.same (bl' := [_, _, _, _, _, _, _, _]) (sl' := [_, _, _]) rfl rfl rfl ?_
                          refine Cov.clsL e62644 (pick_mem [0, 1, 2, 3, 4, 5, 6, 7] rfl) ?_
                          refine Cov.dge_on rfl ?_
                          refine Cov.freezeR 0 rfl rfl (OL.mono e62644 o62641) [_, _] rfl B62645 (fun G62650 e62651 B62652 s62653 => ?_)
                          refine Cov.callS (b1 := []) (b2 := [_, _, _, _, _, _, _, _]) (s1 := []) [_, _] [] .d1 rfl rfl Try.call26 rfl rfl (ref29_Same_c (G := G62650) List.mem_cons_self (SlR.mono (HpLe.trans (HpLe.trans e50488 e62644) e62651) s50485) s62653 hu62615) rfl (fun v62656 bo so h62655 => ?_)
                          obtain ⟨rfl, rfl, rfl⟩ := h62655
                          refine Cov.same (bl' := [_, _, _, _, _, _, _, _]) (sl' := [_, _]) rfl rfl rfl ?_
                          refine Cov.clsL (HpLe.trans e62644 e62651) (pick_mem [0, 1, 2, 3, 4, 5, 6, 7] rfl) ?_
                          refine Cov.dgq_on rfl ?_
                          refine Cov.dq (.neq_b Try.underlying4 rfl rfl) rfl ?_
                          refine Cov.dq (.pick_f rfl rfl) rfl ?_
                          refine Cov.prune _ ?_ (Cov.same rfl rfl rfl (hb58556 G62650 ⟨(HpLe.trans e62644 e62651), B62652⟩))
                          exact ⟨sval r62619, rfl, rfl, rfl, rfl, rfl, rfl, rfl, rfl, rfl, trivial⟩
                      · refine Cov.dge_on rfl ?_
                        refine Cov.lit [_, _, _, _, _, _, _, _] [(0, _)] .d1 sl39 ty35 rfl rfl rfl rfl rfl rfl (fun b62657 hb62657 => ?_)
                        have o62658 : OL (Rep.pair (Rep.pair (Rep.int .i64) (Rep.pair (Rep.int .i64) (Rep.pair (Rep.int .i64) (Rep.int .i64)))) (Rep.pair (Rep.pair (Rep.int .i64) (Rep.pair (Rep.int .i64) (Rep.int .i64))) (Rep.int .i64))) G50487 [.int .i64 v50425, .int .i64 v50426, .int .i64 v50427, .int .i64 v50428, .int .i64 v50429, .int .i64 v50430, .int .i64 v50431, .int .i64 v50432] ([((v50425, v50426, v50427, v50428), (v50429, v50430, v50431), v50432)] : List ((Int × Int × Int × Int) × (Int × Int × Int) × Int)) := ((OL.cons rfl (Rep.pairI (Rep.pairI (Rep.intI .i64 v50425) (Rep.pairI (Rep.intI .i64 v50426) (Rep.pairI (Rep.intI .i64 v50427) (Rep.intI .i64 v50428)))) (Rep.pairI (Rep.pairI (Rep.intI .i64 v50429) (Rep.pairI (Rep.intI .i64 v50430) (Rep.intI .i64 v50431))) (Rep.intI .i64 v50432))) (OL.nil (Rp' := (Rep.pair (Rep.pair (Rep.int .i64) (Rep.pair (Rep.int .i64) (Rep.pair (Rep.int .i64) (Rep.int .i64)))) (Rep.pair (Rep.pair (Rep.int .i64) (Rep.pair (Rep.int .i64) (Rep.int .i64))) (Rep.int .i64)))))) :)
                        refine Cov.reval 123 (n' := ([((v50425, v50426, v50427, v50428), (v50429, v50430, v50431), v50432)] : List ((Int × Int × Int × Int) × (Int × Int × Int) × Int)).length) rfl rfl ?_
                        refine Cov.clsL (HpLe.refl _) (pick_mem [0, 1, 2, 3, 4, 5, 6, 7] rfl) ?_
                        refine Cov.dge_on rfl ?_
                        refine Cov.lit [_, _, _, _, _, _, _, _] [(0, _)] .d1 sl39 ty35 rfl rfl rfl rfl rfl rfl (fun b62660 hb62660 => ?_)
                        have o62661 : OL (Rep.pair (Rep.pair (Rep.int .i64) (Rep.pair (Rep.int .i64) (Rep.pair (Rep.int .i64) (Rep.int .i64)))) (Rep.pair (Rep.pair (Rep.int .i64) (Rep.pair (Rep.int .i64) (Rep.int .i64))) (Rep.int .i64))) G50487 [.int .i64 v50425, .int .i64 v50426, .int .i64 v50427, .int .i64 v50428, .int .i64 v50429, .int .i64 v50430, .int .i64 v50431, .int .i64 v50432] ([((v50425, v50426, v50427, v50428), (v50429, v50430, v50431), v50432)] : List ((Int × Int × Int × Int) × (Int × Int × Int) × Int)) := ((OL.cons rfl (Rep.pairI (Rep.pairI (Rep.intI .i64 v50425) (Rep.pairI (Rep.intI .i64 v50426) (Rep.pairI (Rep.intI .i64 v50427) (Rep.intI .i64 v50428)))) (Rep.pairI (Rep.pairI (Rep.intI .i64 v50429) (Rep.pairI (Rep.intI .i64 v50430) (Rep.intI .i64 v50431))) (Rep.intI .i64 v50432))) (OL.nil (Rp' := (Rep.pair (Rep.pair (Rep.int .i64) (Rep.pair (Rep.int .i64) (Rep.pair (Rep.int .i64) (Rep.int .i64)))) (Rep.pair (Rep.pair (Rep.int .i64) (Rep.pair (Rep.int .i64) (Rep.int .i64))) (Rep.int .i64)))))) :)
                        refine Cov.reval 119 (n' := ([((v50425, v50426, v50427, v50428), (v50429, v50430, v50431), v50432)] : List ((Int × Int × Int × Int) × (Int × Int × Int) × Int)).length) rfl rfl ?_
                        refine Cov.clsL (HpLe.refl _) (pick_mem [0, 1, 2, 3, 4, 5, 6, 7] rfl) ?_
                        refine Cov.dge_on rfl ?_
                        refine Cov.freezeR 0 rfl rfl o62661 [_, _, _] rfl B50489 (fun G62663 e62664 B62665 s62666 => ?_)
                        refine Cov.callS (b1 := []) (b2 := [_, _, _, _, _, _, _, _]) (s1 := []) [_, _] [] .d1 rfl rfl Try.call27 rfl rfl (planner_Same_c (G := G62663) List.mem_cons_self (SlR.mono (HpLe.trans e50488 e62664) s50485) s62666 hu62604) rfl (fun v62669 bo so h62668 => ?_)
                        obtain ⟨rfl, rfl, rfl⟩ := h62668
                        refine Cov.same (bl' := [_, _, _, _, _, _, _, _]) (sl' := [_, _, _]) rfl rfl rfl ?_
                        refine Cov.clsL e62664 (pick_mem [0, 1, 2, 3, 4, 5, 6, 7] rfl) ?_
                        refine Cov.dge_on rfl ?_
                        refine Cov.freezeR 0 rfl rfl (OL.mono e62664 o62658) [_, _] rfl B62665 (fun G62670 e62671 B62672 s62673 => ?_)
                        refine Cov.callS (b1 := []) (b2 := [_, _, _, _, _, _, _, _]) (s1 := []) [_, _] [] .d1 rfl rfl Try.call26 rfl rfl (ref29_Same_c (G := G62670) List.mem_cons_self (SlR.mono (HpLe.trans (HpLe.trans e50488 e62664) e62671) s50485) s62673 hu62615) rfl (fun v62676 bo so h62675 => ?_)
                        obtain ⟨rfl, rfl, rfl⟩ := h62675
                        refine Cov.same (bl' := [_, _, _, _, _, _, _, _]) (sl' := [_, _]) rfl rfl rfl ?_
                        refine Cov.clsL (HpLe.trans e62664 e62671) (pick_mem [0, 1, 2, 3, 4, 5, 6, 7] rfl) ?_
                        refine Cov.dgq_on rfl ?_
                        refine Cov.dq (.neq_b Try.underlying4 rfl rfl) rfl ?_
                        refine Cov.dq (.pick_f rfl rfl) rfl ?_
                        refine Cov.prune _ ?_ (Cov.same rfl rfl rfl (hb58556 G62670 ⟨(HpLe.trans e62664 e62671), B62672⟩))
                        exact ⟨sval r62619, rfl, rfl, rfl, rfl, rfl, rfl, rfl, rfl, rfl, trivial⟩
                · intro hb50508
                  refine Cov.split 111 rfl (fun c50507 => ?_) (fun c50507 => ?_)
                  · refine Cov.dgq_off rfl rfl rfl ?_
                    refine Cov.dgq_off rfl rfl rfl ?_
                    refine Cov.dgq_off rfl rfl rfl ?_
                    refine Cov.dq (.pick_t rfl rfl) rfl ?_
                    refine Cov.prune _ ?_ (Cov.same rfl rfl rfl (hb50508 () trivial))
                    exact ⟨dor_t c50507, rfl, rfl, rfl, rfl, rfl, rfl, rfl, rfl, rfl, trivial⟩
                  · refine Cov.dgq_on rfl ?_
                    refine Cov.dq (.move rfl) rfl ?_
                    refine Cov.dgq_on rfl ?_
                    refine Cov.dq (.move rfl) rfl ?_
                    refine Cov.dgq_on rfl ?_
                    refine Cov.dq (.neq rfl rfl) rfl ?_
                    refine Cov.dq (.pick_f rfl rfl) rfl ?_
                    refine Cov.prune _ ?_ (Cov.same rfl rfl rfl (hb50508 () trivial))
                    exact ⟨dor_f c50507, rfl, rfl, rfl, rfl, rfl, rfl, rfl, rfl, rfl, trivial⟩
              · intro hb50504
                refine Cov.split_b 106 rfl (fun c50503 => ?_) (fun c50503 => ?_)
                · refine Cov.dgq_off rfl rfl rfl ?_
                  refine Cov.dgq_off rfl rfl rfl ?_
                  refine Cov.dgq_off rfl rfl rfl ?_
                  refine Cov.dq (.pick_t rfl rfl) rfl ?_
                  refine Cov.prune _ ?_ (Cov.same rfl rfl rfl (hb50504 () trivial))
                  exact ⟨dor_t c50503, rfl, rfl, rfl, rfl, rfl, rfl, rfl, rfl, rfl, rfl, rfl, trivial⟩
                · refine Cov.dgq_on rfl ?_
                  refine Cov.dq (.load_own_a 1 [_, _, _, _, _, _, _, _] rfl rfl ty35 rfl) rfl ?_
                  refine Cov.dgq_on rfl ?_
                  refine Cov.dq (.load_own_a 0 [_, _, _, _, _, _, _, _] rfl rfl ty35 rfl) rfl ?_
                  refine Cov.dgq_on rfl ?_
                  refine Cov.dq (.cast (show Value.bool (decide (([u50472.1.1.1, u50472.1.1.2.1, u50472.1.1.2.2.1, u50472.1.1.2.2.2, u50472.1.2.1.1, u50472.1.2.1.2.1, u50472.1.2.1.2.2, u50472.1.2.2] : List Int) ≠ ([u50477.1.1.1, u50477.1.1.2.1, u50477.1.1.2.2.1, u50477.1.1.2.2.2, u50477.1.2.1.1, u50477.1.2.1.2.1, u50477.1.2.1.2.2, u50477.1.2.2] : List Int))) = Value.bool (decide ((u50472.1.1.1, u50472.1.1.2.1, u50472.1.1.2.2.1, u50472.1.1.2.2.2, u50472.1.2.1.1, u50472.1.2.1.2.1, u50472.1.2.1.2.2, u50472.1.2.2) ≠ (u50477.1.1.1, u50477.1.1.2.1, u50477.1.1.2.2.1, u50477.1.1.2.2.2, u50477.1.2.1.1, u50477.1.2.1.2.1, u50477.1.2.1.2.2, u50477.1.2.2))) from congrArg Value.bool (decide_eq_decide.2 (by simp))) (.neq_i2 (m := 8) [u50472.1.1.1, u50472.1.1.2.1, u50472.1.1.2.2.1, u50472.1.1.2.2.2, u50472.1.2.1.1, u50472.1.2.1.2.1, u50472.1.2.1.2.2, u50472.1.2.2] [u50477.1.1.1, u50477.1.1.2.1, u50477.1.1.2.2.1, u50477.1.1.2.2.2, u50477.1.2.1.1, u50477.1.2.1.2.1, u50477.1.2.1.2.2, u50477.1.2.2] Try.underlying35 (by kernel_rfl) Try.stoodInHeld35 Try.eqGuardType35 rfl rfl rfl rfl)) rfl ?_
                  refine Cov.dq (.pick_f rfl rfl) rfl ?_
                  refine Cov.prune _ ?_ (Cov.same rfl rfl rfl (hb50504 () trivial))
                  exact ⟨dor_f (bne_of c50503), rfl, rfl, rfl, rfl, rfl, rfl, rfl, rfl, rfl, rfl, rfl, trivial⟩
            · intro hb50497
              refine Cov.split 100 rfl (fun c50496 => ?_) (fun c50496 => ?_)
              · have r66630 := ifT h50499 c50496
                refine Cov.dgq_off rfl rfl rfl ?_
                refine Cov.dgq_off rfl rfl rfl ?_
                refine Cov.dge_offL rfl rfl rfl (HpLe.refl _) (pick_mem [0, 1, 2, 3, 4, 5, 6, 7] rfl) ?_
                refine Cov.dgq_off rfl rfl rfl ?_
                refine Cov.dq (.pick_t rfl rfl) rfl ?_
                refine Cov.prune _ ?_ (Cov.same rfl rfl rfl (hb50497 () trivial))
                exact ⟨sval r66630, rfl, rfl, rfl, rfl, rfl, rfl, rfl, rfl, rfl, rfl, rfl, rfl, rfl, trivial⟩
              · have r66631 := ifF h50499 c50496
                refine Cov.dgq_on rfl ?_
                refine Cov.dq (.move rfl) rfl ?_
                refine Cov.dgq_on rfl ?_
                refine Cov.dq (.move rfl) rfl ?_
                refine Cov.dge_on rfl ?_
                obtain ⟨u66632, hu66632, r66633⟩ := bind_some r66631; clear r66631
                refine Cov.callS (b1 := []) (b2 := [_, _, _, _, _, _, _, _]) (s1 := []) [_, _] [] .d1 rfl rfl Try.call26 rfl rfl (ref29_Same_c (G := G50487) List.mem_cons_self (SlR.mono e50488 s50485) s50490 hu66632) rfl (fun v66635 bo so h66634 => ?_)
                obtain ⟨rfl, rfl, rfl⟩ := h66634
                refine Cov.same (bl' := [_, _, _, _, _, _, _, _]) (sl' := [_, _]) rfl rfl rfl ?_
                refine Cov.clsL (HpLe.refl _) (pick_mem [0, 1, 2, 3, 4, 5, 6, 7] rfl) ?_
                refine Cov.dgq_on rfl ?_
                refine Cov.dq (.not rfl) rfl ?_
                refine Cov.dq (.pick_f rfl rfl) rfl ?_
                refine Cov.prune _ ?_ (Cov.same rfl rfl rfl (hb50497 () trivial))
                exact ⟨sval r66633, rfl, rfl, rfl, rfl, rfl, rfl, rfl, rfl, rfl, rfl, rfl, rfl, rfl, trivial⟩
          · intro hb66636
            refine Cov.block ?_
            refine Cov.loop2 (α := Nat × (List (Int × Int × Int × Int))) (fun y => [(52, .int .i64 (y.1 : Int))]) [(36, _), (7, _), (8, _), (9, _), (11, _), (34, _), (35, _), (13, _), (50, _), (51, _)] (fun y => []) (fun y => []) [_, _, _, _, _, _] (fun y => []) [_, _] (fun y => List.drop y.1 ([(v50167, v50168, v50169, v50170), u50203.1, u50210.1] : List (Int × Int × Int × Int)) = y.2 ∧ law29_PlannerSteps_L3 (law29_PlannerSteps_J2 (law29_PlannerSteps_L4 law29_PlannerSteps_J1 xs50187) u50210.2.1) u50210.2.2 x50186.1 x50186.2.1 x50186.2.2.1 x50186.2.2.2.1 x50186.2.2.2.2.1 x50186.2.2.2.2.2.1 x50186.2.2.2.2.2.2.1 x50186.2.2.2.2.2.2.2.1 x50186.2.2.2.2.2.2.2.2.1 x50186.2.2.2.2.2.2.2.2.2 v50151 v50152 v50153 v50154 v50155 v50156 v50157 v50158 v50159 v50160 v50161 v50162 v50163 v50164 v50165 v50166 v50167 v50168 v50169 v50170 v50171 v50172 v50173 v50174 v50175 v50176 v50177 v50178 v50179 v50180 y.2  = some r) (fun y => y.2.length) (0, ([(v50167, v50168, v50169, v50170), u50203.1, u50210.1] : List (Int × Int × Int × Int))) ⟨rfl, r50211⟩ ⟨rfl, rfl, rfl, rfl, rfl, rfl, rfl, rfl, rfl, rfl, rfl, trivial⟩ rfl rfl rfl (fun y hI hb66731 => ?_)
            obtain ⟨i66727, w66728⟩ := y
            obtain ⟨g66729, r66730⟩ := hI
            try dsimp only at g66729 r66730
            refine Cov.prune [(52, .int .i64 (i66727 : Int)), (36, _), (7, _), (8, _), (9, _), (11, _), (34, _), (35, _), (13, _), (50, _), (51, _)] ⟨rfl, rfl, rfl, rfl, rfl, rfl, rfl, rfl, rfl, rfl, rfl, trivial⟩ ?_
            refine Cov.same (bl' := [_, _, _, _, _, _]) (sl' := [_, _]) (Fs' := G50142 :: Fs) rfl rfl rfl ?_
            cases w66728 with
            | nil =>
              rw [law29_PlannerSteps_L3] at r66730; try dsimp only at r66730
              refine Cov.seq ?_
              refine Cov.region rfl ?_
              refine Cov.q .ro (.lss rfl rfl) rfl ?_
              refine Cov.region_end ?_
              refine Cov.seq ?_
              refine Cov.cond_dec rfl (fun c => absurd c (drop_nil g66729)) (fun _ => ?_)
              refine Cov.exit rfl ?_
              refine Cov.prune _ ?_ (Cov.same rfl rfl rfl (hb66636 (u50210.2.2, x50186.1, x50186.2.1, x50186.2.2.1, x50186.2.2.2.1, x50186.2.2.2.2.1, x50186.2.2.2.2.2.1, x50186.2.2.2.2.2.2.1, x50186.2.2.2.2.2.2.2.1, x50186.2.2.2.2.2.2.2.2.1, x50186.2.2.2.2.2.2.2.2.2, v50151, v50152, v50153, v50154, v50155, v50156, v50157, v50158, v50159, v50160, v50161, v50162, v50163, v50164, v50165, v50166, v50167, v50168, v50169, v50170, v50171, v50172, v50173, v50174, v50175, v50176, v50177, v50178, v50179, v50180) r66730))
              exact ⟨rfl, rfl, rfl, rfl, rfl, rfl, rfl, rfl, trivial⟩
            | cons x66780 xs66781 =>
              have r66779 : law29_PlannerSteps_B3 (law29_PlannerSteps_J2 (law29_PlannerSteps_L4 law29_PlannerSteps_J1 xs50187) u50210.2.1) u50210.2.2 x50186.1 x50186.2.1 x50186.2.2.1 x50186.2.2.2.1 x50186.2.2.2.2.1 x50186.2.2.2.2.2.1 x50186.2.2.2.2.2.2.1 x50186.2.2.2.2.2.2.2.1 x50186.2.2.2.2.2.2.2.2.1 x50186.2.2.2.2.2.2.2.2.2 v50151 v50152 v50153 v50154 v50155 v50156 v50157 v50158 v50159 v50160 v50161 v50162 v50163 v50164 v50165 v50166 v50167 v50168 v50169 v50170 v50171 v50172 v50173 v50174 v50175 v50176 v50177 v50178 v50179 v50180 (law29_PlannerSteps_L3 (law29_PlannerSteps_J2 (law29_PlannerSteps_L4 law29_PlannerSteps_J1 xs50187) u50210.2.1) u50210.2.2 x50186.1 x50186.2.1 x50186.2.2.1 x50186.2.2.2.1 x50186.2.2.2.2.1 x50186.2.2.2.2.2.1 x50186.2.2.2.2.2.2.1 x50186.2.2.2.2.2.2.2.1 x50186.2.2.2.2.2.2.2.2.1 x50186.2.2.2.2.2.2.2.2.2 v50151 v50152 v50153 v50154 v50155 v50156 v50157 v50158 v50159 v50160 v50161 v50162 v50163 v50164 v50165 v50166 v50167 v50168 v50169 v50170 v50171 v50172 v50173 v50174 v50175 v50176 v50177 v50178 v50179 v50180 xs66781) x66780  = some r := r66730; clear r66730; unfold law29_PlannerSteps_B3 at r66779; try dsimp only at r66779
              refine Cov.seq ?_
              refine Cov.region rfl ?_
              refine Cov.q .ro (.lss rfl rfl) rfl ?_
              refine Cov.region_end ?_
              refine Cov.seq ?_
              refine Cov.cond_dec rfl (fun _ => ?_) (fun c => absurd (drop_lt g66729) c)
              refine Cov.skip ?_
              refine Cov.seq ?_
              refine Cov.block ?_
              refine Cov.seq ?_
              refine Cov.region rfl ?_
              obtain ⟨c66782, p66783, h66784⟩ := OL.get o50218 (drop_idx g66729)
              obtain ⟨_, _, rfl, rfl, _, _, rfl, rfl, _, _, rfl, rfl, rfl⟩ := h66784
              refine Cov.q .ro (.idxO 0 rfl rfl rfl (drop_idx g66729) sl53 ty33.sz) rfl ?_
              refine Cov.q .ro (.loadO_a 0 0 [_, _, _, _] rfl (drop_idx g66729) p66783 rfl (.inl ⟨rfl, rfl⟩) ty33 rfl) rfl ?_
              refine Cov.alloc .ro ty33 rfl (fun b66785 hb66785 => ?_)
              refine Cov.store 0 [_, _, _, _] [_, _, _, _, _, _, _] .ro rfl rfl rfl ty33 rfl rfl rfl rfl ?_
              refine Cov.region_end ?_
              refine Cov.seq ?_
              refine Cov.region rfl ?_
              refine Cov.q .ro (.load_own_a 0 [_, _, _, _] rfl rfl ty33 rfl) rfl ?_
              refine Cov.alloc .ro ty33 rfl (fun b66786 hb66786 => ?_)
              refine Cov.store 0 [_, _, _, _] [_, _, _, _, _, _, _, _] .ro rfl rfl rfl ty33 rfl rfl rfl rfl ?_
              refine Cov.region_end ?_
              refine Cov.seq ?_
              refine Cov.region rfl ?_
              refine Cov.q .ro (.fieldAddr 0 rfl fl29_0 ty3.sz rfl) rfl ?_
              refine Cov.q .ro (.load_own 3 rfl rfl ty3 rfl) rfl ?_
              refine Cov.q .ro (.fieldAddr 1 rfl fl33_1 ty3.sz rfl) rfl ?_
              refine Cov.store 0 [_, _, _, _] [_, _, _, _, _, _, _, _] .ro rfl rfl rfl ty3 rfl rfl rfl rfl ?_
              refine Cov.region_end ?_
              refine Cov.seq ?_
              refine Cov.drawL (.q 0 (.q 1 (.q 3 (.q 4 (.e 2 1 (.e 5 1 (.q 6 (.q 7 (.q 8 (.q 9 (.q 11 (.q 12 (.e 10 1 (.e 13 1 (.q 14 (.q 15 .nil)))))))))))))))) [_, _, _, _, _, _, _, _] (by kernel_rfl) (by kernel_rfl) (pick_mem [0, 1, 2, 3, 4, 5, 6, 7] rfl) ?_
              refine Cov.dq (.load_own_a 1 [_, _, _, _] rfl rfl ty33 rfl) rfl ?_
              refine Cov.dq (.load_own_a 3 [_, _, _, _, _, _, _, _, _, _] rfl rfl ty29 rfl) rfl ?_
              refine Cov.dq (.load_own_a 1 [_, _, _, _] rfl rfl ty33 rfl) rfl ?_
              refine Cov.dq (.load_own_a 3 [_, _, _, _, _, _, _, _, _, _] rfl rfl ty29 rfl) rfl ?_
              obtain ⟨u66787, hu66787, r66788⟩ := bind_some r66779; clear r66779
              refine Cov.callS (b1 := []) (b2 := [_, _, _, _, _, _, _, _]) (s1 := []) [_, _] [] .d1 rfl rfl Try.call16 rfl rfl (planner_Serves_c (G := G50142) List.mem_cons_self  hu66787) rfl (fun v66790 bo so h66789 => ?_)
              obtain ⟨rfl, rfl, rfl⟩ := h66789
              refine Cov.same (bl' := [_, _, _, _, _, _, _, _]) (sl' := [_, _]) rfl rfl rfl ?_
              refine Cov.clsL (HpLe.refl _) (pick_mem [0, 1, 2, 3, 4, 5, 6, 7] rfl) ?_
              obtain ⟨u66791, hu66791, r66792⟩ := bind_some r66788; clear r66788
              refine Cov.callS (b1 := []) (b2 := [_, _, _, _, _, _, _, _]) (s1 := []) [_, _] [] .d1 rfl rfl Try.call23 rfl rfl (ref29_Serves_c (G := G50142) List.mem_cons_self  hu66791) rfl (fun v66794 bo so h66793 => ?_)
              obtain ⟨rfl, rfl, rfl⟩ := h66793
              refine Cov.same (bl' := [_, _, _, _, _, _, _, _]) (sl' := [_, _]) rfl rfl rfl ?_
              refine Cov.clsL (HpLe.refl _) (pick_mem [0, 1, 2, 3, 4, 5, 6, 7] rfl) ?_
              refine Cov.dq (.neq_b Try.underlying4 rfl rfl) rfl ?_
              refine Cov.dq (.move rfl) rfl ?_
              obtain ⟨u66805, h66806, r66807⟩ := bind_some r66792; clear r66792
              refine Cov.cutD 8 (β := Unit) (fun y => [(75, .bool u66805)]) [(52, _), (36, _), (7, _), (8, _), (9, _), (11, _), (34, _), (35, _), (13, _), (50, _), (51, _)] (fun y => G50142 :: Fs) (fun y => []) [_, _, _, _, _, _, _, _] (fun y => []) [_, _] (fun y => True) ⟨rfl, rfl, rfl, rfl, rfl, rfl, rfl, rfl, rfl, rfl, rfl, trivial⟩ [0, 1, 2, 3, 4, 5, 6, 7] rfl [0, 1] rfl ?_ ?_
              · rintro _ _
                refine Cov.prune [(75, .bool u66805), (52, _), (36, _), (7, _), (8, _), (9, _), (11, _), (34, _), (35, _), (13, _), (50, _), (51, _)] ⟨rfl, rfl, rfl, rfl, rfl, rfl, rfl, rfl, rfl, rfl, rfl, rfl, trivial⟩ ?_
                refine Cov.same (bl' := [_, _, _, _, _, _, _, _]) (sl' := [_, _]) (Fs' := G50142 :: Fs) rfl rfl rfl ?_
                refine Cov.draw_end ?_
                refine Cov.cond rfl (fun c66810 => ?_) (fun c66810 => ?_)
                · have r66811 := ifT r66807 c66810; clear r66807
                  refine Cov.seq ?_
                  refine Cov.region rfl ?_
                  refine Cov.q .ro (.assign rfl) rfl ?_
                  refine Cov.region_end ?_
                  cases r66811
                  refine Cov.drop 8 0 [] _ rfl rfl ?_
                  refine Cov.drop 0 2 _ [] rfl rfl ?_
                  refine Cov.retS (c := ⟨7, none⟩) (.inr ⟨_, rfl⟩) [.tmp 10] [_] rfl Try.func7 Try.results7 ⟨RV.tmp rfl, trivial⟩ (fun _ h => List.mem_cons_of_mem _ h) ⟨rfl, rfl, rfl⟩
                · have r66812 := ifBF r66807 c66810; clear r66807
                  refine Cov.skip ?_
                  refine Cov.inBlock ?_
                  refine Cov.region rfl ?_
                  refine Cov.q .ro (.addw rfl rfl) rfl ?_
                  refine Cov.q .ro (.move rfl) rfl ?_
                  refine Cov.region_end ?_
                  refine Cov.drop 2 0 [_, _, _, _, _, _] _ rfl rfl ?_
                  refine Cov.prune _ ?_ (Cov.same rfl rfl rfl (hb66731 ((i66727 + 1), xs66781) ⟨(drop_succ g66729), r66812⟩ (Nat.lt_succ_self _)))
                  exact ⟨(congrArg (fun z => some (Value.int .i64 z)) (idx_wrap (OL.len' o50218) g66729)), rfl, rfl, rfl, rfl, rfl, rfl, rfl, rfl, rfl, rfl, trivial⟩
              · intro hb66804
                refine Cov.split 67 rfl (fun c66803 => ?_) (fun c66803 => ?_)
                · have r66813 := ifT h66806 c66803
                  refine Cov.dgq_off rfl rfl rfl ?_
                  refine Cov.dgq_off rfl rfl rfl ?_
                  refine Cov.dgq_off rfl rfl rfl ?_
                  refine Cov.dgq_off rfl rfl rfl ?_
                  refine Cov.dge_offL rfl rfl rfl (HpLe.refl _) (pick_mem [0, 1, 2, 3, 4, 5, 6, 7] rfl) ?_
                  refine Cov.dge_offL rfl rfl rfl (HpLe.refl _) (pick_mem [0, 1, 2, 3, 4, 5, 6, 7] rfl) ?_
                  refine Cov.dgq_off rfl rfl rfl ?_
                  refine Cov.dq (.pick_t rfl rfl) rfl ?_
                  refine Cov.prune _ ?_ (Cov.same rfl rfl rfl (hb66804 () trivial))
                  exact ⟨sval r66813, rfl, rfl, rfl, rfl, rfl, rfl, rfl, rfl, rfl, rfl, rfl, trivial⟩
                · have r66814 := ifF h66806 c66803
                  refine Cov.dgq_on rfl ?_
                  refine Cov.dq (.load_own_a 0 [_, _, _, _] rfl rfl ty33 rfl) rfl ?_
                  refine Cov.dgq_on rfl ?_
                  refine Cov.dq (.load_own_a 3 [_, _, _, _, _, _, _, _, _, _] rfl rfl ty29 rfl) rfl ?_
                  refine Cov.dgq_on rfl ?_
                  refine Cov.dq (.load_own_a 0 [_, _, _, _] rfl rfl ty33 rfl) rfl ?_
                  refine Cov.dgq_on rfl ?_
                  refine Cov.dq (.load_own_a 3 [_, _, _, _, _, _, _, _, _, _] rfl rfl ty29 rfl) rfl ?_
                  refine Cov.dge_on rfl ?_
                  obtain ⟨u66815, hu66815, r66816⟩ := bind_some r66814; clear r66814
                  refine Cov.callS (b1 := []) (b2 := [_, _, _, _, _, _, _, _]) (s1 := []) [_, _] [] .d1 rfl rfl Try.call16 rfl rfl (planner_Serves_c (G := G50142) List.mem_cons_self  hu66815) rfl (fun v66818 bo so h66817 => ?_)
                  obtain ⟨rfl, rfl, rfl⟩ := h66817
                  refine Cov.same (bl' := [_, _, _, _, _, _, _, _]) (sl' := [_, _]) rfl rfl rfl ?_
                  refine Cov.clsL (HpLe.refl _) (pick_mem [0, 1, 2, 3, 4, 5, 6, 7] rfl) ?_
                  refine Cov.dge_on rfl ?_
                  obtain ⟨u66819, hu66819, r66820⟩ := bind_some r66816; clear r66816
                  refine Cov.callS (b1 := []) (b2 := [_, _, _, _, _, _, _, _]) (s1 := []) [_, _] [] .d1 rfl rfl Try.call23 rfl rfl (ref29_Serves_c (G := G50142) List.mem_cons_self  hu66819) rfl (fun v66822 bo so h66821 => ?_)
                  obtain ⟨rfl, rfl, rfl⟩ := h66821
                  refine Cov.same (bl' := [_, _, _, _, _, _, _, _]) (sl' := [_, _]) rfl rfl rfl ?_
                  refine Cov.clsL (HpLe.refl _) (pick_mem [0, 1, 2, 3, 4, 5, 6, 7] rfl) ?_
                  refine Cov.dgq_on rfl ?_
                  refine Cov.dq (.neq_b Try.underlying4 rfl rfl) rfl ?_
                  refine Cov.dq (.pick_f rfl rfl) rfl ?_
                  refine Cov.prune _ ?_ (Cov.same rfl rfl rfl (hb66804 () trivial))
                  exact ⟨sval r66820, rfl, rfl, rfl, rfl, rfl, rfl, rfl, rfl, rfl, rfl, rfl, trivial⟩

end Go.Proofs.Ytmjidoadjinhgaa
