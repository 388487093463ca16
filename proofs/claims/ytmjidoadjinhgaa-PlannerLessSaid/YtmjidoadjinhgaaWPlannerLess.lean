/- The walks. Printed by wip/lift/drive.py. -/
import Derived.Test.YtmjidoadjinhgaaW3
namespace Go.Proofs.Ytmjidoadjinhgaa
open Go.RowKit
set_option linter.unusedSimpArgs false
set_option linter.unusedVariables false
set_option synthInstance.maxSize 2000
set_option synthInstance.maxHeartbeats 400000

set_option maxHeartbeats 4000000 in
theorem law29_PlannerLess_c {Fs : List Hp} {G : Hp} {a0 : Option Addr} {k0 : Nat} {x0 : List Int} {r : Bool} (hG : G ∈ Fs) (s0 : SlR (Rep.int .u8) G a0 k0 x0) (h : law29_PlannerLess x0 = some r) : RetS Try.prog 4 #[.slice a0 x0.length k0] Fs [] [] (fun v bo so => v = .bool r ∧ bo = [] ∧ so = []) := by
  unfold law29_PlannerLess at h
  try dsimp only at h
  refine RetS.of (vs := [_]) Try.func4 rfl Try.ntmps4 [(0, _)] ⟨rfl, trivial⟩ rfl hG fun w0 S0 hS0 B0 => ?_
  refine Cov.seq ?_
  refine Cov.region rfl ?_
  refine Cov.q .ro (.assign rfl) rfl ?_
  refine Cov.region_end ?_
  refine Cov.seq ?_
  refine Cov.seq ?_
  refine Cov.region rfl ?_
  obtain ⟨u1, hu1, r2⟩ := bind_some h; clear h
  refine Cov.callS (b1 := []) (b2 := []) (s1 := []) [] [] .ro rfl rfl Try.call8 rfl rfl (law29_sane_c (G := G) List.mem_cons_self  hu1) rfl (fun v4 bo so h3 => ?_)
  obtain ⟨rfl, rfl, rfl⟩ := h3
  refine Cov.same (bl' := []) (sl' := []) rfl rfl rfl ?_
  refine Cov.q .ro (.not rfl) rfl ?_
  refine Cov.region_end ?_
  refine Cov.cond rfl (fun c5 => ?_) (fun c5 => ?_)
  · have r6 := ifT r2 c5; clear r2
    refine Cov.seq ?_
    refine Cov.region rfl ?_
    refine Cov.q .ro (.assign rfl) rfl ?_
    refine Cov.region_end ?_
    cases r6
    refine Cov.retS (c := ⟨4, none⟩) (.inr ⟨_, rfl⟩) [.tmp 2] [_] rfl Try.func4 Try.results4 ⟨RV.tmp rfl, trivial⟩ (fun _ h => List.mem_cons_of_mem _ h) ⟨rfl, rfl, rfl⟩
  · have r7 := ifBF r2 c5; clear r2
    refine Cov.skip ?_
    refine Cov.seq ?_
    refine Cov.region rfl ?_
    refine Cov.q .ro (.move rfl) rfl ?_
    obtain ⟨u8, hu8, r9⟩ := bind_some r7; clear r7
    refine Cov.callS (b1 := []) (b2 := []) (s1 := []) [_] [] .ro rfl rfl Try.call9 rfl rfl (play_New_c (G := G) List.mem_cons_self s0 hu8) rfl (fun v11 bo so h10 => ?_)
    obtain ⟨a13, k14, b12, rfl, rfl, rfl, s15⟩ := h10
    refine Cov.same (bl' := [_]) (sl' := []) rfl rfl rfl ?_
    refine Cov.q .ro (.assign rfl) rfl ?_
    refine Cov.region_end ?_
    refine Cov.seq ?_
    refine Cov.region rfl ?_
    refine Cov.q .ro (.move rfl) rfl ?_
    obtain ⟨u16, hu16, r17⟩ := bind_some r9; clear r9
    refine Cov.callS (b1 := [_]) (b2 := []) (s1 := []) [_] [] .ro rfl rfl Try.call10 rfl rfl (law29_wanted_c (G := G) List.mem_cons_self s15 hu16) rfl (fun v19 bo so h18 => ?_)
    obtain ⟨a20, k21, rfl, rfl, rfl, s22⟩ := h18
    refine Cov.same (bl' := [_]) (sl' := []) rfl rfl rfl ?_
    refine Cov.alloc .ro ty29 rfl (fun b23 hb23 => ?_)
    refine Cov.store 0 [_, _, _, _, _, _, _, _, _, _] [_, _] .ro rfl rfl rfl ty29 rfl rfl rfl rfl ?_
    refine Cov.region_end ?_
    refine Cov.seq ?_
    refine Cov.region rfl ?_
    refine Cov.q .ro (.load_own_a 0 [_, _, _, _, _, _, _, _, _, _] rfl rfl ty29 rfl) rfl ?_
    refine Cov.alloc .ro ty29 rfl (fun b24 hb24 => ?_)
    refine Cov.store 0 [_, _, _, _, _, _, _, _, _, _] [_, _, _] .ro rfl rfl rfl ty29 rfl rfl rfl rfl ?_
    refine Cov.region_end ?_
    refine Cov.seq ?_
    refine Cov.drawL (.q 0 (.q 1 (.q 2 (.q 3 (.q 4 (.q 6 (.q 7 (.q 8 (.q 9 (.q 11 (.q 12 (.q 13 (.q 14 (.e 5 1 (.q 16 (.e 10 1 (.e 15 1 (.e 17 1 (.q 18 (.e 19 1 (.q 20 (.e 21 2 .nil)))))))))))))))))))))) [_] (by kernel_rfl) (by kernel_rfl) (pick_mem [1] rfl) ?_
    refine Cov.dq (.move rfl) rfl ?_
    refine Cov.dq (.fieldAddr 1 rfl fl29_1 ty3.sz rfl) rfl ?_
    refine Cov.dq (.load_own 0 rfl rfl ty3 rfl) rfl ?_
    refine Cov.dq (.addw rfl rfl) rfl ?_
    refine Cov.dq (.max2 rfl rfl) rfl ?_
    refine Cov.dq (.move rfl) rfl ?_
    refine Cov.dq (.fieldAddr 2 rfl fl29_2 ty3.sz rfl) rfl ?_
    refine Cov.dq (.load_own 0 rfl rfl ty3 rfl) rfl ?_
    refine Cov.dq (.addw rfl rfl) rfl ?_
    refine Cov.dq (.move rfl) rfl ?_
    refine Cov.dq (.fieldAddr 3 rfl fl29_3 ty3.sz rfl) rfl ?_
    refine Cov.dq (.load_own 0 rfl rfl ty3 rfl) rfl ?_
    refine Cov.dq (.addw rfl rfl) rfl ?_
    obtain ⟨u25, hu25, r26⟩ := bind_some r17; clear r17
    refine Cov.pull 2 rfl [_, _, _] rfl ?_
    refine Cov.callS (b1 := [_]) (b2 := [_, _]) (s1 := []) [_, _] [] .d1 rfl rfl Try.call18 rfl rfl (play_Dice_Pick_c (G := G) List.mem_cons_self s22 hu25) rfl (fun v28 bo so h27 => ?_)
    obtain ⟨a29, k30, rfl, rfl, rfl, s31⟩ := h27
    refine Cov.same (bl' := [_, _, _]) (sl' := []) rfl rfl rfl ?_
    refine Cov.clsL (HpLe.refl _) (pick_mem [2] rfl) ?_
    refine Cov.dq (.fieldAddr 1 rfl fl29_1 ty3.sz rfl) rfl ?_
    obtain ⟨u32, hu32, r33⟩ := bind_some r26; clear r26
    refine Cov.callS (b1 := [_]) (b2 := [_, _]) (s1 := []) [_, _] [] .d1 rfl rfl Try.call18 rfl rfl (play_Dice_Pick_c (G := G) List.mem_cons_self s31 hu32) rfl (fun v35 bo so h34 => ?_)
    obtain ⟨a36, k37, rfl, rfl, rfl, s38⟩ := h34
    refine Cov.same (bl' := [_, _, _]) (sl' := []) rfl rfl rfl ?_
    refine Cov.clsL (HpLe.refl _) (pick_mem [2] rfl) ?_
    obtain ⟨u39, hu39, r40⟩ := bind_some r33; clear r33
    refine Cov.callS (b1 := [_]) (b2 := [_, _]) (s1 := []) [_, _] [] .d1 rfl rfl Try.call18 rfl rfl (play_Dice_Pick_c (G := G) List.mem_cons_self s38 hu39) rfl (fun v42 bo so h41 => ?_)
    obtain ⟨a43, k44, rfl, rfl, rfl, s45⟩ := h41
    refine Cov.same (bl' := [_, _, _]) (sl' := []) rfl rfl rfl ?_
    refine Cov.clsL (HpLe.refl _) (pick_mem [2] rfl) ?_
    refine Cov.store 1 [_, _, _, _, _, _, _, _, _, _] [_, _, _] .d1 rfl rfl rfl ty3 rfl rfl rfl rfl ?_
    refine Cov.clsL (HpLe.refl _) (pick_mem [2] rfl) ?_
    refine Cov.dq (.fieldAddr 2 rfl fl29_2 ty3.sz rfl) rfl ?_
    refine Cov.store 1 [_, _, _, _, _, _, _, _, _, _] [_, _, _] .d1 rfl rfl rfl ty3 rfl rfl rfl rfl ?_
    refine Cov.clsL (HpLe.refl _) (pick_mem [2] rfl) ?_
    refine Cov.dq (.fieldAddr 3 rfl fl29_3 ty3.sz rfl) rfl ?_
    refine Cov.store 1 [_, _, _, _, _, _, _, _, _, _] [_, _, _] .d2 rfl rfl rfl ty3 rfl rfl rfl rfl ?_
    refine Cov.draw_end ?_
    refine Cov.prune [(3, _), (4, _), (5, _)] ⟨rfl, rfl, rfl, trivial⟩ ?_
    refine Cov.seq ?_
    refine Cov.region rfl ?_
    refine Cov.q .ro (.move rfl) rfl ?_
    obtain ⟨u46, hu46, r47⟩ := bind_some r40; clear r40
    refine Cov.callS (b1 := [_]) (b2 := [_, _]) (s1 := []) [_] [] .ro rfl rfl Try.call19 rfl rfl (play_Dice_Scheme_c (G := G) List.mem_cons_self s45 hu46) rfl (fun v49 bo so h48 => ?_)
    obtain ⟨a50, k51, rfl, rfl, rfl, s52⟩ := h48
    refine Cov.same (bl' := [_, _, _]) (sl' := []) rfl rfl rfl ?_
    refine Cov.alloc .ro ty33 rfl (fun b53 hb53 => ?_)
    refine Cov.store 0 [_, _, _, _] [_, _, _, _] .ro rfl rfl rfl ty33 rfl rfl rfl rfl ?_
    refine Cov.region_end ?_
    refine Cov.seq ?_
    refine Cov.region rfl ?_
    refine Cov.q .ro (.fieldAddr 0 rfl fl29_0 ty3.sz rfl) rfl ?_
    refine Cov.q .ro (.load_own 3 rfl rfl ty3 rfl) rfl ?_
    refine Cov.q .ro (.fieldAddr 1 rfl fl33_1 ty3.sz rfl) rfl ?_
    refine Cov.store 0 [_, _, _, _] [_, _, _, _] .ro rfl rfl rfl ty3 rfl rfl rfl rfl ?_
    refine Cov.region_end ?_
    refine Cov.seq ?_
    refine Cov.seq ?_
    refine Cov.region rfl ?_
    refine Cov.q .ro (.load_own_a 0 [_, _, _, _] rfl rfl ty33 rfl) rfl ?_
    refine Cov.q .ro (.load_own_a 3 [_, _, _, _, _, _, _, _, _, _] rfl rfl ty29 rfl) rfl ?_
    obtain ⟨u54, hu54, r55⟩ := bind_some r47; clear r47
    refine Cov.callS (b1 := []) (b2 := [_, _, _, _]) (s1 := []) [_, _] [] .ro rfl rfl Try.call16 rfl rfl (planner_Serves_c (G := G) List.mem_cons_self  hu54) rfl (fun v57 bo so h56 => ?_)
    obtain ⟨rfl, rfl, rfl⟩ := h56
    refine Cov.same (bl' := [_, _, _, _]) (sl' := []) rfl rfl rfl ?_
    refine Cov.q .ro (.move rfl) rfl ?_
    obtain ⟨u64, h65, r66⟩ := bind_some r55; clear r55
    refine Cov.cutR 5 (β := Unit) (fun y => [(50, .bool u64)]) [(4, _), (5, _)] (fun y => G :: Fs) (fun y => []) [_, _, _, _] (fun y => []) [] (fun y => True) ⟨rfl, rfl, trivial⟩ [0, 1, 2, 3] rfl [] rfl ?_ ?_
    · rintro _ _
      refine Cov.prune [(50, .bool u64), (4, _), (5, _)] ⟨rfl, rfl, rfl, trivial⟩ ?_
      refine Cov.same (bl' := [_, _, _, _]) (sl' := []) (Fs' := G :: Fs) rfl rfl rfl ?_
      refine Cov.region_end ?_
      refine Cov.cond rfl (fun c69 => ?_) (fun c69 => ?_)
      · have r70 := ifT r66 c69; clear r66
        refine Cov.seq ?_
        refine Cov.region rfl ?_
        refine Cov.q .ro (.assign rfl) rfl ?_
        refine Cov.region_end ?_
        cases r70
        refine Cov.drop 4 0 [] _ rfl rfl ?_
        refine Cov.retS (c := ⟨4, none⟩) (.inr ⟨_, rfl⟩) [.tmp 2] [_] rfl Try.func4 Try.results4 ⟨RV.tmp rfl, trivial⟩ (fun _ h => List.mem_cons_of_mem _ h) ⟨rfl, rfl, rfl⟩
      · have r71 := ifBF r66 c69; clear r66
        refine Cov.skip ?_
        refine Cov.seq ?_
        refine Cov.region rfl ?_
        refine Cov.q .ro (.load_own_a 3 [_, _, _, _, _, _, _, _, _, _] rfl rfl ty29 rfl) rfl ?_
        obtain ⟨u72, hu72, r73⟩ := bind_some r71; clear r71
        refine Cov.callS (b1 := []) (b2 := [_, _, _, _]) (s1 := []) [_] [] .ro rfl rfl Try.call12 rfl rfl (planner_Best_c (G := G) List.mem_cons_self  hu72) rfl (fun v75 bo so h74 => ?_)
        obtain ⟨rfl, rfl, rfl⟩ := h74
        refine Cov.same (bl' := [_, _, _, _]) (sl' := []) rfl rfl rfl ?_
        refine Cov.q .ro (.move rfl) rfl ?_
        refine Cov.q .ro (.extract rfl rfl) rfl ?_
        refine Cov.q .ro (.extract rfl rfl) rfl ?_
        refine Cov.alloc .ro ty35 rfl (fun b76 hb76 => ?_)
        refine Cov.store 0 [_, _, _, _, _, _, _, _] [_, _, _, _, _] .ro rfl rfl rfl ty35 rfl rfl rfl rfl ?_
        refine Cov.q .ro (.assign rfl) rfl ?_
        refine Cov.region_end ?_
        refine Cov.seq ?_
        refine Cov.region rfl ?_
        refine Cov.q .ro (.load_own_a 3 [_, _, _, _, _, _, _, _, _, _] rfl rfl ty29 rfl) rfl ?_
        obtain ⟨u77, hu77, r78⟩ := bind_some r73; clear r73
        refine Cov.callS (b1 := []) (b2 := [_, _, _, _, _]) (s1 := []) [_] [] .ro rfl rfl Try.call12 rfl rfl (planner_Best_c (G := G) List.mem_cons_self  hu77) rfl (fun v80 bo so h79 => ?_)
        obtain ⟨rfl, rfl, rfl⟩ := h79
        refine Cov.same (bl' := [_, _, _, _, _]) (sl' := []) rfl rfl rfl ?_
        refine Cov.q .ro (.move rfl) rfl ?_
        refine Cov.q .ro (.extract rfl rfl) rfl ?_
        refine Cov.q .ro (.extract rfl rfl) rfl ?_
        refine Cov.alloc .ro ty35 rfl (fun b81 hb81 => ?_)
        refine Cov.store 0 [_, _, _, _, _, _, _, _] [_, _, _, _, _, _] .ro rfl rfl rfl ty35 rfl rfl rfl rfl ?_
        refine Cov.q .ro (.assign rfl) rfl ?_
        refine Cov.region_end ?_
        refine Cov.prune [(7, _), (8, _), (9, _), (10, _)] ⟨rfl, rfl, rfl, rfl, trivial⟩ ?_
        refine Cov.seq ?_
        refine Cov.region rfl ?_
        refine Cov.q .ro (.move rfl) rfl ?_
        refine Cov.q .ro (.neq rfl rfl) rfl ?_
        refine Cov.q .ro (.move rfl) rfl ?_
        refine Cov.cutR 10 (β := Unit) (fun y => [(73, .bool (decide ((u72.2 ≠ 0) ∨ ((u77.2 = 0) ∧ (u77.1.2.2 ≤ u72.1.2.2)))))]) [] (fun y => G :: Fs) (fun y => []) [_, _, _, _, _, _] (fun y => []) [] (fun y => True) trivial [0, 1, 2, 3, 4, 5] rfl [] rfl ?_ ?_
        · rintro _ _
          refine Cov.prune [(73, .bool (decide ((u72.2 ≠ 0) ∨ ((u77.2 = 0) ∧ (u77.1.2.2 ≤ u72.1.2.2)))))] ⟨rfl, trivial⟩ ?_
          refine Cov.same (bl' := [_, _, _, _, _, _]) (sl' := []) (Fs' := G :: Fs) rfl rfl rfl ?_
          refine Cov.q .ro (.assign rfl) rfl ?_
          refine Cov.region_end ?_
          cases r78
          refine Cov.drop 6 0 [] _ rfl rfl ?_
          refine Cov.retS (c := ⟨4, none⟩) (.inr ⟨_, rfl⟩) [.tmp 2] [_] rfl Try.func4 Try.results4 ⟨RV.tmp rfl, trivial⟩ (fun _ h => List.mem_cons_of_mem _ h) ⟨rfl, rfl, rfl⟩
        · intro hb87
          refine Cov.split 63 rfl (fun c86 => ?_) (fun c86 => ?_)
          · refine Cov.g_off rfl rfl rfl ?_
            refine Cov.g_off rfl rfl rfl ?_
            refine Cov.g_off rfl rfl rfl ?_
            refine Cov.gu_off rfl rfl ?_
            refine Cov.gu_off rfl rfl ?_
            refine Cov.gu_off rfl rfl ?_
            refine Cov.gu_off rfl rfl ?_
            refine Cov.gu_off rfl rfl ?_
            refine Cov.g_off rfl rfl rfl ?_
            refine Cov.q .ro (.pick_t rfl rfl) rfl ?_
            refine Cov.prune _ ?_ (Cov.same rfl rfl rfl (hb87 () trivial))
            exact ⟨dor_t c86, trivial⟩
          · refine Cov.g_on rfl ?_
            refine Cov.q .ro (.move rfl) rfl ?_
            refine Cov.g_on rfl ?_
            refine Cov.q .ro (.eql rfl rfl) rfl ?_
            refine Cov.g_on rfl ?_
            refine Cov.q .ro (.move rfl) rfl ?_
            refine Cov.cutR 6 (β := Unit) (fun y => [(72, .bool (decide ((u77.2 = 0) ∧ (u77.1.2.2 ≤ u72.1.2.2))))]) [(63, _)] (fun y => G :: Fs) (fun y => []) [_, _, _, _, _, _] (fun y => []) [] (fun y => True) ⟨rfl, trivial⟩ [0, 1, 2, 3, 4, 5] rfl [] rfl ?_ ?_
            · rintro _ _
              refine Cov.prune [(72, .bool (decide ((u77.2 = 0) ∧ (u77.1.2.2 ≤ u72.1.2.2)))), (63, _)] ⟨rfl, rfl, trivial⟩ ?_
              refine Cov.same (bl' := [_, _, _, _, _, _]) (sl' := []) (Fs' := G :: Fs) rfl rfl rfl ?_
              refine Cov.q .ro (.pick_f rfl rfl) rfl ?_
              refine Cov.prune _ ?_ (Cov.same rfl rfl rfl (hb87 () trivial))
              exact ⟨dor_f c86, trivial⟩
            · intro hb91
              refine Cov.split 66 rfl (fun c90 => ?_) (fun c90 => ?_)
              · refine Cov.g_on rfl ?_
                refine Cov.q .ro (.fieldAddr 7 rfl fl35_2 ty3.sz rfl) rfl ?_
                refine Cov.g_on rfl ?_
                refine Cov.q .ro (.load_own 0 rfl rfl ty3 rfl) rfl ?_
                refine Cov.g_on rfl ?_
                refine Cov.q .ro (.fieldAddr 7 rfl fl35_2 ty3.sz rfl) rfl ?_
                refine Cov.g_on rfl ?_
                refine Cov.q .ro (.load_own 1 rfl rfl ty3 rfl) rfl ?_
                refine Cov.g_on rfl ?_
                refine Cov.q .ro (.leq rfl rfl) rfl ?_
                refine Cov.g_on rfl ?_
                refine Cov.q .ro (.pick_t rfl rfl) rfl ?_
                refine Cov.prune _ ?_ (Cov.same rfl rfl rfl (hb91 () trivial))
                exact ⟨dand_t c90, rfl, trivial⟩
              · refine Cov.g_off rfl rfl rfl ?_
                refine Cov.g_off rfl rfl rfl ?_
                refine Cov.g_off rfl rfl rfl ?_
                refine Cov.g_off rfl rfl rfl ?_
                refine Cov.g_off rfl rfl rfl ?_
                refine Cov.g_on rfl ?_
                refine Cov.q .ro (.pick_f rfl rfl) rfl ?_
                refine Cov.prune _ ?_ (Cov.same rfl rfl rfl (hb91 () trivial))
                exact ⟨dand_f c90, rfl, trivial⟩
    · intro hb63
      refine Cov.split_b 45 rfl (fun c62 => ?_) (fun c62 => ?_)
      · have r94 := ifT h65 c62
        refine Cov.g_on rfl ?_
        refine Cov.q .ro (.load_own_a 0 [_, _, _, _] rfl rfl ty33 rfl) rfl ?_
        refine Cov.g_on rfl ?_
        refine Cov.q .ro (.load_own_a 2 [_, _, _, _, _, _, _, _, _, _] rfl rfl ty29 rfl) rfl ?_
        refine Cov.g_on rfl ?_
        obtain ⟨u95, hu95, r96⟩ := bind_some r94; clear r94
        refine Cov.callS (b1 := []) (b2 := [_, _, _, _]) (s1 := []) [_, _] [] .ro rfl rfl Try.call16 rfl rfl (planner_Serves_c (G := G) List.mem_cons_self  hu95) rfl (fun v98 bo so h97 => ?_)
        obtain ⟨rfl, rfl, rfl⟩ := h97
        refine Cov.same (bl' := [_, _, _, _]) (sl' := []) rfl rfl rfl ?_
        refine Cov.g_on rfl ?_
        refine Cov.q .ro (.not rfl) rfl ?_
        refine Cov.q .ro (.pick_t rfl rfl) rfl ?_
        refine Cov.prune _ ?_ (Cov.same rfl rfl rfl (hb63 () trivial))
        exact ⟨sval r96, rfl, rfl, trivial⟩
      · have r99 := ifBF h65 c62
        refine Cov.g_off rfl rfl rfl ?_
        refine Cov.g_off rfl rfl rfl ?_
        refine Cov.g_off rfl rfl rfl ?_
        refine Cov.g_off rfl rfl rfl ?_
        refine Cov.q .ro (.pick_f rfl rfl) rfl ?_
        refine Cov.prune _ ?_ (Cov.same rfl rfl rfl (hb63 () trivial))
        exact ⟨sval r99, rfl, rfl, trivial⟩

end Go.Proofs.Ytmjidoadjinhgaa
