/- The walks. Printed by wip/lift/drive.py. -/
import Derived.Test.YtmjidoadjinhgaaW3
namespace Go.Proofs.Ytmjidoadjinhgaa
open Go.RowKit
set_option linter.unusedSimpArgs false
set_option linter.unusedVariables false
set_option synthInstance.maxSize 2000
set_option synthInstance.maxHeartbeats 400000

set_option maxHeartbeats 4000000 in
theorem law29_PlannerScales_c {Fs : List Hp} {G : Hp} {a0 : Option Addr} {k0 : Nat} {x0 : List Int} {x1 : Int} {r : Bool} (hG : G ∈ Fs) (s0 : SlR (Rep.int .u8) G a0 k0 x0) (h : law29_PlannerScales x0 x1 = some r) : RetS Try.prog 6 #[.slice a0 x0.length k0, .int .u8 x1] Fs [] [] (fun v bo so => v = .bool r ∧ bo = [] ∧ so = []) := by
  unfold law29_PlannerScales at h
  try dsimp only at h
  refine RetS.of (vs := [_, _]) Try.func6 rfl Try.ntmps6 [(0, _), (1, _)] ⟨rfl, rfl, trivial⟩ rfl hG fun w0 S0 hS0 B0 => ?_
  refine Cov.seq ?_
  refine Cov.region rfl ?_
  refine Cov.q .ro (.assign rfl) rfl ?_
  refine Cov.region_end ?_
  refine Cov.seq ?_
  refine Cov.seq ?_
  refine Cov.region rfl ?_
  obtain ⟨u1, hu1, r2⟩ := bind_some h; clear h
  refine Cov.callS (b1 := []) (b2 := []) (s1 := []) [] [] .ro rfl rfl Try.call8 rfl rfl (law29_sane_c (G := G) List.mem_cons_self  hu1) rfl (fun v4 bo so h3 => ?_)
  obtain ⟨rfl, rfl, rfl⟩ := h3
  refine Cov.same (bl' := []) (sl' := []) rfl rfl rfl ?_
  refine Cov.q .ro (.not rfl) rfl ?_
  refine Cov.region_end ?_
  refine Cov.cond rfl (fun c5 => ?_) (fun c5 => ?_)
  · have r6 := ifT r2 c5; clear r2
    refine Cov.seq ?_
    refine Cov.region rfl ?_
    refine Cov.q .ro (.assign rfl) rfl ?_
    refine Cov.region_end ?_
    cases r6
    refine Cov.retS (c := ⟨6, none⟩) (.inr ⟨_, rfl⟩) [.tmp 4] [_] rfl Try.func6 Try.results6 ⟨RV.tmp rfl, trivial⟩ (fun _ h => List.mem_cons_of_mem _ h) ⟨rfl, rfl, rfl⟩
  · have r7 := ifBF r2 c5; clear r2
    refine Cov.skip ?_
    refine Cov.seq ?_
    refine Cov.region rfl ?_
    refine Cov.q .ro (.move rfl) rfl ?_
    obtain ⟨u8, hu8, r9⟩ := bind_some r7; clear r7
    refine Cov.callS (b1 := []) (b2 := []) (s1 := []) [_] [] .ro rfl rfl Try.call9 rfl rfl (play_New_c (G := G) List.mem_cons_self s0 hu8) rfl (fun v11 bo so h10 => ?_)
    obtain ⟨a13, k14, b12, rfl, rfl, rfl, s15⟩ := h10
    refine Cov.same (bl' := [_]) (sl' := []) rfl rfl rfl ?_
    refine Cov.q .ro (.assign rfl) rfl ?_
    refine Cov.region_end ?_
    refine Cov.seq ?_
    refine Cov.region rfl ?_
    refine Cov.q .ro (.move rfl) rfl ?_
    obtain ⟨u16, hu16, r17⟩ := bind_some r9; clear r9
    refine Cov.callS (b1 := [_]) (b2 := []) (s1 := []) [_] [] .ro rfl rfl Try.call10 rfl rfl (law29_wanted_c (G := G) List.mem_cons_self s15 hu16) rfl (fun v19 bo so h18 => ?_)
    obtain ⟨a20, k21, rfl, rfl, rfl, s22⟩ := h18
    refine Cov.same (bl' := [_]) (sl' := []) rfl rfl rfl ?_
    refine Cov.alloc .ro ty29 rfl (fun b23 hb23 => ?_)
    refine Cov.store 0 [_, _, _, _, _, _, _, _, _, _] [_, _] .ro rfl rfl rfl ty29 rfl rfl rfl rfl ?_
    refine Cov.region_end ?_
    refine Cov.seq ?_
    refine Cov.region rfl ?_
    refine Cov.q .ro (.move rfl) rfl ?_
    obtain ⟨u24, hu24, r25⟩ := bind_some r17; clear r17
    refine Cov.pull 1 rfl [_, _] rfl ?_
    refine Cov.callS (b1 := [_]) (b2 := [_]) (s1 := []) [_, _] [] .ro rfl rfl Try.call18 rfl rfl (play_Dice_Pick_c (G := G) List.mem_cons_self s22 hu24) rfl (fun v27 bo so h26 => ?_)
    obtain ⟨a28, k29, rfl, rfl, rfl, s30⟩ := h26
    refine Cov.same (bl' := [_, _]) (sl' := []) rfl rfl rfl ?_
    refine Cov.q .ro (.move rfl) rfl ?_
    obtain ⟨u31, hu31, r32⟩ := bind_some r25; clear r25
    refine Cov.callS (b1 := [_]) (b2 := [_]) (s1 := []) [_, _] [] .ro rfl rfl Try.call18 rfl rfl (play_Dice_Pick_c (G := G) List.mem_cons_self s30 hu31) rfl (fun v34 bo so h33 => ?_)
    obtain ⟨a35, k36, rfl, rfl, rfl, s37⟩ := h33
    refine Cov.same (bl' := [_, _]) (sl' := []) rfl rfl rfl ?_
    refine Cov.q .ro (.move rfl) rfl ?_
    obtain ⟨u38, hu38, r39⟩ := bind_some r32; clear r32
    refine Cov.callS (b1 := [_]) (b2 := [_]) (s1 := []) [_, _] [] .ro rfl rfl Try.call18 rfl rfl (play_Dice_Pick_c (G := G) List.mem_cons_self s37 hu38) rfl (fun v41 bo so h40 => ?_)
    obtain ⟨a42, k43, rfl, rfl, rfl, s44⟩ := h40
    refine Cov.same (bl' := [_, _]) (sl' := []) rfl rfl rfl ?_
    refine Cov.q .ro (.build [_, _, _] [(0, _), (1, _), (2, _)] ty27 pl27 rfl rfl) rfl ?_
    refine Cov.q .ro (.fieldAddr 7 rfl fl29_7 ty27.sz rfl) rfl ?_
    refine Cov.store 1 [_, _, _, _, _, _, _, _, _, _] [_, _] .ro rfl rfl rfl ty27 rfl rfl rfl rfl ?_
    refine Cov.region_end ?_
    refine Cov.prune [(1, _), (6, _)] ⟨rfl, rfl, trivial⟩ ?_
    refine Cov.seq ?_
    refine Cov.region rfl ?_
    refine Cov.q .ro (.load_own_a 1 [_, _, _, _, _, _, _, _, _, _] rfl rfl ty29 rfl) rfl ?_
    refine Cov.alloc .ro ty29 rfl (fun b45 hb45 => ?_)
    refine Cov.store 0 [_, _, _, _, _, _, _, _, _, _] [_, _, _] .ro rfl rfl rfl ty29 rfl rfl rfl rfl ?_
    refine Cov.region_end ?_
    refine Cov.seq ?_
    refine Cov.region rfl ?_
    refine Cov.q .ro (.move rfl) rfl ?_
    refine Cov.q .ro (.convw Try.underlying5 Try.underlying3 rfl) rfl ?_
    refine Cov.q .ro (.remt rfl rfl (by decide)) rfl ?_
    refine Cov.q .ro (.addw rfl rfl) rfl ?_
    refine Cov.q .ro (.assign rfl) rfl ?_
    refine Cov.region_end ?_
    refine Cov.seq ?_
    refine Cov.region rfl ?_
    refine Cov.q .ro (.fieldAddr 7 rfl fl29_7 ty27.sz rfl) rfl ?_
    refine Cov.q .ro (.fieldAddr 7 rfl fl27_0 ty3.sz rfl) rfl ?_
    refine Cov.q .ro (.load_own 2 rfl rfl ty3 rfl) rfl ?_
    refine Cov.q .ro (.move rfl) rfl ?_
    refine Cov.q .ro (.mulw rfl rfl) rfl ?_
    refine Cov.q .ro (.fieldAddr 7 rfl fl29_7 ty27.sz rfl) rfl ?_
    refine Cov.q .ro (.fieldAddr 8 rfl fl27_1 ty3.sz rfl) rfl ?_
    refine Cov.q .ro (.load_own 2 rfl rfl ty3 rfl) rfl ?_
    refine Cov.q .ro (.move rfl) rfl ?_
    refine Cov.q .ro (.mulw rfl rfl) rfl ?_
    refine Cov.q .ro (.fieldAddr 7 rfl fl29_7 ty27.sz rfl) rfl ?_
    refine Cov.q .ro (.fieldAddr 9 rfl fl27_2 ty3.sz rfl) rfl ?_
    refine Cov.q .ro (.load_own 2 rfl rfl ty3 rfl) rfl ?_
    refine Cov.q .ro (.move rfl) rfl ?_
    refine Cov.q .ro (.mulw rfl rfl) rfl ?_
    refine Cov.q .ro (.build [_, _, _] [(0, _), (1, _), (2, _)] ty27 pl27 rfl rfl) rfl ?_
    refine Cov.q .ro (.fieldAddr 7 rfl fl29_7 ty27.sz rfl) rfl ?_
    refine Cov.store 0 [_, _, _, _, _, _, _, _, _, _] [_, _, _] .ro rfl rfl rfl ty27 rfl rfl rfl rfl ?_
    refine Cov.region_end ?_
    refine Cov.prune [(6, _), (7, _), (8, _)] ⟨rfl, rfl, rfl, trivial⟩ ?_
    refine Cov.seq ?_
    refine Cov.region rfl ?_
    refine Cov.q .ro (.load_own_a 2 [_, _, _, _, _, _, _, _, _, _] rfl rfl ty29 rfl) rfl ?_
    obtain ⟨u46, hu46, r47⟩ := bind_some r39; clear r39
    refine Cov.callS (b1 := []) (b2 := [_, _, _]) (s1 := []) [_] [] .ro rfl rfl Try.call12 rfl rfl (planner_Best_c (G := G) List.mem_cons_self  hu46) rfl (fun v49 bo so h48 => ?_)
    obtain ⟨rfl, rfl, rfl⟩ := h48
    refine Cov.same (bl' := [_, _, _]) (sl' := []) rfl rfl rfl ?_
    refine Cov.q .ro (.move rfl) rfl ?_
    refine Cov.q .ro (.extract rfl rfl) rfl ?_
    refine Cov.q .ro (.extract rfl rfl) rfl ?_
    refine Cov.alloc .ro ty35 rfl (fun b50 hb50 => ?_)
    refine Cov.store 0 [_, _, _, _, _, _, _, _] [_, _, _, _] .ro rfl rfl rfl ty35 rfl rfl rfl rfl ?_
    refine Cov.q .ro (.assign rfl) rfl ?_
    refine Cov.region_end ?_
    refine Cov.seq ?_
    refine Cov.region rfl ?_
    refine Cov.q .ro (.load_own_a 1 [_, _, _, _, _, _, _, _, _, _] rfl rfl ty29 rfl) rfl ?_
    obtain ⟨u51, hu51, r52⟩ := bind_some r47; clear r47
    refine Cov.callS (b1 := []) (b2 := [_, _, _, _]) (s1 := []) [_] [] .ro rfl rfl Try.call12 rfl rfl (planner_Best_c (G := G) List.mem_cons_self  hu51) rfl (fun v54 bo so h53 => ?_)
    obtain ⟨rfl, rfl, rfl⟩ := h53
    refine Cov.same (bl' := [_, _, _, _]) (sl' := []) rfl rfl rfl ?_
    refine Cov.q .ro (.move rfl) rfl ?_
    refine Cov.q .ro (.extract rfl rfl) rfl ?_
    refine Cov.q .ro (.extract rfl rfl) rfl ?_
    refine Cov.alloc .ro ty35 rfl (fun b55 hb55 => ?_)
    refine Cov.store 0 [_, _, _, _, _, _, _, _] [_, _, _, _, _] .ro rfl rfl rfl ty35 rfl rfl rfl rfl ?_
    refine Cov.q .ro (.assign rfl) rfl ?_
    refine Cov.region_end ?_
    refine Cov.seq ?_
    refine Cov.region rfl ?_
    refine Cov.q .ro (.move rfl) rfl ?_
    refine Cov.q .ro (.move rfl) rfl ?_
    refine Cov.q .ro (.eql rfl rfl) rfl ?_
    refine Cov.q .ro (.move rfl) rfl ?_
    refine Cov.cutR 26 (β := Unit) (fun y => [(88, .bool (decide ((u46.2 = u51.2) ∧ ((u46.2 ≠ 0) ∨ ((((u46.1.1.1, u46.1.1.2.1, u46.1.1.2.2.1, u46.1.1.2.2.2) = (u51.1.1.1, u51.1.1.2.1, u51.1.1.2.2.1, u51.1.1.2.2.2)) ∧ ((u46.1.2.1.1, u46.1.2.1.2.1, u46.1.2.1.2.2) = (u51.1.2.1.1, u51.1.2.1.2.1, u51.1.2.1.2.2))) ∧ (u51.1.2.2 = (w64 (u46.1.2.2 * (w64 (1 + (Int.tmod (w64 x1) 50)))))))))))]) [] (fun y => G :: Fs) (fun y => []) [_, _, _, _, _] (fun y => []) [] (fun y => True) trivial [0, 1, 2, 3, 4] rfl [] rfl ?_ ?_
    · rintro _ _
      refine Cov.prune [(88, .bool (decide ((u46.2 = u51.2) ∧ ((u46.2 ≠ 0) ∨ ((((u46.1.1.1, u46.1.1.2.1, u46.1.1.2.2.1, u46.1.1.2.2.2) = (u51.1.1.1, u51.1.1.2.1, u51.1.1.2.2.1, u51.1.1.2.2.2)) ∧ ((u46.1.2.1.1, u46.1.2.1.2.1, u46.1.2.1.2.2) = (u51.1.2.1.1, u51.1.2.1.2.1, u51.1.2.1.2.2))) ∧ (u51.1.2.2 = (w64 (u46.1.2.2 * (w64 (1 + (Int.tmod (w64 x1) 50)))))))))))] ⟨rfl, trivial⟩ ?_
      refine Cov.same (bl' := [_, _, _, _, _]) (sl' := []) (Fs' := G :: Fs) rfl rfl rfl ?_
      refine Cov.q .ro (.assign rfl) rfl ?_
      refine Cov.region_end ?_
      cases r52
      refine Cov.drop 5 0 [] _ rfl rfl ?_
      refine Cov.retS (c := ⟨6, none⟩) (.inr ⟨_, rfl⟩) [.tmp 4] [_] rfl Try.func6 Try.results6 ⟨RV.tmp rfl, trivial⟩ (fun _ h => List.mem_cons_of_mem _ h) ⟨rfl, rfl, rfl⟩
    · intro hb77
      refine Cov.split 62 rfl (fun c76 => ?_) (fun c76 => ?_)
      · refine Cov.g_on rfl ?_
        refine Cov.q .ro (.move rfl) rfl ?_
        refine Cov.g_on rfl ?_
        refine Cov.q .ro (.neq rfl rfl) rfl ?_
        refine Cov.g_on rfl ?_
        refine Cov.q .ro (.move rfl) rfl ?_
        refine Cov.cutR 22 (β := Unit) (fun y => [(87, .bool (decide ((u46.2 ≠ 0) ∨ ((((u46.1.1.1, u46.1.1.2.1, u46.1.1.2.2.1, u46.1.1.2.2.2) = (u51.1.1.1, u51.1.1.2.1, u51.1.1.2.2.1, u51.1.1.2.2.2)) ∧ ((u46.1.2.1.1, u46.1.2.1.2.1, u46.1.2.1.2.2) = (u51.1.2.1.1, u51.1.2.1.2.1, u51.1.2.1.2.2))) ∧ (u51.1.2.2 = (w64 (u46.1.2.2 * (w64 (1 + (Int.tmod (w64 x1) 50))))))))))]) [(62, _)] (fun y => G :: Fs) (fun y => []) [_, _, _, _, _] (fun y => []) [] (fun y => True) ⟨rfl, trivial⟩ [0, 1, 2, 3, 4] rfl [] rfl ?_ ?_
        · rintro _ _
          refine Cov.prune [(87, .bool (decide ((u46.2 ≠ 0) ∨ ((((u46.1.1.1, u46.1.1.2.1, u46.1.1.2.2.1, u46.1.1.2.2.2) = (u51.1.1.1, u51.1.1.2.1, u51.1.1.2.2.1, u51.1.1.2.2.2)) ∧ ((u46.1.2.1.1, u46.1.2.1.2.1, u46.1.2.1.2.2) = (u51.1.2.1.1, u51.1.2.1.2.1, u51.1.2.1.2.2))) ∧ (u51.1.2.2 = (w64 (u46.1.2.2 * (w64 (1 + (Int.tmod (w64 x1) 50)))))))))), (62, _)] ⟨rfl, rfl, trivial⟩ ?_
          refine Cov.same (bl' := [_, _, _, _, _]) (sl' := []) (Fs' := G :: Fs) rfl rfl rfl ?_
          refine Cov.q .ro (.pick_t rfl rfl) rfl ?_
          refine Cov.prune _ ?_ (Cov.same rfl rfl rfl (hb77 () trivial))
          exact ⟨dand_t c76, trivial⟩
        · intro hb89
          refine Cov.split 65 rfl (fun c88 => ?_) (fun c88 => ?_)
          · refine Cov.g_off rfl rfl rfl ?_
            refine Cov.g_off rfl rfl rfl ?_
            refine Cov.g_off rfl rfl rfl ?_
            refine Cov.g_off rfl rfl rfl ?_
            refine Cov.g_off rfl rfl rfl ?_
            refine Cov.g_off rfl rfl rfl ?_
            refine Cov.gu_off rfl rfl ?_
            refine Cov.gu_off rfl rfl ?_
            refine Cov.gu_off rfl rfl ?_
            refine Cov.gu_off rfl rfl ?_
            refine Cov.gu_off rfl rfl ?_
            refine Cov.g_off rfl rfl rfl ?_
            refine Cov.g_off rfl rfl rfl ?_
            refine Cov.gu_off rfl rfl ?_
            refine Cov.gu_off rfl rfl ?_
            refine Cov.gu_off rfl rfl ?_
            refine Cov.gu_off rfl rfl ?_
            refine Cov.gu_off rfl rfl ?_
            refine Cov.gu_off rfl rfl ?_
            refine Cov.gu_off rfl rfl ?_
            refine Cov.g_off rfl rfl rfl ?_
            refine Cov.g_on rfl ?_
            refine Cov.q .ro (.pick_t rfl rfl) rfl ?_
            refine Cov.prune _ ?_ (Cov.same rfl rfl rfl (hb89 () trivial))
            exact ⟨dor_t c88, rfl, trivial⟩
          · refine Cov.g_on rfl ?_
            refine Cov.q .ro (.fieldAddr 0 rfl fl35_0 ty33.sz rfl) rfl ?_
            refine Cov.g_on rfl ?_
            refine Cov.q .ro (.load_own_a 1 [_, _, _, _] rfl rfl ty33 rfl) rfl ?_
            refine Cov.g_on rfl ?_
            refine Cov.q .ro (.fieldAddr 0 rfl fl35_0 ty33.sz rfl) rfl ?_
            refine Cov.g_on rfl ?_
            refine Cov.q .ro (.load_own_a 0 [_, _, _, _] rfl rfl ty33 rfl) rfl ?_
            refine Cov.g_on rfl ?_
            refine Cov.q .ro (.cast (show Value.bool (decide (([u46.1.1.1, u46.1.1.2.1, u46.1.1.2.2.1, u46.1.1.2.2.2] : List Int) = ([u51.1.1.1, u51.1.1.2.1, u51.1.1.2.2.1, u51.1.1.2.2.2] : List Int))) = Value.bool (decide ((u46.1.1.1, u46.1.1.2.1, u46.1.1.2.2.1, u46.1.1.2.2.2) = (u51.1.1.1, u51.1.1.2.1, u51.1.1.2.2.1, u51.1.1.2.2.2))) from congrArg Value.bool (decide_eq_decide.2 (by simp))) (.eql_i [u46.1.1.1, u46.1.1.2.1, u46.1.1.2.2.1, u46.1.1.2.2.2] [u51.1.1.1, u51.1.1.2.1, u51.1.1.2.2.1, u51.1.1.2.2.2] Try.underlying33 (by kernel_rfl) Try.stoodInHeld33 Try.eqGuardType33 rfl rfl rfl rfl)) rfl ?_
            refine Cov.g_on rfl ?_
            refine Cov.q .ro (.move rfl) rfl ?_
            refine Cov.cutR 6 (β := Unit) (fun y => [(77, .bool (decide (((u46.1.1.1, u46.1.1.2.1, u46.1.1.2.2.1, u46.1.1.2.2.2) = (u51.1.1.1, u51.1.1.2.1, u51.1.1.2.2.1, u51.1.1.2.2.2)) ∧ ((u46.1.2.1.1, u46.1.2.1.2.1, u46.1.2.1.2.2) = (u51.1.2.1.1, u51.1.2.1.2.1, u51.1.2.1.2.2)))))]) [(8, _), (9, _), (11, _), (62, _), (65, _)] (fun y => G :: Fs) (fun y => []) [_, _, _, _, _] (fun y => []) [] (fun y => True) ⟨rfl, rfl, rfl, rfl, rfl, trivial⟩ [0, 1, 2, 3, 4] rfl [] rfl ?_ ?_
            · rintro _ _
              refine Cov.prune [(77, .bool (decide (((u46.1.1.1, u46.1.1.2.1, u46.1.1.2.2.1, u46.1.1.2.2.2) = (u51.1.1.1, u51.1.1.2.1, u51.1.1.2.2.1, u51.1.1.2.2.2)) ∧ ((u46.1.2.1.1, u46.1.2.1.2.1, u46.1.2.1.2.2) = (u51.1.2.1.1, u51.1.2.1.2.1, u51.1.2.1.2.2))))), (8, _), (9, _), (11, _), (62, _), (65, _)] ⟨rfl, rfl, rfl, rfl, rfl, rfl, trivial⟩ ?_
              refine Cov.same (bl' := [_, _, _, _, _]) (sl' := []) (Fs' := G :: Fs) rfl rfl rfl ?_
              refine Cov.g_on rfl ?_
              refine Cov.q .ro (.move rfl) rfl ?_
              refine Cov.cutR 8 (β := Unit) (fun y => [(86, .bool (decide ((((u46.1.1.1, u46.1.1.2.1, u46.1.1.2.2.1, u46.1.1.2.2.2) = (u51.1.1.1, u51.1.1.2.1, u51.1.1.2.2.1, u51.1.1.2.2.2)) ∧ ((u46.1.2.1.1, u46.1.2.1.2.1, u46.1.2.1.2.2) = (u51.1.2.1.1, u51.1.2.1.2.1, u51.1.2.1.2.2))) ∧ (u51.1.2.2 = (w64 (u46.1.2.2 * (w64 (1 + (Int.tmod (w64 x1) 50)))))))))]) [(62, _), (65, _)] (fun y => G :: Fs) (fun y => []) [_, _, _, _, _] (fun y => []) [] (fun y => True) ⟨rfl, rfl, trivial⟩ [0, 1, 2, 3, 4] rfl [] rfl ?_ ?_
              · rintro _ _
                refine Cov.prune [(86, .bool (decide ((((u46.1.1.1, u46.1.1.2.1, u46.1.1.2.2.1, u46.1.1.2.2.2) = (u51.1.1.1, u51.1.1.2.1, u51.1.1.2.2.1, u51.1.1.2.2.2)) ∧ ((u46.1.2.1.1, u46.1.2.1.2.1, u46.1.2.1.2.2) = (u51.1.2.1.1, u51.1.2.1.2.1, u51.1.2.1.2.2))) ∧ (u51.1.2.2 = (w64 (u46.1.2.2 * (w64 (1 + (Int.tmod (w64 x1) 50))))))))), (62, _), (65, _)] ⟨rfl, rfl, rfl, trivial⟩ ?_
                refine Cov.same (bl' := [_, _, _, _, _]) (sl' := []) (Fs' := G :: Fs) rfl rfl rfl ?_
                refine Cov.g_on rfl ?_
                refine Cov.q .ro (.pick_f rfl rfl) rfl ?_
                refine Cov.prune _ ?_ (Cov.same rfl rfl rfl (hb89 () trivial))
                exact ⟨dor_f c88, rfl, trivial⟩
              · intro hb97
                refine Cov.split 78 rfl (fun c96 => ?_) (fun c96 => ?_)
                · refine Cov.g_on rfl ?_
                  refine Cov.q .ro (.fieldAddr 7 rfl fl35_2 ty3.sz rfl) rfl ?_
                  refine Cov.g_on rfl ?_
                  refine Cov.q .ro (.load_own 0 rfl rfl ty3 rfl) rfl ?_
                  refine Cov.g_on rfl ?_
                  refine Cov.q .ro (.fieldAddr 7 rfl fl35_2 ty3.sz rfl) rfl ?_
                  refine Cov.g_on rfl ?_
                  refine Cov.q .ro (.load_own 1 rfl rfl ty3 rfl) rfl ?_
                  refine Cov.g_on rfl ?_
                  refine Cov.q .ro (.move rfl) rfl ?_
                  refine Cov.g_on rfl ?_
                  refine Cov.q .ro (.mulw rfl rfl) rfl ?_
                  refine Cov.g_on rfl ?_
                  refine Cov.q .ro (.eql rfl rfl) rfl ?_
                  refine Cov.g_on rfl ?_
                  refine Cov.q .ro (.pick_t rfl rfl) rfl ?_
                  refine Cov.prune _ ?_ (Cov.same rfl rfl rfl (hb97 () trivial))
                  exact ⟨dand_t c96, rfl, rfl, trivial⟩
                · refine Cov.g_off rfl rfl rfl ?_
                  refine Cov.g_off rfl rfl rfl ?_
                  refine Cov.g_off rfl rfl rfl ?_
                  refine Cov.g_off rfl rfl rfl ?_
                  refine Cov.g_off rfl rfl rfl ?_
                  refine Cov.g_off rfl rfl rfl ?_
                  refine Cov.g_off rfl rfl rfl ?_
                  refine Cov.g_on rfl ?_
                  refine Cov.q .ro (.pick_f rfl rfl) rfl ?_
                  refine Cov.prune _ ?_ (Cov.same rfl rfl rfl (hb97 () trivial))
                  exact ⟨dand_f c96, rfl, rfl, trivial⟩
            · intro hb93
              refine Cov.split 71 rfl (fun c92 => ?_) (fun c92 => ?_)
              · refine Cov.g_on rfl ?_
                refine Cov.q .ro (.fieldAddr 4 rfl fl35_1 ty27.sz rfl) rfl ?_
                refine Cov.g_on rfl ?_
                refine Cov.q .ro (.load_own_a 1 [_, _, _] rfl rfl ty27 rfl) rfl ?_
                refine Cov.g_on rfl ?_
                refine Cov.q .ro (.fieldAddr 4 rfl fl35_1 ty27.sz rfl) rfl ?_
                refine Cov.g_on rfl ?_
                refine Cov.q .ro (.load_own_a 0 [_, _, _] rfl rfl ty27 rfl) rfl ?_
                refine Cov.g_on rfl ?_
                refine Cov.q .ro (.cast (show Value.bool (decide (([u46.1.2.1.1, u46.1.2.1.2.1, u46.1.2.1.2.2] : List Int) = ([u51.1.2.1.1, u51.1.2.1.2.1, u51.1.2.1.2.2] : List Int))) = Value.bool (decide ((u46.1.2.1.1, u46.1.2.1.2.1, u46.1.2.1.2.2) = (u51.1.2.1.1, u51.1.2.1.2.1, u51.1.2.1.2.2))) from congrArg Value.bool (decide_eq_decide.2 (by simp))) (.eql_i [u46.1.2.1.1, u46.1.2.1.2.1, u46.1.2.1.2.2] [u51.1.2.1.1, u51.1.2.1.2.1, u51.1.2.1.2.2] Try.underlying27 (by kernel_rfl) Try.stoodInHeld27 Try.eqGuardType27 rfl rfl rfl rfl)) rfl ?_
                refine Cov.g_on rfl ?_
                refine Cov.q .ro (.pick_t rfl rfl) rfl ?_
                refine Cov.prune _ ?_ (Cov.same rfl rfl rfl (hb93 () trivial))
                exact ⟨dand_t c92, rfl, rfl, rfl, rfl, rfl, trivial⟩
              · refine Cov.g_off rfl rfl rfl ?_
                refine Cov.g_off rfl rfl rfl ?_
                refine Cov.g_off rfl rfl rfl ?_
                refine Cov.g_off rfl rfl rfl ?_
                refine Cov.g_off rfl rfl rfl ?_
                refine Cov.g_on rfl ?_
                refine Cov.q .ro (.pick_f rfl rfl) rfl ?_
                refine Cov.prune _ ?_ (Cov.same rfl rfl rfl (hb93 () trivial))
                exact ⟨dand_f c92, rfl, rfl, rfl, rfl, rfl, trivial⟩
      · refine Cov.g_off rfl rfl rfl ?_
        refine Cov.g_off rfl rfl rfl ?_
        refine Cov.g_off rfl rfl rfl ?_
        refine Cov.gu_off rfl rfl ?_
        refine Cov.gu_off rfl rfl ?_
        refine Cov.gu_off rfl rfl ?_
        refine Cov.gu_off rfl rfl ?_
        refine Cov.gu_off rfl rfl ?_
        refine Cov.gu_off rfl rfl ?_
        refine Cov.gu_off rfl rfl ?_
        refine Cov.gu_off rfl rfl ?_
        refine Cov.gu_off rfl rfl ?_
        refine Cov.gu_off rfl rfl ?_
        refine Cov.gu_off rfl rfl ?_
        refine Cov.gu_off rfl rfl ?_
        refine Cov.gu_off rfl rfl ?_
        refine Cov.gu_off rfl rfl ?_
        refine Cov.gu_off rfl rfl ?_
        refine Cov.gu_off rfl rfl ?_
        refine Cov.gu_off rfl rfl ?_
        refine Cov.gu_off rfl rfl ?_
        refine Cov.gu_off rfl rfl ?_
        refine Cov.gu_off rfl rfl ?_
        refine Cov.gu_off rfl rfl ?_
        refine Cov.g_off rfl rfl rfl ?_
        refine Cov.q .ro (.pick_f rfl rfl) rfl ?_
        refine Cov.prune _ ?_ (Cov.same rfl rfl rfl (hb77 () trivial))
        exact ⟨dand_f c76, trivial⟩

end Go.Proofs.Ytmjidoadjinhgaa
