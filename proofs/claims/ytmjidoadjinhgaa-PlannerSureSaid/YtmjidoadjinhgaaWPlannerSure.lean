/- The walks. Printed by wip/lift/drive.py. -/
import Derived.Test.YtmjidoadjinhgaaW3
namespace Go.Proofs.Ytmjidoadjinhgaa
open Go.RowKit
set_option linter.unusedSimpArgs false
set_option linter.unusedVariables false
set_option synthInstance.maxSize 2000
set_option synthInstance.maxHeartbeats 400000

set_option maxHeartbeats 4000000 in
theorem law29_PlannerSure_c {Fs : List Hp} {G : Hp} {a0 : Option Addr} {k0 : Nat} {x0 : List Int} {r : Bool} (hG : G ∈ Fs) (s0 : SlR (Rep.int .u8) G a0 k0 x0) (h : law29_PlannerSure x0 = some r) : RetS Try.prog 5 #[.slice a0 x0.length k0] Fs [] [] (fun v bo so => v = .bool r ∧ bo = [] ∧ so = []) := by
  unfold law29_PlannerSure at h
  try dsimp only at h
  refine RetS.of (vs := [_]) Try.func5 rfl Try.ntmps5 [(0, _)] ⟨rfl, trivial⟩ rfl hG fun w0 S0 hS0 B0 => ?_
  refine Cov.seq ?_
  refine Cov.region rfl ?_
  refine Cov.q .ro (.assign rfl) rfl ?_
  refine Cov.region_end ?_
  refine Cov.seq ?_
  refine Cov.seq ?_
  refine Cov.region rfl ?_
  obtain ⟨u1, hu1, r2⟩ := bind_some h; clear h
  refine Cov.callS (b1 := []) (b2 := []) (s1 := []) [] [] .ro rfl rfl Try.call8 rfl rfl (law29_sane_c (G := G) List.mem_cons_self  hu1) rfl (fun v4 bo so h3 => ?_)
  obtain ⟨rfl, rfl, rfl⟩ := h3
  refine Cov.same (bl' := []) (sl' := []) rfl rfl rfl ?_
  refine Cov.q .ro (.not rfl) rfl ?_
  refine Cov.region_end ?_
  refine Cov.cond rfl (fun c5 => ?_) (fun c5 => ?_)
  · have r6 := ifT r2 c5; clear r2
    refine Cov.seq ?_
    refine Cov.region rfl ?_
    refine Cov.q .ro (.assign rfl) rfl ?_
    refine Cov.region_end ?_
    cases r6
    refine Cov.retS (c := ⟨5, none⟩) (.inr ⟨_, rfl⟩) [.tmp 2] [_] rfl Try.func5 Try.results5 ⟨RV.tmp rfl, trivial⟩ (fun _ h => List.mem_cons_of_mem _ h) ⟨rfl, rfl, rfl⟩
  · have r7 := ifBF r2 c5; clear r2
    refine Cov.skip ?_
    refine Cov.seq ?_
    refine Cov.region rfl ?_
    refine Cov.q .ro (.move rfl) rfl ?_
    obtain ⟨u8, hu8, r9⟩ := bind_some r7; clear r7
    refine Cov.callS (b1 := []) (b2 := []) (s1 := []) [_] [] .ro rfl rfl Try.call9 rfl rfl (play_New_c (G := G) List.mem_cons_self s0 hu8) rfl (fun v11 bo so h10 => ?_)
    obtain ⟨a13, k14, b12, rfl, rfl, rfl, s15⟩ := h10
    refine Cov.same (bl' := [_]) (sl' := []) rfl rfl rfl ?_
    refine Cov.q .ro (.assign rfl) rfl ?_
    refine Cov.region_end ?_
    refine Cov.seq ?_
    refine Cov.region rfl ?_
    refine Cov.q .ro (.move rfl) rfl ?_
    obtain ⟨u16, hu16, r17⟩ := bind_some r9; clear r9
    refine Cov.callS (b1 := [_]) (b2 := []) (s1 := []) [_] [] .ro rfl rfl Try.call10 rfl rfl (law29_wanted_c (G := G) List.mem_cons_self s15 hu16) rfl (fun v19 bo so h18 => ?_)
    obtain ⟨a20, k21, rfl, rfl, rfl, s22⟩ := h18
    refine Cov.same (bl' := [_]) (sl' := []) rfl rfl rfl ?_
    refine Cov.alloc .ro ty29 rfl (fun b23 hb23 => ?_)
    refine Cov.store 0 [_, _, _, _, _, _, _, _, _, _] [_, _] .ro rfl rfl rfl ty29 rfl rfl rfl rfl ?_
    refine Cov.region_end ?_
    refine Cov.seq ?_
    refine Cov.region rfl ?_
    refine Cov.q .ro (.load_own_a 0 [_, _, _, _, _, _, _, _, _, _] rfl rfl ty29 rfl) rfl ?_
    obtain ⟨u24, hu24, r25⟩ := bind_some r17; clear r17
    refine Cov.callS (b1 := []) (b2 := [_, _]) (s1 := []) [_] [] .ro rfl rfl Try.call13 rfl rfl (planner_Candidates_c (G := G) List.mem_cons_self  hu24) rfl (fun v27 bo so h26 => ?_)
    obtain ⟨a29, k30, cs31, rfl, rfl, rfl, o32⟩ := h26
    refine Cov.same (bl' := [_, _]) (sl' := [_]) rfl rfl rfl ?_
    refine Cov.q .ro (.move rfl) rfl ?_
    refine Cov.q .ro (.extract rfl rfl) rfl ?_
    refine Cov.q .ro (.extract rfl rfl) rfl ?_
    refine Cov.q .ro (.assign rfl) rfl ?_
    refine Cov.q .ro (.assign rfl) rfl ?_
    refine Cov.region_end ?_
    refine Cov.prune [(4, _), (5, _), (6, _)] ⟨rfl, rfl, rfl, trivial⟩ ?_
    refine Cov.seq ?_
    refine Cov.seq ?_
    refine Cov.region rfl ?_
    refine Cov.q .ro (.move rfl) rfl ?_
    refine Cov.q .ro (.neq rfl rfl) rfl ?_
    refine Cov.region_end ?_
    refine Cov.cond_dec rfl (fun c33 => ?_) (fun c33 => ?_)
    · have r34 := ifT r25 c33; clear r25
      refine Cov.seq ?_
      refine Cov.region rfl ?_
      refine Cov.q .ro (.move rfl) rfl ?_
      refine Cov.q .ro (.eql rfl rfl) rfl ?_
      refine Cov.q .ro (.move rfl) rfl ?_
      refine Cov.cutR 4 (β := Unit) (fun y => [(30, .bool (decide ((u24.2 = 42) ∧ ((u24.1.length : Int) = 0))))]) [(4, _)] (fun y => G :: Fs) (fun y => []) [_, _] (fun y => []) [_] (fun y => True) ⟨rfl, trivial⟩ [0, 1] rfl [0] rfl ?_ ?_
      · rintro _ _
        refine Cov.prune [(30, .bool (decide ((u24.2 = 42) ∧ ((u24.1.length : Int) = 0)))), (4, _)] ⟨rfl, rfl, trivial⟩ ?_
        refine Cov.same (bl' := [_, _]) (sl' := [_]) (Fs' := G :: Fs) rfl rfl rfl ?_
        refine Cov.q .ro (.move rfl) rfl ?_
        obtain ⟨u45, h46, r47⟩ := bind_some r34; clear r34
        refine Cov.cutR 4 (β := Unit) (fun y => [(35, .bool u45)]) [] (fun y => G :: Fs) (fun y => []) [_, _] (fun y => []) [_] (fun y => True) trivial [0, 1] rfl [0] rfl ?_ ?_
        · rintro _ _
          refine Cov.prune [(35, .bool u45)] ⟨rfl, trivial⟩ ?_
          refine Cov.same (bl' := [_, _]) (sl' := [_]) (Fs' := G :: Fs) rfl rfl rfl ?_
          refine Cov.q .ro (.assign rfl) rfl ?_
          refine Cov.region_end ?_
          cases r47
          refine Cov.drop 2 0 [] _ rfl rfl ?_
          refine Cov.drop 0 1 _ [] rfl rfl ?_
          refine Cov.retS (c := ⟨5, none⟩) (.inr ⟨_, rfl⟩) [.tmp 2] [_] rfl Try.func5 Try.results5 ⟨RV.tmp rfl, trivial⟩ (fun _ h => List.mem_cons_of_mem _ h) ⟨rfl, rfl, rfl⟩
        · intro hb44
          refine Cov.split 31 rfl (fun c43 => ?_) (fun c43 => ?_)
          · have r50 := ifT h46 c43
            refine Cov.g_on rfl ?_
            refine Cov.q .ro (.load_own_a 0 [_, _, _, _, _, _, _, _, _, _] rfl rfl ty29 rfl) rfl ?_
            refine Cov.g_on rfl ?_
            obtain ⟨u51, hu51, r52⟩ := bind_some r50; clear r50
            refine Cov.callS (b1 := []) (b2 := [_, _]) (s1 := []) [_] [] .ro rfl rfl Try.call11 rfl rfl (planner_Valid_c (G := G) List.mem_cons_self  hu51) rfl (fun v54 bo so h53 => ?_)
            obtain ⟨rfl, rfl, rfl⟩ := h53
            refine Cov.same (bl' := [_, _]) (sl' := [_]) rfl rfl rfl ?_
            refine Cov.g_on rfl ?_
            refine Cov.q .ro (.not rfl) rfl ?_
            refine Cov.q .ro (.pick_t rfl rfl) rfl ?_
            refine Cov.prune _ ?_ (Cov.same rfl rfl rfl (hb44 () trivial))
            exact ⟨sval r52, trivial⟩
          · have r55 := ifF h46 c43
            refine Cov.g_off rfl rfl rfl ?_
            refine Cov.g_off rfl rfl rfl ?_
            refine Cov.g_off rfl rfl rfl ?_
            refine Cov.q .ro (.pick_f rfl rfl) rfl ?_
            refine Cov.prune _ ?_ (Cov.same rfl rfl rfl (hb44 () trivial))
            exact ⟨sval r55, trivial⟩
      · intro hb36
        refine Cov.split 26 rfl (fun c35 => ?_) (fun c35 => ?_)
        · refine Cov.g_on rfl ?_
          refine Cov.q .ro (.move rfl) rfl ?_
          refine Cov.g_on rfl ?_
          refine Cov.q .ro (.len_sl rfl rfl sl39) rfl ?_
          refine Cov.g_on rfl ?_
          refine Cov.q .ro (.eql rfl rfl) rfl ?_
          refine Cov.q .ro (.pick_t rfl rfl) rfl ?_
          refine Cov.prune _ ?_ (Cov.same rfl rfl rfl (hb36 () trivial))
          exact ⟨dand_t c35, rfl, trivial⟩
        · refine Cov.g_off rfl rfl rfl ?_
          refine Cov.g_off rfl rfl rfl ?_
          refine Cov.g_off rfl rfl rfl ?_
          refine Cov.q .ro (.pick_f rfl rfl) rfl ?_
          refine Cov.prune _ ?_ (Cov.same rfl rfl rfl (hb36 () trivial))
          exact ⟨dand_f c35, rfl, trivial⟩
    · have r56 := ifF r25 c33; clear r25
      refine Cov.skip ?_
      refine Cov.seq ?_
      refine Cov.seq ?_
      refine Cov.region rfl ?_
      refine Cov.q .ro (.move rfl) rfl ?_
      refine Cov.q .ro (.len_sl rfl rfl sl39) rfl ?_
      refine Cov.q .ro (.move rfl) rfl ?_
      refine Cov.region_end ?_
      refine Cov.block ?_
      refine Cov.freezeR 0 rfl rfl o32 [] rfl B0 (fun G190 e191 B192 s193 => ?_)
      refine Cov.pull 1 rfl [_, _] rfl ?_
      refine Cov.pull 1 rfl [_, _] rfl ?_
      refine Cov.loop2 (α := Nat × (List ((Int × Int × Int × Int) × (Int × Int × Int) × Int)) × Int × Int × Int × Int × Int × Int × Int × Int × Int × Int × Int) (fun y => [(38, .int .i64 (y.1 : Int))]) [(4, _), (5, _), (36, _), (37, _)] (fun y => []) (fun y => [(b23, .cells #[.int .i64 y.2.2.1, .int .i64 y.2.2.2.1, .int .i64 y.2.2.2.2.1, .int .i64 y.2.2.2.2.2.1, .int .i64 y.2.2.2.2.2.2.1, .int .i64 y.2.2.2.2.2.2.2.1, .int .i64 y.2.2.2.2.2.2.2.2.1, .int .i64 y.2.2.2.2.2.2.2.2.2.1, .int .i64 y.2.2.2.2.2.2.2.2.2.2.1, .int .i64 y.2.2.2.2.2.2.2.2.2.2.2.1] 29 (0, 0)), (b12, .cells #[.slice a20 u16.2.1.length k21, .int .i64 y.2.2.2.2.2.2.2.2.2.2.2.2] 58 (0, 0))]) [] (fun y => []) [] (fun y => List.drop y.1 u24.1 = y.2.1 ∧ law29_PlannerSure_L2 u24.1 y.2.1 y.1 y.2.2.1 y.2.2.2.1 y.2.2.2.2.1 y.2.2.2.2.2.1 y.2.2.2.2.2.2.1 y.2.2.2.2.2.2.2.1 y.2.2.2.2.2.2.2.2.1 y.2.2.2.2.2.2.2.2.2.1 y.2.2.2.2.2.2.2.2.2.2.1 y.2.2.2.2.2.2.2.2.2.2.2.1 y.2.2.2.2.2.2.2.2.2.2.2.2 = some r) (fun y => y.2.1.length) (0, u24.1, u16.1.1, u16.1.2.1, u16.1.2.2.1, u16.1.2.2.2.1, u16.1.2.2.2.2.1, u16.1.2.2.2.2.2.1, u16.1.2.2.2.2.2.2.1, u16.1.2.2.2.2.2.2.2.1, u16.1.2.2.2.2.2.2.2.2.1, u16.1.2.2.2.2.2.2.2.2.2, u16.2.2) ⟨rfl, r56⟩ ⟨rfl, rfl, rfl, rfl, rfl, trivial⟩ rfl rfl rfl (fun y hI hb339 => ?_)
      obtain ⟨i324, w325, v327, v328, v329, v330, v331, v332, v333, v334, v335, v336, v337⟩ := y
      obtain ⟨g326, r338⟩ := hI
      try dsimp only at g326 r338
      refine Cov.prune [(38, .int .i64 (i324 : Int)), (4, _), (5, _), (36, _), (37, _)] ⟨rfl, rfl, rfl, rfl, rfl, trivial⟩ ?_
      refine Cov.same (bl' := [(b23, .cells #[.int .i64 v327, .int .i64 v328, .int .i64 v329, .int .i64 v330, .int .i64 v331, .int .i64 v332, .int .i64 v333, .int .i64 v334, .int .i64 v335, .int .i64 v336] 29 (0, 0)), (b12, .cells #[.slice a20 u16.2.1.length k21, .int .i64 v337] 58 (0, 0))]) (sl' := []) (Fs' := G190 :: Fs) rfl rfl rfl ?_
      cases w325 with
      | nil =>
        rw [law29_PlannerSure_L2] at r338; try dsimp only at r338
        refine Cov.seq ?_
        refine Cov.region rfl ?_
        refine Cov.q .ro (.lss rfl rfl) rfl ?_
        refine Cov.region_end ?_
        refine Cov.seq ?_
        refine Cov.cond_dec rfl (fun c => absurd c (drop_nil g326)) (fun _ => ?_)
        refine Cov.exit rfl ?_
        refine Cov.seq ?_
        refine Cov.region rfl ?_
        refine Cov.q .ro (.assign rfl) rfl ?_
        refine Cov.region_end ?_
        cases r338
        refine Cov.drop 2 0 [] _ rfl rfl ?_
        refine Cov.retS (c := ⟨5, none⟩) (.inr ⟨_, rfl⟩) [.tmp 2] [_] rfl Try.func5 Try.results5 ⟨RV.tmp rfl, trivial⟩ (fun _ h => List.mem_cons_of_mem _ h) ⟨rfl, rfl, rfl⟩
      | cons x344 xs345 =>
        have r343 : law29_PlannerSure_B2 u24.1 (law29_PlannerSure_L2 u24.1 xs345 (i324 + 1)) x344 i324 v327 v328 v329 v330 v331 v332 v333 v334 v335 v336 v337 = some r := r338; clear r338; unfold law29_PlannerSure_B2 at r343; try dsimp only at r343
        refine Cov.seq ?_
        refine Cov.region rfl ?_
        refine Cov.q .ro (.lss rfl rfl) rfl ?_
        refine Cov.region_end ?_
        refine Cov.seq ?_
        refine Cov.cond_dec rfl (fun _ => ?_) (fun c => absurd (drop_lt g326) c)
        refine Cov.skip ?_
        refine Cov.seq ?_
        refine Cov.block ?_
        refine Cov.seq ?_
        refine Cov.region rfl ?_
        refine Cov.q .ro (.move rfl) rfl ?_
        obtain ⟨c346, p347, h348⟩ := SlR.get s193 (drop_idx g326)
        obtain ⟨_, _, rfl, ⟨_, _, rfl, rfl, _, _, rfl, rfl, _, _, rfl, rfl, rfl⟩, _, _, rfl, ⟨_, _, rfl, rfl, _, _, rfl, rfl, rfl⟩, rfl⟩ := h348
        refine Cov.q .ro (.idxR s193 rfl rfl (drop_idx g326) sl39 ty35.sz) rfl ?_
        refine Cov.q .ro (.load_rp_a [_, _, _, _, _, _, _, _] p347 List.mem_cons_self rfl ty35 rfl) rfl ?_
        refine Cov.alloc .ro ty35 rfl (fun b349 hb349 => ?_)
        refine Cov.q .ro (.assign rfl) rfl ?_
        refine Cov.store 0 [_, _, _, _, _, _, _, _] [_, _, _] .ro rfl rfl rfl ty35 rfl rfl rfl rfl ?_
        refine Cov.region_end ?_
        refine Cov.seq ?_
        refine Cov.seq ?_
        refine Cov.drawL (.q 0 (.q 1 (.q 3 (.q 4 (.e 2 1 (.q 5 (.q 6 (.q 7 (.q 8 (.q 9 (.q 10 (.q 11 (.q 12 (.e 13 1 (.q 14 (.q 15 (.q 16 (.q 17 (.q 18 (.q 19 (.q 20 (.q 21 (.q 22 (.q 23 .nil)))))))))))))))))))))))) [_, _, _] (by kernel_rfl) (by kernel_rfl) (pick_mem [0, 1, 2] rfl) ?_
        refine Cov.dq (.fieldAddr 0 rfl fl35_0 ty33.sz rfl) rfl ?_
        refine Cov.dq (.load_own_a 0 [_, _, _, _] rfl rfl ty33 rfl) rfl ?_
        refine Cov.dq (.fieldAddr 1 rfl fl29_1 ty3.sz rfl) rfl ?_
        refine Cov.dq (.load_own 1 rfl rfl ty3 rfl) rfl ?_
        obtain ⟨u350, hu350, r351⟩ := bind_some r343; clear r343
        refine Cov.callS (b1 := []) (b2 := [_, _, _]) (s1 := []) [_] [] .d1 rfl rfl Try.call20 rfl rfl (ref23_Threshold_c (G := G190) List.mem_cons_self  hu350) rfl (fun v353 bo so h352 => ?_)
        obtain ⟨rfl, rfl, rfl⟩ := h352
        refine Cov.same (bl' := [_, _, _]) (sl' := []) rfl rfl rfl ?_
        refine Cov.clsL (HpLe.refl _) (pick_mem [0, 1, 2] rfl) ?_
        refine Cov.dq (.lss rfl rfl) rfl ?_
        refine Cov.dq (.move rfl) rfl ?_
        obtain ⟨u360, h361, r362⟩ := bind_some r351; clear r351
        refine Cov.cutD 9 (β := Unit) (fun y => [(58, .bool u360)]) [(38, _), (4, _), (5, _), (36, _), (37, _), (8, _), (7, _)] (fun y => G190 :: Fs) (fun y => []) [_, _, _] (fun y => []) [] (fun y => True) ⟨rfl, rfl, rfl, rfl, rfl, rfl, rfl, trivial⟩ [0, 1, 2] rfl [] rfl ?_ ?_
        · rintro _ _
          refine Cov.prune [(58, .bool u360), (38, _), (4, _), (5, _), (36, _), (37, _), (8, _), (7, _)] ⟨rfl, rfl, rfl, rfl, rfl, rfl, rfl, rfl, trivial⟩ ?_
          refine Cov.same (bl' := [_, _, _]) (sl' := []) (Fs' := G190 :: Fs) rfl rfl rfl ?_
          refine Cov.dq (.move rfl) rfl ?_
          refine Cov.cutD 7 (β := Unit) (fun y => [(66, .bool (decide ((u360 = true) ∨ (x344.1.2.1 ≠ v327))))]) [(38, _), (4, _), (5, _), (36, _), (37, _), (8, _), (7, _)] (fun y => G190 :: Fs) (fun y => []) [_, _, _] (fun y => []) [] (fun y => True) ⟨rfl, rfl, rfl, rfl, rfl, rfl, rfl, trivial⟩ [0, 1, 2] rfl [] rfl ?_ ?_
          · rintro _ _
            refine Cov.prune [(66, .bool (decide ((u360 = true) ∨ (x344.1.2.1 ≠ v327)))), (38, _), (4, _), (5, _), (36, _), (37, _), (8, _), (7, _)] ⟨rfl, rfl, rfl, rfl, rfl, rfl, rfl, rfl, trivial⟩ ?_
            refine Cov.same (bl' := [_, _, _]) (sl' := []) (Fs' := G190 :: Fs) rfl rfl rfl ?_
            refine Cov.draw_end ?_
            refine Cov.cond_dec rfl (fun c369 => ?_) (fun c369 => ?_)
            · have r370 := ifT r362 c369; clear r362
              refine Cov.seq ?_
              refine Cov.region rfl ?_
              refine Cov.q .ro (.assign rfl) rfl ?_
              refine Cov.region_end ?_
              cases r370
              refine Cov.drop 3 0 [] _ rfl rfl ?_
              refine Cov.retS (c := ⟨5, none⟩) (.inr ⟨_, rfl⟩) [.tmp 2] [_] rfl Try.func5 Try.results5 ⟨RV.tmp rfl, trivial⟩ (fun _ h => List.mem_cons_of_mem _ h) ⟨rfl, rfl, rfl⟩
            · have r371 := ifF r362 c369; clear r362
              refine Cov.skip ?_
              refine Cov.seq ?_
              refine Cov.region rfl ?_
              refine Cov.q .ro (.move rfl) rfl ?_
              refine Cov.q .ro (.move rfl) rfl ?_
              obtain ⟨u372, hu372, r373⟩ := bind_some r371; clear r371
              obtain ⟨a374, k375, h376, s377⟩ := SlR.sub s193 hu372
              refine Cov.q .ro (.sliceR s193 rfl hu372 sl39 ty35.sz (fun _ => .no) (fun h => .yes' rfl h) h376) rfl ?_
              refine Cov.q .ro (.len_sl rfl rfl sl39) rfl ?_
              refine Cov.q .ro (.move rfl) rfl ?_
              refine Cov.region_end ?_
              refine Cov.block ?_
              refine Cov.loop2 (α := Nat × (List ((Int × Int × Int × Int) × (Int × Int × Int) × Int))) (fun y => [(71, .int .i64 (y.1 : Int))]) [(38, _), (4, _), (5, _), (36, _), (37, _), (8, _), (69, _), (70, _)] (fun y => []) (fun y => []) [_, _, _] (fun y => []) [] (fun y => List.drop y.1 u372 = y.2 ∧ law29_PlannerSure_L1 (law29_PlannerSure_L2 u24.1 xs345 (i324 + 1)) x344.1.1 x344.1.2.1 x344.1.2.2.1 x344.1.2.2.2 v327 v328 v329 v330 v331 v332 v333 v334 v335 v336 v337 y.2  = some r) (fun y => y.2.length) (0, u372) ⟨rfl, r373⟩ ⟨rfl, rfl, rfl, rfl, rfl, rfl, rfl, rfl, rfl, trivial⟩ rfl rfl rfl (fun y hI hb416 => ?_)
              obtain ⟨i412, w413⟩ := y
              obtain ⟨g414, r415⟩ := hI
              try dsimp only at g414 r415
              refine Cov.prune [(71, .int .i64 (i412 : Int)), (38, _), (4, _), (5, _), (36, _), (37, _), (8, _), (69, _), (70, _)] ⟨rfl, rfl, rfl, rfl, rfl, rfl, rfl, rfl, rfl, trivial⟩ ?_
              refine Cov.same (bl' := [_, _, _]) (sl' := []) (Fs' := G190 :: Fs) rfl rfl rfl ?_
              cases w413 with
              | nil =>
                rw [law29_PlannerSure_L1] at r415; try dsimp only at r415
                refine Cov.seq ?_
                refine Cov.region rfl ?_
                refine Cov.q .ro (.lss rfl rfl) rfl ?_
                refine Cov.region_end ?_
                refine Cov.seq ?_
                refine Cov.cond_dec rfl (fun c => absurd c (drop_nil g414)) (fun _ => ?_)
                refine Cov.exit rfl ?_
                refine Cov.inBlock ?_
                refine Cov.region rfl ?_
                refine Cov.q .ro (.addw rfl rfl) rfl ?_
                refine Cov.q .ro (.move rfl) rfl ?_
                refine Cov.region_end ?_
                refine Cov.drop 1 0 [_, _] _ rfl rfl ?_
                refine Cov.prune _ ?_ (Cov.same rfl rfl rfl (hb339 ((i324 + 1), xs345, v327, v328, v329, v330, v331, v332, v333, v334, v335, v336, v337) ⟨(drop_succ g326), r415⟩ (Nat.lt_succ_self _)))
                exact ⟨(congrArg (fun z => some (Value.int .i64 z)) (idx_wrap (OL.len' o32) g326)), rfl, rfl, rfl, rfl, trivial⟩
              | cons x443 xs444 =>
                have r442 : law29_PlannerSure_B1 (law29_PlannerSure_L2 u24.1 xs345 (i324 + 1)) x344.1.1 x344.1.2.1 x344.1.2.2.1 x344.1.2.2.2 v327 v328 v329 v330 v331 v332 v333 v334 v335 v336 v337 (law29_PlannerSure_L1 (law29_PlannerSure_L2 u24.1 xs345 (i324 + 1)) x344.1.1 x344.1.2.1 x344.1.2.2.1 x344.1.2.2.2 v327 v328 v329 v330 v331 v332 v333 v334 v335 v336 v337 xs444) x443  = some r := r415; clear r415; unfold law29_PlannerSure_B1 at r442; try dsimp only at r442
                refine Cov.seq ?_
                refine Cov.region rfl ?_
                refine Cov.q .ro (.lss rfl rfl) rfl ?_
                refine Cov.region_end ?_
                refine Cov.seq ?_
                refine Cov.cond_dec rfl (fun _ => ?_) (fun c => absurd (drop_lt g414) c)
                refine Cov.skip ?_
                refine Cov.seq ?_
                refine Cov.block ?_
                refine Cov.seq ?_
                refine Cov.region rfl ?_
                obtain ⟨c445, p446, h447⟩ := SlR.get s377 (drop_idx g414)
                obtain ⟨_, _, rfl, ⟨_, _, rfl, rfl, _, _, rfl, rfl, _, _, rfl, rfl, rfl⟩, _, _, rfl, ⟨_, _, rfl, rfl, _, _, rfl, rfl, rfl⟩, rfl⟩ := h447
                refine Cov.q .ro (.idxR s377 rfl rfl (drop_idx g414) sl39 ty35.sz) rfl ?_
                refine Cov.q .ro (.load_rp_a [_, _, _, _, _, _, _, _] p446 List.mem_cons_self rfl ty35 rfl) rfl ?_
                refine Cov.alloc .ro ty35 rfl (fun b448 hb448 => ?_)
                refine Cov.store 0 [_, _, _, _, _, _, _, _] [_, _, _, _] .ro rfl rfl rfl ty35 rfl rfl rfl rfl ?_
                refine Cov.region_end ?_
                refine Cov.seq ?_
                refine Cov.region rfl ?_
                refine Cov.q .ro (.fieldAddr 0 rfl fl35_0 ty33.sz rfl) rfl ?_
                refine Cov.q .ro (.load_own_a 0 [_, _, _, _] rfl rfl ty33 rfl) rfl ?_
                refine Cov.q .ro (.fieldAddr 0 rfl fl35_0 ty33.sz rfl) rfl ?_
                refine Cov.q .ro (.load_own_a 1 [_, _, _, _] rfl rfl ty33 rfl) rfl ?_
                refine Cov.q .ro (.cast (show Value.bool (decide (([x443.1.1, x443.1.2.1, x443.1.2.2.1, x443.1.2.2.2] : List Int) = ([x344.1.1, x344.1.2.1, x344.1.2.2.1, x344.1.2.2.2] : List Int))) = Value.bool (decide ((x443.1.1, x443.1.2.1, x443.1.2.2.1, x443.1.2.2.2) = (x344.1.1, x344.1.2.1, x344.1.2.2.1, x344.1.2.2.2))) from congrArg Value.bool (decide_eq_decide.2 (by simp))) (.eql_i [x443.1.1, x443.1.2.1, x443.1.2.2.1, x443.1.2.2.2] [x344.1.1, x344.1.2.1, x344.1.2.2.1, x344.1.2.2.2] Try.underlying33 (by kernel_rfl) Try.stoodInHeld33 Try.eqGuardType33 rfl rfl rfl rfl)) rfl ?_
                refine Cov.region_end ?_
                refine Cov.cond_dec rfl (fun c449 => ?_) (fun c449 => ?_)
                · have r450 := ifT r442 c449; clear r442
                  refine Cov.seq ?_
                  refine Cov.region rfl ?_
                  refine Cov.q .ro (.assign rfl) rfl ?_
                  refine Cov.region_end ?_
                  refine Cov.prune [(2, _)] ⟨rfl, trivial⟩ ?_
                  cases r450
                  refine Cov.drop 4 0 [] _ rfl rfl ?_
                  refine Cov.retS (c := ⟨5, none⟩) (.inr ⟨_, rfl⟩) [.tmp 2] [_] rfl Try.func5 Try.results5 ⟨RV.tmp rfl, trivial⟩ (fun _ h => List.mem_cons_of_mem _ h) ⟨rfl, rfl, rfl⟩
                · have r451 := ifF r442 c449; clear r442
                  refine Cov.skip ?_
                  refine Cov.inBlock ?_
                  refine Cov.region rfl ?_
                  refine Cov.q .ro (.addw rfl rfl) rfl ?_
                  refine Cov.q .ro (.move rfl) rfl ?_
                  refine Cov.region_end ?_
                  refine Cov.drop 1 0 [_, _, _] _ rfl rfl ?_
                  refine Cov.prune _ ?_ (Cov.same rfl rfl rfl (hb416 ((i412 + 1), xs444) ⟨(drop_succ g414), r451⟩ (Nat.lt_succ_self _)))
                  exact ⟨(congrArg (fun z => some (Value.int .i64 z)) (idx_wrap (SlR.len s377) g414)), rfl, rfl, rfl, rfl, rfl, rfl, rfl, rfl, trivial⟩
          · intro hb366
            refine Cov.split_b 59 rfl (fun c365 => ?_) (fun c365 => ?_)
            · refine Cov.dgq_off rfl rfl rfl ?_
              refine Cov.dgq_off rfl rfl rfl ?_
              refine Cov.dgq_off rfl rfl rfl ?_
              refine Cov.dgq_off rfl rfl rfl ?_
              refine Cov.dgq_off rfl rfl rfl ?_
              refine Cov.dgq_off rfl rfl rfl ?_
              refine Cov.dq (.pick_t rfl rfl) rfl ?_
              refine Cov.prune _ ?_ (Cov.same rfl rfl rfl (hb366 () trivial))
              exact ⟨dor_t c365, rfl, rfl, rfl, rfl, rfl, rfl, rfl, trivial⟩
            · refine Cov.dgq_on rfl ?_
              refine Cov.dq (.fieldAddr 0 rfl fl35_0 ty33.sz rfl) rfl ?_
              refine Cov.dgq_on rfl ?_
              refine Cov.dq (.fieldAddr 1 rfl fl33_1 ty3.sz rfl) rfl ?_
              refine Cov.dgq_on rfl ?_
              refine Cov.dq (.load_own 0 rfl rfl ty3 rfl) rfl ?_
              refine Cov.dgq_on rfl ?_
              refine Cov.dq (.fieldAddr 0 rfl fl29_0 ty3.sz rfl) rfl ?_
              refine Cov.dgq_on rfl ?_
              refine Cov.dq (.load_own 1 rfl rfl ty3 rfl) rfl ?_
              refine Cov.dgq_on rfl ?_
              refine Cov.dq (.neq rfl rfl) rfl ?_
              refine Cov.dq (.pick_f rfl rfl) rfl ?_
              refine Cov.prune _ ?_ (Cov.same rfl rfl rfl (hb366 () trivial))
              exact ⟨dor_f (bne_of c365), rfl, rfl, rfl, rfl, rfl, rfl, rfl, trivial⟩
        · intro hb359
          refine Cov.split 49 rfl (fun c358 => ?_) (fun c358 => ?_)
          · have r452 := ifT h361 c358
            refine Cov.dgq_off rfl rfl rfl ?_
            refine Cov.dgq_off rfl rfl rfl ?_
            refine Cov.dgq_off rfl rfl rfl ?_
            refine Cov.dgq_off rfl rfl rfl ?_
            refine Cov.dgq_off rfl rfl rfl ?_
            refine Cov.dgq_off rfl rfl rfl ?_
            refine Cov.dge_offL rfl rfl rfl (HpLe.refl _) (pick_mem [0, 1, 2] rfl) ?_
            refine Cov.dgq_off rfl rfl rfl ?_
            refine Cov.dq (.pick_t rfl rfl) rfl ?_
            refine Cov.prune _ ?_ (Cov.same rfl rfl rfl (hb359 () trivial))
            exact ⟨sval r452, rfl, rfl, rfl, rfl, rfl, rfl, rfl, trivial⟩
          · have r453 := ifF h361 c358
            refine Cov.dgq_on rfl ?_
            refine Cov.dq (.fieldAddr 0 rfl fl35_0 ty33.sz rfl) rfl ?_
            refine Cov.dgq_on rfl ?_
            refine Cov.dq (.load_own_a 0 [_, _, _, _] rfl rfl ty33 rfl) rfl ?_
            refine Cov.dgq_on rfl ?_
            refine Cov.dq (.fieldAddr 2 rfl fl29_2 ty3.sz rfl) rfl ?_
            refine Cov.dgq_on rfl ?_
            refine Cov.dq (.load_own 1 rfl rfl ty3 rfl) rfl ?_
            refine Cov.dgq_on rfl ?_
            refine Cov.dq (.fieldAddr 3 rfl fl29_3 ty3.sz rfl) rfl ?_
            refine Cov.dgq_on rfl ?_
            refine Cov.dq (.load_own 1 rfl rfl ty3 rfl) rfl ?_
            refine Cov.dge_on rfl ?_
            obtain ⟨u454, hu454, r455⟩ := bind_some r453; clear r453
            refine Cov.callS (b1 := []) (b2 := [_, _, _]) (s1 := []) [_, _, _] [] .d1 rfl rfl Try.call21 rfl rfl (ref23_Bears_c (G := G190) List.mem_cons_self  hu454) rfl (fun v457 bo so h456 => ?_)
            obtain ⟨rfl, rfl, rfl⟩ := h456
            refine Cov.same (bl' := [_, _, _]) (sl' := []) rfl rfl rfl ?_
            refine Cov.clsL (HpLe.refl _) (pick_mem [0, 1, 2] rfl) ?_
            refine Cov.dgq_on rfl ?_
            refine Cov.dq (.not rfl) rfl ?_
            refine Cov.dq (.pick_f rfl rfl) rfl ?_
            refine Cov.prune _ ?_ (Cov.same rfl rfl rfl (hb359 () trivial))
            exact ⟨sval r455, rfl, rfl, rfl, rfl, rfl, rfl, rfl, trivial⟩

end Go.Proofs.Ytmjidoadjinhgaa
