/- The walks. Printed by wip/lift/drive.py. -/
import Derived.Test.YtdchjmophffphaaW2
namespace Go.Proofs.Ytdchjmophffphaa
open Go.RowKit
set_option linter.unusedSimpArgs false
set_option linter.unusedVariables false

set_option maxHeartbeats 4000000 in
theorem law21_FenceSteps_c {Fs : List Hp} {G : Hp} {x0 : Int} {x1 : Int} {x2 : Int} {x3 : Int} {r : Bool} (hG : G ∈ Fs)  (h : law21_FenceSteps x0 x1 x2 x3 = some r) : RetS Try.prog 5 #[.int .u8 x0, .int .u8 x1, .int .u8 x2, .int .u8 x3] Fs [] [] (fun v bo so => v = .bool r ∧ bo = [] ∧ so = []) := by
  unfold law21_FenceSteps at h
  try dsimp only at h
  refine RetS.of (vs := [_, _, _, _]) Try.func5 rfl Try.ntmps5 [(0, _), (1, _), (2, _), (3, _)] ⟨rfl, rfl, rfl, rfl, trivial⟩ rfl hG fun w0 S0 hS0 B0 => ?_
  refine Cov.seq ?_
  refine Cov.region rfl ?_
  refine Cov.q .ro (.assign rfl) rfl ?_
  refine Cov.region_end ?_
  refine Cov.seq ?_
  refine Cov.seq ?_
  refine Cov.region rfl ?_
  obtain ⟨u1, hu1, r2⟩ := bind_some h; clear h
  refine Cov.callS (b1 := []) (b2 := []) (s1 := []) [] [] .ro rfl rfl Try.call8 rfl rfl (law21_sane_c (G := G) List.mem_cons_self  hu1) rfl (fun v4 bo so h3 => ?_)
  obtain ⟨rfl, rfl, rfl⟩ := h3
  refine Cov.same (bl' := []) (sl' := []) rfl rfl rfl ?_
  refine Cov.q .ro (.not rfl) rfl ?_
  refine Cov.region_end ?_
  refine Cov.cond rfl (fun c5 => ?_) (fun c5 => ?_)
  · have r6 := ifT r2 c5; clear r2
    refine Cov.seq ?_
    refine Cov.region rfl ?_
    refine Cov.q .ro (.assign rfl) rfl ?_
    refine Cov.region_end ?_
    cases r6
    refine Cov.retS (c := ⟨5, none⟩) (.inr ⟨_, rfl⟩) [.tmp 8] [_] rfl Try.func5 Try.results5 ⟨RV.tmp rfl, trivial⟩ (fun _ h => List.mem_cons_of_mem _ h) ⟨rfl, rfl, rfl⟩
  · have r7 := ifBF r2 c5; clear r2
    refine Cov.skip ?_
    refine Cov.seq ?_
    refine Cov.region rfl ?_
    refine Cov.q .ro (.move rfl) rfl ?_
    refine Cov.q .ro (.convw Try.underlying5 Try.underlying3 rfl) rfl ?_
    refine Cov.q .ro (.addw rfl rfl) rfl ?_
    refine Cov.q .ro (.assign rfl) rfl ?_
    refine Cov.region_end ?_
    refine Cov.seq ?_
    refine Cov.region rfl ?_
    refine Cov.q .ro (.move rfl) rfl ?_
    refine Cov.q .ro (.move rfl) rfl ?_
    refine Cov.q .ro (.convw Try.underlying5 Try.underlying3 rfl) rfl ?_
    refine Cov.q .ro (.addw rfl rfl) rfl ?_
    refine Cov.q .ro (.min2 rfl rfl) rfl ?_
    refine Cov.q .ro (.assign rfl) rfl ?_
    refine Cov.region_end ?_
    refine Cov.prune [(2, _), (3, _), (9, _), (10, _)] ⟨rfl, rfl, rfl, rfl, trivial⟩ ?_
    refine Cov.seq ?_
    refine Cov.region rfl ?_
    refine Cov.q .ro (.move rfl) rfl ?_
    refine Cov.q .ro (.remt rfl rfl (by decide)) rfl ?_
    refine Cov.q .ro (.convw Try.underlying5 Try.underlying3 rfl) rfl ?_
    refine Cov.q .ro (.addw rfl rfl) rfl ?_
    refine Cov.q .ro (.assign rfl) rfl ?_
    refine Cov.region_end ?_
    refine Cov.seq ?_
    refine Cov.region rfl ?_
    refine Cov.q .ro (.move rfl) rfl ?_
    refine Cov.q .ro (.move rfl) rfl ?_
    refine Cov.q .ro (.remt rfl rfl (by decide)) rfl ?_
    refine Cov.q .ro (.convw Try.underlying5 Try.underlying3 rfl) rfl ?_
    refine Cov.q .ro (.addw rfl rfl) rfl ?_
    refine Cov.q .ro (.min2 rfl rfl) rfl ?_
    refine Cov.q .ro (.assign rfl) rfl ?_
    refine Cov.region_end ?_
    refine Cov.seq ?_
    refine Cov.region rfl ?_
    refine Cov.q .ro (.move rfl) rfl ?_
    refine Cov.q .ro (.move rfl) rfl ?_
    obtain ⟨u8, hu8, r9⟩ := bind_some r7; clear r7
    refine Cov.callS (b1 := []) (b2 := []) (s1 := []) [_, _] [] .ro rfl rfl Try.call16 rfl rfl (fence_Steps_c (G := G) List.mem_cons_self  hu8) rfl (fun v11 bo so h10 => ?_)
    obtain ⟨rfl, rfl, rfl⟩ := h10
    refine Cov.same (bl' := []) (sl' := []) rfl rfl rfl ?_
    refine Cov.q .ro (.move rfl) rfl ?_
    refine Cov.q .ro (.extract rfl rfl) rfl ?_
    refine Cov.q .ro (.extract rfl rfl) rfl ?_
    refine Cov.q .ro (.assign rfl) rfl ?_
    refine Cov.q .ro (.assign rfl) rfl ?_
    refine Cov.region_end ?_
    refine Cov.prune [(9, _), (10, _), (11, _), (12, _), (13, _), (14, _)] ⟨rfl, rfl, rfl, rfl, rfl, rfl, trivial⟩ ?_
    refine Cov.seq ?_
    refine Cov.region rfl ?_
    refine Cov.q .ro (.move rfl) rfl ?_
    refine Cov.q .ro (.move rfl) rfl ?_
    obtain ⟨u12, hu12, r13⟩ := bind_some r9; clear r9
    refine Cov.callS (b1 := []) (b2 := []) (s1 := []) [_, _] [] .ro rfl rfl Try.call16 rfl rfl (fence_Steps_c (G := G) List.mem_cons_self  hu12) rfl (fun v15 bo so h14 => ?_)
    obtain ⟨rfl, rfl, rfl⟩ := h14
    refine Cov.same (bl' := []) (sl' := []) rfl rfl rfl ?_
    refine Cov.q .ro (.move rfl) rfl ?_
    refine Cov.q .ro (.extract rfl rfl) rfl ?_
    refine Cov.q .ro (.extract rfl rfl) rfl ?_
    refine Cov.q .ro (.assign rfl) rfl ?_
    refine Cov.q .ro (.assign rfl) rfl ?_
    refine Cov.region_end ?_
    refine Cov.seq ?_
    refine Cov.region rfl ?_
    refine Cov.q .ro (.move rfl) rfl ?_
    refine Cov.q .ro (.move rfl) rfl ?_
    obtain ⟨u16, hu16, r17⟩ := bind_some r13; clear r13
    refine Cov.callS (b1 := []) (b2 := []) (s1 := []) [_, _] [] .ro rfl rfl Try.call16 rfl rfl (fence_Steps_c (G := G) List.mem_cons_self  hu16) rfl (fun v19 bo so h18 => ?_)
    obtain ⟨rfl, rfl, rfl⟩ := h18
    refine Cov.same (bl' := []) (sl' := []) rfl rfl rfl ?_
    refine Cov.q .ro (.move rfl) rfl ?_
    refine Cov.q .ro (.extract rfl rfl) rfl ?_
    refine Cov.q .ro (.extract rfl rfl) rfl ?_
    refine Cov.q .ro (.assign rfl) rfl ?_
    refine Cov.q .ro (.assign rfl) rfl ?_
    refine Cov.region_end ?_
    refine Cov.prune [(9, _), (11, _), (13, _), (14, _), (15, _), (16, _), (17, _), (18, _)] ⟨rfl, rfl, rfl, rfl, rfl, rfl, rfl, rfl, trivial⟩ ?_
    refine Cov.seq ?_
    refine Cov.region rfl ?_
    refine Cov.q .ro (.assign rfl) rfl ?_
    refine Cov.region_end ?_
    refine Cov.seq ?_
    refine Cov.seq ?_
    refine Cov.region rfl ?_
    refine Cov.q .ro (.move rfl) rfl ?_
    refine Cov.q .ro (.move rfl) rfl ?_
    refine Cov.region_end ?_
    refine Cov.cutB (β := Int) (fun y => [(19, .int .i64 y)]) [(9, _), (11, _), (13, _), (14, _), (15, _), (16, _), (17, _), (18, _)] (fun y => G :: Fs) (fun y => []) [] (fun y => []) [] (fun y => (law21_FenceSteps_J1 (w64 (1 + (w64 x0))) (w64 (2 + (w64 (Int.tmod x2 7)))) u8.1 u8.2 u12.1 u12.2 u16.1 u16.2) y = some r) ⟨rfl, rfl, rfl, rfl, rfl, rfl, rfl, rfl, trivial⟩ [] rfl [] rfl ?_ ?_
    · intro v45 hI
      have r47 := hI; clear hI
      refine Cov.prune [(19, .int .i64 v45), (9, _), (11, _), (13, _), (14, _), (15, _), (16, _), (17, _), (18, _)] ⟨rfl, rfl, rfl, rfl, rfl, rfl, rfl, rfl, rfl, trivial⟩ ?_
      refine Cov.same (bl' := []) (sl' := []) (Fs' := G :: Fs) rfl rfl rfl ?_
      unfold law21_FenceSteps_J1 at r47
      try dsimp only at r47
      refine Cov.seq ?_
      refine Cov.region rfl ?_
      refine Cov.q .ro (.move rfl) rfl ?_
      refine Cov.q .ro (.eql rfl rfl) rfl ?_
      refine Cov.q .ro (.move rfl) rfl ?_
      refine Cov.cutR 3 (β := Unit) (fun y => [(70, .bool (decide ((u8.2 = 0) ∧ (u12.2 = 0))))]) [(19, _), (9, _), (11, _), (13, _), (15, _), (17, _), (18, _)] (fun y => G :: Fs) (fun y => []) [] (fun y => []) [] (fun y => True) ⟨rfl, rfl, rfl, rfl, rfl, rfl, rfl, trivial⟩ [] rfl [] rfl ?_ ?_
      · rintro _ _
        refine Cov.prune [(70, .bool (decide ((u8.2 = 0) ∧ (u12.2 = 0)))), (19, _), (9, _), (11, _), (13, _), (15, _), (17, _), (18, _)] ⟨rfl, rfl, rfl, rfl, rfl, rfl, rfl, rfl, trivial⟩ ?_
        refine Cov.same (bl' := []) (sl' := []) (Fs' := G :: Fs) rfl rfl rfl ?_
        refine Cov.q .ro (.move rfl) rfl ?_
        refine Cov.cutR 3 (β := Unit) (fun y => [(74, .bool (decide (((u8.2 = 0) ∧ (u12.2 = 0)) ∧ (u16.2 = 0))))]) [(19, _), (9, _), (11, _), (13, _), (15, _), (17, _)] (fun y => G :: Fs) (fun y => []) [] (fun y => []) [] (fun y => True) ⟨rfl, rfl, rfl, rfl, rfl, rfl, trivial⟩ [] rfl [] rfl ?_ ?_
        · rintro _ _
          refine Cov.prune [(74, .bool (decide (((u8.2 = 0) ∧ (u12.2 = 0)) ∧ (u16.2 = 0)))), (19, _), (9, _), (11, _), (13, _), (15, _), (17, _)] ⟨rfl, rfl, rfl, rfl, rfl, rfl, rfl, trivial⟩ ?_
          refine Cov.same (bl' := []) (sl' := []) (Fs' := G :: Fs) rfl rfl rfl ?_
          refine Cov.q .ro (.move rfl) rfl ?_
          refine Cov.cutR 4 (β := Unit) (fun y => [(79, .bool (decide ((((u8.2 = 0) ∧ (u12.2 = 0)) ∧ (u16.2 = 0)) ∧ (u8.1 ≤ u12.1))))]) [(19, _), (9, _), (11, _), (13, _), (17, _)] (fun y => G :: Fs) (fun y => []) [] (fun y => []) [] (fun y => True) ⟨rfl, rfl, rfl, rfl, rfl, trivial⟩ [] rfl [] rfl ?_ ?_
          · rintro _ _
            refine Cov.prune [(79, .bool (decide ((((u8.2 = 0) ∧ (u12.2 = 0)) ∧ (u16.2 = 0)) ∧ (u8.1 ≤ u12.1)))), (19, _), (9, _), (11, _), (13, _), (17, _)] ⟨rfl, rfl, rfl, rfl, rfl, rfl, trivial⟩ ?_
            refine Cov.same (bl' := []) (sl' := []) (Fs' := G :: Fs) rfl rfl rfl ?_
            refine Cov.q .ro (.move rfl) rfl ?_
            refine Cov.cutR 4 (β := Unit) (fun y => [(84, .bool (decide (((((u8.2 = 0) ∧ (u12.2 = 0)) ∧ (u16.2 = 0)) ∧ (u8.1 ≤ u12.1)) ∧ (u16.1 ≤ u8.1))))]) [(19, _), (9, _), (11, _), (13, _)] (fun y => G :: Fs) (fun y => []) [] (fun y => []) [] (fun y => True) ⟨rfl, rfl, rfl, rfl, trivial⟩ [] rfl [] rfl ?_ ?_
            · rintro _ _
              refine Cov.prune [(84, .bool (decide (((((u8.2 = 0) ∧ (u12.2 = 0)) ∧ (u16.2 = 0)) ∧ (u8.1 ≤ u12.1)) ∧ (u16.1 ≤ u8.1)))), (19, _), (9, _), (11, _), (13, _)] ⟨rfl, rfl, rfl, rfl, rfl, trivial⟩ ?_
              refine Cov.same (bl' := []) (sl' := []) (Fs' := G :: Fs) rfl rfl rfl ?_
              refine Cov.q .ro (.move rfl) rfl ?_
              refine Cov.cutR 7 (β := Unit) (fun y => [(92, .bool (decide ((((((u8.2 = 0) ∧ (u12.2 = 0)) ∧ (u16.2 = 0)) ∧ (u8.1 ≤ u12.1)) ∧ (u16.1 ≤ u8.1)) ∧ ((decide (u8.1 = 1)) = (decide ((w64 (1 + (w64 x0))) ≤ (w64 (2 + (w64 (Int.tmod x2 7))))))))))]) [(19, _), (9, _), (11, _), (13, _)] (fun y => G :: Fs) (fun y => []) [] (fun y => []) [] (fun y => True) ⟨rfl, rfl, rfl, rfl, trivial⟩ [] rfl [] rfl ?_ ?_
              · rintro _ _
                refine Cov.prune [(92, .bool (decide ((((((u8.2 = 0) ∧ (u12.2 = 0)) ∧ (u16.2 = 0)) ∧ (u8.1 ≤ u12.1)) ∧ (u16.1 ≤ u8.1)) ∧ ((decide (u8.1 = 1)) = (decide ((w64 (1 + (w64 x0))) ≤ (w64 (2 + (w64 (Int.tmod x2 7)))))))))), (19, _), (9, _), (11, _), (13, _)] ⟨rfl, rfl, rfl, rfl, rfl, trivial⟩ ?_
                refine Cov.same (bl' := []) (sl' := []) (Fs' := G :: Fs) rfl rfl rfl ?_
                refine Cov.q .ro (.move rfl) rfl ?_
                refine Cov.cutR 4 (β := Unit) (fun y => [(97, .bool (decide (((((((u8.2 = 0) ∧ (u12.2 = 0)) ∧ (u16.2 = 0)) ∧ (u8.1 ≤ u12.1)) ∧ (u16.1 ≤ u8.1)) ∧ ((decide (u8.1 = 1)) = (decide ((w64 (1 + (w64 x0))) ≤ (w64 (2 + (w64 (Int.tmod x2 7)))))))) ∧ ((w64 (1 + (w64 x0))) ≤ v45))))]) [(19, _), (9, _), (11, _), (13, _)] (fun y => G :: Fs) (fun y => []) [] (fun y => []) [] (fun y => True) ⟨rfl, rfl, rfl, rfl, trivial⟩ [] rfl [] rfl ?_ ?_
                · rintro _ _
                  refine Cov.prune [(97, .bool (decide (((((((u8.2 = 0) ∧ (u12.2 = 0)) ∧ (u16.2 = 0)) ∧ (u8.1 ≤ u12.1)) ∧ (u16.1 ≤ u8.1)) ∧ ((decide (u8.1 = 1)) = (decide ((w64 (1 + (w64 x0))) ≤ (w64 (2 + (w64 (Int.tmod x2 7)))))))) ∧ ((w64 (1 + (w64 x0))) ≤ v45)))), (19, _), (9, _), (11, _), (13, _)] ⟨rfl, rfl, rfl, rfl, rfl, trivial⟩ ?_
                  refine Cov.same (bl' := []) (sl' := []) (Fs' := G :: Fs) rfl rfl rfl ?_
                  refine Cov.q .ro (.move rfl) rfl ?_
                  obtain ⟨u95, h96, r97⟩ := bind_some r47; clear r47
                  refine Cov.cutR 10 (β := Unit) (fun y => [(108, .bool u95)]) [] (fun y => G :: Fs) (fun y => []) [] (fun y => []) [] (fun y => True) trivial [] rfl [] rfl ?_ ?_
                  · rintro _ _
                    refine Cov.prune [(108, .bool u95)] ⟨rfl, trivial⟩ ?_
                    refine Cov.same (bl' := []) (sl' := []) (Fs' := G :: Fs) rfl rfl rfl ?_
                    refine Cov.q .ro (.assign rfl) rfl ?_
                    refine Cov.region_end ?_
                    cases r97
                    refine Cov.retS (c := ⟨5, none⟩) (.inr ⟨_, rfl⟩) [.tmp 8] [_] rfl Try.func5 Try.results5 ⟨RV.tmp rfl, trivial⟩ (fun _ h => List.mem_cons_of_mem _ h) ⟨rfl, rfl, rfl⟩
                  · intro hb94
                    refine Cov.split 98 rfl (fun c93 => ?_) (fun c93 => ?_)
                    · have r100 := ifT h96 c93
                      refine Cov.g_on rfl ?_
                      refine Cov.q .ro (.move rfl) rfl ?_
                      refine Cov.g_on rfl ?_
                      refine Cov.q .ro (.eql rfl rfl) rfl ?_
                      refine Cov.g_on rfl ?_
                      refine Cov.q .ro (.move rfl) rfl ?_
                      obtain ⟨u105, h106, r107⟩ := bind_some r100; clear r100
                      refine Cov.cutR 6 (β := Unit) (fun y => [(107, .bool u105)]) [(98, _)] (fun y => G :: Fs) (fun y => []) [] (fun y => []) [] (fun y => True) ⟨rfl, trivial⟩ [] rfl [] rfl ?_ ?_
                      · rintro _ _
                        refine Cov.prune [(107, .bool u105), (98, _)] ⟨rfl, rfl, trivial⟩ ?_
                        refine Cov.same (bl' := []) (sl' := []) (Fs' := G :: Fs) rfl rfl rfl ?_
                        refine Cov.q .ro (.pick_t rfl rfl) rfl ?_
                        refine Cov.prune _ ?_ (Cov.same rfl rfl rfl (hb94 () trivial))
                        exact ⟨sval r107, trivial⟩
                      · intro hb104
                        refine Cov.split 101 rfl (fun c103 => ?_) (fun c103 => ?_)
                        · have r110 := ifT h106 c103
                          refine Cov.g_off rfl rfl rfl ?_
                          refine Cov.g_off rfl rfl rfl ?_
                          refine Cov.g_off rfl rfl rfl ?_
                          refine Cov.g_off rfl rfl rfl ?_
                          refine Cov.g_off rfl rfl rfl ?_
                          refine Cov.g_on rfl ?_
                          refine Cov.q .ro (.pick_t rfl rfl) rfl ?_
                          refine Cov.prune _ ?_ (Cov.same rfl rfl rfl (hb104 () trivial))
                          exact ⟨sval r110, rfl, trivial⟩
                        · have r111 := ifF h106 c103
                          refine Cov.g_on rfl ?_
                          refine Cov.q .ro (.move rfl) rfl ?_
                          refine Cov.g_on rfl ?_
                          refine Cov.q .ro (.move rfl) rfl ?_
                          refine Cov.g_on rfl ?_
                          refine Cov.q .ro (.move rfl) rfl ?_
                          refine Cov.g_on rfl ?_
                          obtain ⟨u112, hu112, r113⟩ := bind_some r111; clear r111
                          refine Cov.q .ro (.quow rfl rfl (nz_some hu112)) rfl ?_
                          refine Cov.g_on rfl ?_
                          refine Cov.q .ro (.gtr rfl rfl) rfl ?_
                          refine Cov.g_on rfl ?_
                          refine Cov.q .ro (.pick_f rfl rfl) rfl ?_
                          refine Cov.prune _ ?_ (Cov.same rfl rfl rfl (hb104 () trivial))
                          exact ⟨sval r113, rfl, trivial⟩
                    · have r114 := ifF h96 c93
                      refine Cov.g_off rfl rfl rfl ?_
                      refine Cov.g_off rfl rfl rfl ?_
                      refine Cov.g_off rfl rfl rfl ?_
                      refine Cov.gu_off rfl rfl ?_
                      refine Cov.gu_off rfl rfl ?_
                      refine Cov.gu_off rfl rfl ?_
                      refine Cov.gu_off rfl rfl ?_
                      refine Cov.gu_off rfl rfl ?_
                      refine Cov.g_off rfl rfl rfl ?_
                      refine Cov.q .ro (.pick_f rfl rfl) rfl ?_
                      refine Cov.prune _ ?_ (Cov.same rfl rfl rfl (hb94 () trivial))
                      exact ⟨sval r114, trivial⟩
                · intro hb77
                  refine Cov.split 93 rfl (fun c76 => ?_) (fun c76 => ?_)
                  · refine Cov.g_on rfl ?_
                    refine Cov.q .ro (.move rfl) rfl ?_
                    refine Cov.g_on rfl ?_
                    refine Cov.q .ro (.move rfl) rfl ?_
                    refine Cov.g_on rfl ?_
                    refine Cov.q .ro (.leq rfl rfl) rfl ?_
                    refine Cov.q .ro (.pick_t rfl rfl) rfl ?_
                    refine Cov.prune _ ?_ (Cov.same rfl rfl rfl (hb77 () trivial))
                    exact ⟨dand_t c76, rfl, rfl, rfl, rfl, trivial⟩
                  · refine Cov.g_off rfl rfl rfl ?_
                    refine Cov.g_off rfl rfl rfl ?_
                    refine Cov.g_off rfl rfl rfl ?_
                    refine Cov.q .ro (.pick_f rfl rfl) rfl ?_
                    refine Cov.prune _ ?_ (Cov.same rfl rfl rfl (hb77 () trivial))
                    exact ⟨dand_f c76, rfl, rfl, rfl, rfl, trivial⟩
              · intro hb73
                refine Cov.split 85 rfl (fun c72 => ?_) (fun c72 => ?_)
                · refine Cov.g_on rfl ?_
                  refine Cov.q .ro (.move rfl) rfl ?_
                  refine Cov.g_on rfl ?_
                  refine Cov.q .ro (.eql rfl rfl) rfl ?_
                  refine Cov.g_on rfl ?_
                  refine Cov.q .ro (.move rfl) rfl ?_
                  refine Cov.g_on rfl ?_
                  refine Cov.q .ro (.move rfl) rfl ?_
                  refine Cov.g_on rfl ?_
                  refine Cov.q .ro (.leq rfl rfl) rfl ?_
                  refine Cov.g_on rfl ?_
                  refine Cov.q .ro (.eql_b Try.underlying4 rfl rfl) rfl ?_
                  refine Cov.q .ro (.pick_t rfl rfl) rfl ?_
                  refine Cov.prune _ ?_ (Cov.same rfl rfl rfl (hb73 () trivial))
                  exact ⟨dand_t c72, rfl, rfl, rfl, rfl, trivial⟩
                · refine Cov.g_off rfl rfl rfl ?_
                  refine Cov.g_off rfl rfl rfl ?_
                  refine Cov.g_off rfl rfl rfl ?_
                  refine Cov.g_off rfl rfl rfl ?_
                  refine Cov.g_off rfl rfl rfl ?_
                  refine Cov.g_off rfl rfl rfl ?_
                  refine Cov.q .ro (.pick_f rfl rfl) rfl ?_
                  refine Cov.prune _ ?_ (Cov.same rfl rfl rfl (hb73 () trivial))
                  exact ⟨dand_f c72, rfl, rfl, rfl, rfl, trivial⟩
            · intro hb69
              refine Cov.split 80 rfl (fun c68 => ?_) (fun c68 => ?_)
              · refine Cov.g_on rfl ?_
                refine Cov.q .ro (.move rfl) rfl ?_
                refine Cov.g_on rfl ?_
                refine Cov.q .ro (.move rfl) rfl ?_
                refine Cov.g_on rfl ?_
                refine Cov.q .ro (.leq rfl rfl) rfl ?_
                refine Cov.q .ro (.pick_t rfl rfl) rfl ?_
                refine Cov.prune _ ?_ (Cov.same rfl rfl rfl (hb69 () trivial))
                exact ⟨dand_t c68, rfl, rfl, rfl, rfl, trivial⟩
              · refine Cov.g_off rfl rfl rfl ?_
                refine Cov.g_off rfl rfl rfl ?_
                refine Cov.g_off rfl rfl rfl ?_
                refine Cov.q .ro (.pick_f rfl rfl) rfl ?_
                refine Cov.prune _ ?_ (Cov.same rfl rfl rfl (hb69 () trivial))
                exact ⟨dand_f c68, rfl, rfl, rfl, rfl, trivial⟩
          · intro hb65
            refine Cov.split 75 rfl (fun c64 => ?_) (fun c64 => ?_)
            · refine Cov.g_on rfl ?_
              refine Cov.q .ro (.move rfl) rfl ?_
              refine Cov.g_on rfl ?_
              refine Cov.q .ro (.move rfl) rfl ?_
              refine Cov.g_on rfl ?_
              refine Cov.q .ro (.leq rfl rfl) rfl ?_
              refine Cov.q .ro (.pick_t rfl rfl) rfl ?_
              refine Cov.prune _ ?_ (Cov.same rfl rfl rfl (hb65 () trivial))
              exact ⟨dand_t c64, rfl, rfl, rfl, rfl, rfl, trivial⟩
            · refine Cov.g_off rfl rfl rfl ?_
              refine Cov.g_off rfl rfl rfl ?_
              refine Cov.g_off rfl rfl rfl ?_
              refine Cov.q .ro (.pick_f rfl rfl) rfl ?_
              refine Cov.prune _ ?_ (Cov.same rfl rfl rfl (hb65 () trivial))
              exact ⟨dand_f c64, rfl, rfl, rfl, rfl, rfl, trivial⟩
        · intro hb61
          refine Cov.split 71 rfl (fun c60 => ?_) (fun c60 => ?_)
          · refine Cov.g_on rfl ?_
            refine Cov.q .ro (.move rfl) rfl ?_
            refine Cov.g_on rfl ?_
            refine Cov.q .ro (.eql rfl rfl) rfl ?_
            refine Cov.q .ro (.pick_t rfl rfl) rfl ?_
            refine Cov.prune _ ?_ (Cov.same rfl rfl rfl (hb61 () trivial))
            exact ⟨dand_t c60, rfl, rfl, rfl, rfl, rfl, rfl, trivial⟩
          · refine Cov.g_off rfl rfl rfl ?_
            refine Cov.g_off rfl rfl rfl ?_
            refine Cov.q .ro (.pick_f rfl rfl) rfl ?_
            refine Cov.prune _ ?_ (Cov.same rfl rfl rfl (hb61 () trivial))
            exact ⟨dand_f c60, rfl, rfl, rfl, rfl, rfl, rfl, trivial⟩
      · intro hb57
        refine Cov.split 67 rfl (fun c56 => ?_) (fun c56 => ?_)
        · refine Cov.g_on rfl ?_
          refine Cov.q .ro (.move rfl) rfl ?_
          refine Cov.g_on rfl ?_
          refine Cov.q .ro (.eql rfl rfl) rfl ?_
          refine Cov.q .ro (.pick_t rfl rfl) rfl ?_
          refine Cov.prune _ ?_ (Cov.same rfl rfl rfl (hb57 () trivial))
          exact ⟨dand_t c56, rfl, rfl, rfl, rfl, rfl, rfl, rfl, trivial⟩
        · refine Cov.g_off rfl rfl rfl ?_
          refine Cov.g_off rfl rfl rfl ?_
          refine Cov.q .ro (.pick_f rfl rfl) rfl ?_
          refine Cov.prune _ ?_ (Cov.same rfl rfl rfl (hb57 () trivial))
          exact ⟨dand_f c56, rfl, rfl, rfl, rfl, rfl, rfl, rfl, trivial⟩
    · intro hb115
      refine Cov.block ?_
      refine Cov.loop2 (α := Nat × Int × Int) (fun y => [(19, .int .i64 y.2.1), (59, .int .i64 y.2.2)]) [(9, _), (11, _), (13, _), (14, _), (15, _), (16, _), (17, _), (18, _), (58, _)] (fun y => []) (fun y => []) [] (fun y => []) [] (fun y => law21_FenceSteps_L2 (law21_FenceSteps_J1 (w64 (1 + (w64 x0))) (w64 (2 + (w64 (Int.tmod x2 7)))) u8.1 u8.2 u12.1 u12.2 u16.1 u16.2) (w64 (2 + (w64 (Int.tmod x2 7)))) u8.1 y.1 y.2.1 y.2.2 = some r) (fun y => y.1) (big, 1, 0) r17 ⟨rfl, rfl, rfl, rfl, rfl, rfl, rfl, rfl, rfl, rfl, rfl, trivial⟩ rfl rfl rfl (fun y hI hb127 => ?_)
      obtain ⟨n122, v124, v125⟩ := y
      have r126 := hI; clear hI
      try dsimp only at r126
      refine Cov.prune [(19, .int .i64 v124), (59, .int .i64 v125), (9, _), (11, _), (13, _), (14, _), (15, _), (16, _), (17, _), (18, _), (58, _)] ⟨rfl, rfl, rfl, rfl, rfl, rfl, rfl, rfl, rfl, rfl, rfl, trivial⟩ ?_
      refine Cov.same (bl' := []) (sl' := []) (Fs' := G :: Fs) rfl rfl rfl ?_
      obtain ⟨m137, rfl⟩ : ∃ m, n122 = m + 1 := by cases n122 with | zero => exact absurd (show (none : Option _) = some _ from r126) (by simp) | succ m => exact ⟨m, rfl⟩
      have r136 : law21_FenceSteps_B2 (law21_FenceSteps_J1 (w64 (1 + (w64 x0))) (w64 (2 + (w64 (Int.tmod x2 7)))) u8.1 u8.2 u12.1 u12.2 u16.1 u16.2) (w64 (2 + (w64 (Int.tmod x2 7)))) u8.1 (law21_FenceSteps_L2 (law21_FenceSteps_J1 (w64 (1 + (w64 x0))) (w64 (2 + (w64 (Int.tmod x2 7)))) u8.1 u8.2 u12.1 u12.2 u16.1 u16.2) (w64 (2 + (w64 (Int.tmod x2 7)))) u8.1 m137) v124 v125 = some r := r126; clear r126; unfold law21_FenceSteps_B2 at r136; try dsimp only at r136
      refine Cov.seq ?_
      refine Cov.region rfl ?_
      refine Cov.q .ro (.lss rfl rfl) rfl ?_
      refine Cov.region_end ?_
      refine Cov.seq ?_
      refine Cov.cond_dec rfl (fun c138 => ?_) (fun c138 => ?_)
      · have r139 := ifT r136 c138; clear r136
        refine Cov.skip ?_
        refine Cov.seq ?_
        refine Cov.block ?_
        refine Cov.region rfl ?_
        refine Cov.q .ro (.move rfl) rfl ?_
        refine Cov.q .ro (.move rfl) rfl ?_
        refine Cov.q .ro (.mulw rfl rfl) rfl ?_
        refine Cov.q .ro (.assign rfl) rfl ?_
        refine Cov.region_end ?_
        refine Cov.inBlock ?_
        refine Cov.region rfl ?_
        refine Cov.q .ro (.addw rfl rfl) rfl ?_
        refine Cov.q .ro (.move rfl) rfl ?_
        refine Cov.region_end ?_
        refine Cov.prune _ ?_ (Cov.same rfl rfl rfl (hb127 (m137, (w64 (v124 * (w64 (2 + (w64 (Int.tmod x2 7)))))), (w64 (v125 + 1))) r139 (Nat.lt_succ_self _)))
        exact ⟨rfl, rfl, rfl, rfl, rfl, rfl, rfl, rfl, rfl, rfl, rfl, trivial⟩
      · have r140 := ifF r136 c138; clear r136
        refine Cov.exit rfl ?_
        refine Cov.prune _ ?_ (Cov.same rfl rfl rfl (hb115 (v124) r140))
        exact ⟨rfl, rfl, rfl, rfl, rfl, rfl, rfl, rfl, rfl, trivial⟩

end Go.Proofs.Ytdchjmophffphaa
