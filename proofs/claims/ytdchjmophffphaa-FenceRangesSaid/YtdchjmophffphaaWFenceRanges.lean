/- The walks. Printed by wip/lift/drive.py. -/
import Derived.Test.YtdchjmophffphaaW2
namespace Go.Proofs.Ytdchjmophffphaa
open Go.RowKit
set_option linter.unusedSimpArgs false
set_option linter.unusedVariables false

set_option maxHeartbeats 4000000 in
theorem law21_FenceRanges_c {Fs : List Hp} {G : Hp} {a0 : Option Addr} {k0 : Nat} {x0 : List Int} {x1 : Int} {r : Bool} (hG : G ∈ Fs) (s0 : SlR (Rep.int .i64) G a0 k0 x0) (h : law21_FenceRanges x0 x1 = some r) : RetS Try.prog 3 #[.slice a0 x0.length k0, .int .u8 x1] Fs [] [] (fun v bo so => v = .bool r ∧ bo = [] ∧ so = []) := by
  unfold law21_FenceRanges at h
  try dsimp only at h
  refine RetS.of (vs := [_, _]) Try.func3 rfl Try.ntmps3 [(0, _), (1, _)] ⟨rfl, rfl, trivial⟩ rfl hG fun w0 S0 hS0 B0 => ?_
  refine Cov.seq ?_
  refine Cov.region rfl ?_
  refine Cov.q .ro (.assign rfl) rfl ?_
  refine Cov.region_end ?_
  refine Cov.seq ?_
  refine Cov.seq ?_
  refine Cov.region rfl ?_
  obtain ⟨u1, hu1, r2⟩ := bind_some h; clear h
  refine Cov.callS (b1 := []) (b2 := []) (s1 := []) [] [] .ro rfl rfl Try.call8 rfl rfl (law21_sane_c (G := G) List.mem_cons_self  hu1) rfl (fun v4 bo so h3 => ?_)
  obtain ⟨rfl, rfl, rfl⟩ := h3
  refine Cov.same (bl' := []) (sl' := []) rfl rfl rfl ?_
  refine Cov.q .ro (.not rfl) rfl ?_
  refine Cov.region_end ?_
  refine Cov.cond rfl (fun c5 => ?_) (fun c5 => ?_)
  · have r6 := ifT r2 c5; clear r2
    refine Cov.seq ?_
    refine Cov.region rfl ?_
    refine Cov.q .ro (.assign rfl) rfl ?_
    refine Cov.region_end ?_
    cases r6
    refine Cov.retS (c := ⟨3, none⟩) (.inr ⟨_, rfl⟩) [.tmp 4] [_] rfl Try.func3 Try.results3 ⟨RV.tmp rfl, trivial⟩ (fun _ h => List.mem_cons_of_mem _ h) ⟨rfl, rfl, rfl⟩
  · have r7 := ifBF r2 c5; clear r2
    refine Cov.skip ?_
    refine Cov.seq ?_
    refine Cov.seq ?_
    refine Cov.region rfl ?_
    refine Cov.q .ro (.move rfl) rfl ?_
    obtain ⟨u8, hu8, r9⟩ := bind_some r7; clear r7
    refine Cov.callS (b1 := []) (b2 := []) (s1 := []) [_] [] .ro rfl rfl Try.call9 rfl rfl (make_Few_c (G := G) List.mem_cons_self s0 hu8) rfl (fun v11 bo so h10 => ?_)
    obtain ⟨rfl, rfl, rfl⟩ := h10
    refine Cov.same (bl' := []) (sl' := []) rfl rfl rfl ?_
    refine Cov.q .ro (.not rfl) rfl ?_
    refine Cov.region_end ?_
    refine Cov.cond rfl (fun c12 => ?_) (fun c12 => ?_)
    · have r13 := ifT r9 c12; clear r9
      refine Cov.seq ?_
      refine Cov.region rfl ?_
      refine Cov.q .ro (.assign rfl) rfl ?_
      refine Cov.region_end ?_
      cases r13
      refine Cov.retS (c := ⟨3, none⟩) (.inr ⟨_, rfl⟩) [.tmp 4] [_] rfl Try.func3 Try.results3 ⟨RV.tmp rfl, trivial⟩ (fun _ h => List.mem_cons_of_mem _ h) ⟨rfl, rfl, rfl⟩
    · have r14 := ifBF r9 c12; clear r9
      refine Cov.skip ?_
      refine Cov.seq ?_
      refine Cov.region rfl ?_
      refine Cov.q .ro (.move rfl) rfl ?_
      obtain ⟨u15, hu15, r16⟩ := bind_some r14; clear r14
      refine Cov.callS (b1 := []) (b2 := []) (s1 := []) [_] [] .ro rfl rfl Try.call10 rfl rfl (make_New_c (G := G) List.mem_cons_self s0 hu15) rfl (fun v18 bo so h17 => ?_)
      obtain ⟨a20, k21, b19, rfl, rfl, rfl, s22⟩ := h17
      refine Cov.same (bl' := [_]) (sl' := []) rfl rfl rfl ?_
      refine Cov.q .ro (.assign rfl) rfl ?_
      refine Cov.region_end ?_
      refine Cov.seq ?_
      refine Cov.region rfl ?_
      refine Cov.q .ro (.move rfl) rfl ?_
      obtain ⟨u23, hu23, r24⟩ := bind_some r16; clear r16
      refine Cov.callW (b1 := [_]) (b2 := []) (s1 := []) [_] [] .ro rfl rfl Try.call11 rfl rfl (make_Fence_c (G := G) List.mem_cons_self s22 hu23) rfl B0 (fun v26 bo so G27 e28 B29 h25 => ?_)
      obtain ⟨a31, k32, a34, k35, rfl, rfl, rfl, s33, s36⟩ := h25
      refine Cov.same (bl' := [_]) (sl' := []) rfl rfl rfl ?_
      refine Cov.alloc .ro ty29 rfl (fun b37 hb37 => ?_)
      refine Cov.store 0 [_, _] [_, _] .ro rfl rfl rfl ty29 rfl rfl rfl rfl ?_
      refine Cov.region_end ?_
      refine Cov.seq ?_
      refine Cov.region rfl ?_
      refine Cov.q .ro (.move rfl) rfl ?_
      obtain ⟨u38, hu38, r39⟩ := bind_some r24; clear r24
      refine Cov.pull 1 rfl [_, _] rfl ?_
      refine Cov.callW (b1 := [_]) (b2 := [_]) (s1 := []) [_] [] .ro rfl rfl Try.call12 rfl rfl (make_Word_c (G := G27) List.mem_cons_self s36 hu38) rfl B29 (fun v41 bo so G42 e43 B44 h40 => ?_)
      obtain ⟨a46, k47, rfl, rfl, rfl, s48⟩ := h40
      refine Cov.same (bl' := [_, _]) (sl' := []) rfl rfl rfl ?_
      refine Cov.q .ro (.assign rfl) rfl ?_
      refine Cov.region_end ?_
      refine Cov.prune [(1, _), (6, _), (7, _)] ⟨rfl, rfl, rfl, trivial⟩ ?_
      refine Cov.seq ?_
      refine Cov.region rfl ?_
      refine Cov.q .ro (.move rfl) rfl ?_
      refine Cov.q .ro (.remt rfl rfl (by decide)) rfl ?_
      refine Cov.q .ro (.convw Try.underlying5 Try.underlying3 rfl) rfl ?_
      refine Cov.q .ro (.addw rfl rfl) rfl ?_
      refine Cov.q .ro (.assign rfl) rfl ?_
      refine Cov.region_end ?_
      refine Cov.seq ?_
      refine Cov.region rfl ?_
      refine Cov.q .ro (.load_own_a 1 [_, _] rfl rfl ty29 rfl) rfl ?_
      refine Cov.q .ro (.move rfl) rfl ?_
      refine Cov.q .ro (.move rfl) rfl ?_
      obtain ⟨u49, hu49, r50⟩ := bind_some r39; clear r39
      refine Cov.callS (b1 := []) (b2 := [_, _]) (s1 := []) [_, _, _] [] .ro rfl rfl Try.call13 rfl rfl (fence_Range_c (G := G42) List.mem_cons_self (SlR.mono e43 s33) hu49) rfl (fun v52 bo so h51 => ?_)
      obtain ⟨a54, k55, cs56, rfl, rfl, rfl, o57⟩ := h51
      refine Cov.same (bl' := [_, _]) (sl' := [_]) rfl rfl rfl ?_
      refine Cov.q .ro (.move rfl) rfl ?_
      refine Cov.q .ro (.extract rfl rfl) rfl ?_
      refine Cov.q .ro (.extract rfl rfl) rfl ?_
      refine Cov.q .ro (.extract rfl rfl) rfl ?_
      refine Cov.q .ro (.assign rfl) rfl ?_
      refine Cov.q .ro (.assign rfl) rfl ?_
      refine Cov.q .ro (.assign rfl) rfl ?_
      refine Cov.region_end ?_
      refine Cov.prune [(6, _), (7, _), (8, _), (9, _), (10, _), (11, _)] ⟨rfl, rfl, rfl, rfl, rfl, rfl, trivial⟩ ?_
      refine Cov.seq ?_
      refine Cov.seq ?_
      refine Cov.region rfl ?_
      refine Cov.q .ro (.move rfl) rfl ?_
      refine Cov.q .ro (.neq rfl rfl) rfl ?_
      refine Cov.q .ro (.move rfl) rfl ?_
      refine Cov.cutR 5 (β := Unit) (fun y => [(45, .bool (decide ((u49.2.2 ≠ 0) ∨ ((u49.1.length : Int) ≠ (w64 (1 + (w64 (Int.tmod x1 9))))))))]) [(6, _), (7, _), (9, _), (10, _)] (fun y => G42 :: Fs) (fun y => []) [_, _] (fun y => []) [_] (fun y => True) ⟨rfl, rfl, rfl, rfl, trivial⟩ [0, 1] rfl [0] rfl ?_ ?_
      · rintro _ _
        refine Cov.prune [(45, .bool (decide ((u49.2.2 ≠ 0) ∨ ((u49.1.length : Int) ≠ (w64 (1 + (w64 (Int.tmod x1 9)))))))), (6, _), (7, _), (9, _), (10, _)] ⟨rfl, rfl, rfl, rfl, rfl, trivial⟩ ?_
        refine Cov.same (bl' := [_, _]) (sl' := [_]) (Fs' := G42 :: Fs) rfl rfl rfl ?_
        refine Cov.q .ro (.move rfl) rfl ?_
        refine Cov.cutR 3 (β := Unit) (fun y => [(49, .bool (decide (((u49.2.2 ≠ 0) ∨ ((u49.1.length : Int) ≠ (w64 (1 + (w64 (Int.tmod x1 9)))))) ∨ (u49.2.1 < 0))))]) [(6, _), (7, _), (9, _), (10, _)] (fun y => G42 :: Fs) (fun y => []) [_, _] (fun y => []) [_] (fun y => True) ⟨rfl, rfl, rfl, rfl, trivial⟩ [0, 1] rfl [0] rfl ?_ ?_
        · rintro _ _
          refine Cov.prune [(49, .bool (decide (((u49.2.2 ≠ 0) ∨ ((u49.1.length : Int) ≠ (w64 (1 + (w64 (Int.tmod x1 9)))))) ∨ (u49.2.1 < 0)))), (6, _), (7, _), (9, _), (10, _)] ⟨rfl, rfl, rfl, rfl, rfl, trivial⟩ ?_
          refine Cov.same (bl' := [_, _]) (sl' := [_]) (Fs' := G42 :: Fs) rfl rfl rfl ?_
          refine Cov.q .ro (.move rfl) rfl ?_
          refine Cov.cutR 6 (β := Unit) (fun y => [(56, .bool (decide ((((u49.2.2 ≠ 0) ∨ ((u49.1.length : Int) ≠ (w64 (1 + (w64 (Int.tmod x1 9)))))) ∨ (u49.2.1 < 0)) ∨ ((u23.1.2.length : Int) < u49.2.1))))]) [(6, _), (7, _), (9, _), (10, _)] (fun y => G42 :: Fs) (fun y => []) [_, _] (fun y => []) [_] (fun y => True) ⟨rfl, rfl, rfl, rfl, trivial⟩ [0, 1] rfl [0] rfl ?_ ?_
          · rintro _ _
            refine Cov.prune [(56, .bool (decide ((((u49.2.2 ≠ 0) ∨ ((u49.1.length : Int) ≠ (w64 (1 + (w64 (Int.tmod x1 9)))))) ∨ (u49.2.1 < 0)) ∨ ((u23.1.2.length : Int) < u49.2.1)))), (6, _), (7, _), (9, _), (10, _)] ⟨rfl, rfl, rfl, rfl, rfl, trivial⟩ ?_
            refine Cov.same (bl' := [_, _]) (sl' := [_]) (Fs' := G42 :: Fs) rfl rfl rfl ?_
            refine Cov.q .ro (.move rfl) rfl ?_
            obtain ⟨u91, h92, r93⟩ := bind_some r50; clear r50
            refine Cov.cutR 15 (β := Unit) (fun y => [(72, .bool u91)]) [(6, _), (7, _), (9, _), (10, _)] (fun y => G42 :: Fs) (fun y => []) [_, _] (fun y => []) [_] (fun y => True) ⟨rfl, rfl, rfl, rfl, trivial⟩ [0, 1] rfl [0] rfl ?_ ?_
            · rintro _ _
              refine Cov.prune [(72, .bool u91), (6, _), (7, _), (9, _), (10, _)] ⟨rfl, rfl, rfl, rfl, rfl, trivial⟩ ?_
              refine Cov.same (bl' := [_, _]) (sl' := [_]) (Fs' := G42 :: Fs) rfl rfl rfl ?_
              refine Cov.q .ro (.move rfl) rfl ?_
              obtain ⟨u117, h118, r119⟩ := bind_some r93; clear r93
              refine Cov.cutR 13 (β := Unit) (fun y => [(86, .bool u117)]) [(6, _), (9, _), (10, _)] (fun y => G42 :: Fs) (fun y => []) [_, _] (fun y => []) [_] (fun y => True) ⟨rfl, rfl, rfl, trivial⟩ [0, 1] rfl [0] rfl ?_ ?_
              · rintro _ _
                refine Cov.prune [(86, .bool u117), (6, _), (9, _), (10, _)] ⟨rfl, rfl, rfl, rfl, trivial⟩ ?_
                refine Cov.same (bl' := [_, _]) (sl' := [_]) (Fs' := G42 :: Fs) rfl rfl rfl ?_
                refine Cov.region_end ?_
                refine Cov.cond rfl (fun c122 => ?_) (fun c122 => ?_)
                · have r123 := ifT r119 c122; clear r119
                  refine Cov.seq ?_
                  refine Cov.region rfl ?_
                  refine Cov.q .ro (.assign rfl) rfl ?_
                  refine Cov.region_end ?_
                  cases r123
                  refine Cov.drop 2 0 [] _ rfl rfl ?_
                  refine Cov.drop 0 1 _ [] rfl rfl ?_
                  refine Cov.retS (c := ⟨3, none⟩) (.inr ⟨_, rfl⟩) [.tmp 4] [_] rfl Try.func3 Try.results3 ⟨RV.tmp rfl, trivial⟩ (fun _ h => List.mem_cons_of_mem _ h) ⟨rfl, rfl, rfl⟩
                · have r124 := ifBF r119 c122; clear r119
                  refine Cov.skip ?_
                  refine Cov.seq ?_
                  refine Cov.region rfl ?_
                  refine Cov.q .ro (.fieldAddr 1 rfl fl29_1 ty27.sz rfl) rfl ?_
                  refine Cov.q .ro (.load_own 1 rfl rfl ty27 rfl) rfl ?_
                  refine Cov.q .ro (.len_sl rfl rfl sl27) rfl ?_
                  refine Cov.q .ro (.subw rfl rfl) rfl ?_
                  refine Cov.q .ro (.fieldAddr 0 rfl fl29_0 ty3.sz rfl) rfl ?_
                  refine Cov.q .ro (.load_own 1 rfl rfl ty3 rfl) rfl ?_
                  obtain ⟨u125, hu125, r126⟩ := bind_some r124; clear r124
                  refine Cov.q .ro (.quow rfl rfl (nz_some hu125)) rfl ?_
                  refine Cov.q .ro (.assign rfl) rfl ?_
                  refine Cov.region_end ?_
                  refine Cov.seq ?_
                  refine Cov.seq ?_
                  refine Cov.region rfl ?_
                  refine Cov.q .ro (.move rfl) rfl ?_
                  refine Cov.q .ro (.len_sl rfl rfl sl22) rfl ?_
                  refine Cov.q .ro (.move rfl) rfl ?_
                  refine Cov.region_end ?_
                  refine Cov.cutB (β := Int × Int) (fun y => []) [(6, _), (9, _), (10, _)] (fun y => G42 :: Fs) (fun y => [(b19, .cells #[.slice a46 u38.2.1.length k47, .int .i64 y.1] 55 (0, 0)), (b37, .cells #[.int .i64 y.2, .slice a31 u23.1.2.length k32] 29 (0, 0))]) [] (fun y => []) [_] (fun y => (law21_FenceRanges_J1 u49.2.1 u23.1.2 u49.1) y.1 y.2 = some r) ⟨rfl, rfl, rfl, trivial⟩ [] rfl [0] rfl ?_ ?_
                  · intro y hI
                    obtain ⟨v267, v268⟩ := y
                    have r270 := hI; clear hI
                    try dsimp only at r270
                    refine Cov.prune [(6, _), (9, _), (10, _)] ⟨rfl, rfl, rfl, trivial⟩ ?_
                    refine Cov.same (bl' := [(b19, .cells #[.slice a46 u38.2.1.length k47, .int .i64 v267] 55 (0, 0)), (b37, .cells #[.int .i64 v268, .slice a31 u23.1.2.length k32] 29 (0, 0))]) (sl' := [_]) (Fs' := G42 :: Fs) rfl rfl rfl ?_
                    unfold law21_FenceRanges_J1 at r270
                    try dsimp only at r270
                    refine Cov.seq ?_
                    refine Cov.freezeR 0 rfl rfl o57 [] rfl B44 (fun G275 e276 B277 s278 => ?_)
                    refine Cov.drawL (.q 0 (.q 1 (.q 2 (.q 3 (.q 4 (.q 5 (.q 6 (.q 7 (.q 8 (.q 9 (.q 10 (.q 11 (.q 12 (.q 13 (.q 14 (.q 15 (.q 16 (.q 17 (.q 18 (.q 19 (.q 20 (.q 21 (.q 22 (.q 23 (.q 24 (.q 25 (.q 26 (.q 27 (.q 28 .nil))))))))))))))))))))))))))))) [_, _] (by kernel_rfl) (by kernel_rfl) (pick_mem [0, 1] rfl) ?_
                    refine Cov.dq (.move rfl) rfl ?_
                    obtain ⟨u280, hu280, r281⟩ := bind_some r270; clear r270
                    obtain ⟨c282, p283, h284⟩ := SlR.get s278 hu280
                    obtain rfl := h284
                    refine Cov.dq (.idxR s278 rfl rfl hu280 sl22 ty3.sz) rfl ?_
                    refine Cov.dq (.load_rp p283 List.mem_cons_self rfl ty3 rfl) rfl ?_
                    refine Cov.dq (.move rfl) rfl ?_
                    refine Cov.dq (.fieldAddr 0 rfl fl29_0 ty3.sz rfl) rfl ?_
                    refine Cov.dq (.load_own 1 rfl rfl ty3 rfl) rfl ?_
                    obtain ⟨u285, hu285, r286⟩ := bind_some r281; clear r281
                    refine Cov.dq (.quow rfl rfl (nz_some hu285)) rfl ?_
                    refine Cov.dq (.leq rfl rfl) rfl ?_
                    refine Cov.dq (.move rfl) rfl ?_
                    obtain ⟨u308, h309, r310⟩ := bind_some r286; clear r286
                    refine Cov.cutD 19 (β := Unit) (fun y => [(152, .bool u308)]) [] (fun y => G275 :: Fs) (fun y => []) [_, _] (fun y => []) [] (fun y => True) trivial [0, 1] rfl [] rfl ?_ ?_
                    · rintro _ _
                      refine Cov.prune [(152, .bool u308)] ⟨rfl, trivial⟩ ?_
                      refine Cov.same (bl' := [_, _]) (sl' := []) (Fs' := G275 :: Fs) rfl rfl rfl ?_
                      refine Cov.dq (.assign rfl) rfl ?_
                      refine Cov.draw_end ?_
                      cases r310
                      refine Cov.drop 2 0 [] _ rfl rfl ?_
                      refine Cov.retS (c := ⟨3, none⟩) (.inr ⟨_, rfl⟩) [.tmp 4] [_] rfl Try.func3 Try.results3 ⟨RV.tmp rfl, trivial⟩ (fun _ h => List.mem_cons_of_mem _ h) ⟨rfl, rfl, rfl⟩
                    · intro hb307
                      refine Cov.split 133 rfl (fun c306 => ?_) (fun c306 => ?_)
                      · have r313 := ifT h309 c306
                        refine Cov.dgq_on rfl ?_
                        refine Cov.dq (.move rfl) rfl ?_
                        refine Cov.dgq_on rfl ?_
                        refine Cov.dq (.fieldAddr 1 rfl fl29_1 ty27.sz rfl) rfl ?_
                        refine Cov.dgq_on rfl ?_
                        refine Cov.dq (.load_own 1 rfl rfl ty27 rfl) rfl ?_
                        refine Cov.dgq_on rfl ?_
                        refine Cov.dq (.len_sl rfl rfl sl27) rfl ?_
                        refine Cov.dgq_on rfl ?_
                        refine Cov.dq (.eql rfl rfl) rfl ?_
                        refine Cov.dgq_on rfl ?_
                        refine Cov.dq (.move rfl) rfl ?_
                        obtain ⟨u321, h322, r323⟩ := bind_some r313; clear r313
                        refine Cov.cutD 12 (β := Unit) (fun y => [(151, .bool u321)]) [(133, _)] (fun y => G275 :: Fs) (fun y => []) [_, _] (fun y => []) [] (fun y => True) ⟨rfl, trivial⟩ [0, 1] rfl [] rfl ?_ ?_
                        · rintro _ _
                          refine Cov.prune [(151, .bool u321), (133, _)] ⟨rfl, rfl, trivial⟩ ?_
                          refine Cov.same (bl' := [_, _]) (sl' := []) (Fs' := G275 :: Fs) rfl rfl rfl ?_
                          refine Cov.dq (.pick_t rfl rfl) rfl ?_
                          refine Cov.prune _ ?_ (Cov.same rfl rfl rfl (hb307 () trivial))
                          exact ⟨sval r323, trivial⟩
                        · intro hb320
                          refine Cov.split 139 rfl (fun c319 => ?_) (fun c319 => ?_)
                          · have r326 := ifT h322 c319
                            refine Cov.dgq_off rfl rfl rfl ?_
                            refine Cov.dgq_off rfl rfl rfl ?_
                            refine Cov.dgq_off rfl rfl rfl ?_
                            refine Cov.dgq_off rfl rfl rfl ?_
                            refine Cov.dgq_off rfl rfl rfl ?_
                            refine Cov.dgq_off rfl rfl rfl ?_
                            refine Cov.dgq_off rfl rfl rfl ?_
                            refine Cov.dgq_off rfl rfl rfl ?_
                            refine Cov.dgq_off rfl rfl rfl ?_
                            refine Cov.dgq_off rfl rfl rfl ?_
                            refine Cov.dgq_off rfl rfl rfl ?_
                            refine Cov.dgq_on rfl ?_
                            refine Cov.dq (.pick_t rfl rfl) rfl ?_
                            refine Cov.prune _ ?_ (Cov.same rfl rfl rfl (hb320 () trivial))
                            exact ⟨sval r326, rfl, trivial⟩
                          · have r327 := ifF h322 c319
                            refine Cov.dgq_on rfl ?_
                            refine Cov.dq (.move rfl) rfl ?_
                            refine Cov.dgq_on rfl ?_
                            obtain ⟨u328, hu328, r329⟩ := bind_some r327; clear r327
                            obtain ⟨c330, p331, h332⟩ := SlR.get s278 hu328
                            obtain rfl := h332
                            refine Cov.dq (.idxR s278 rfl rfl hu328 sl22 ty3.sz) rfl ?_
                            refine Cov.dgq_on rfl ?_
                            refine Cov.dq (.load_rp p331 List.mem_cons_self rfl ty3 rfl) rfl ?_
                            refine Cov.dgq_on rfl ?_
                            refine Cov.dq (.fieldAddr 0 rfl fl29_0 ty3.sz rfl) rfl ?_
                            refine Cov.dgq_on rfl ?_
                            refine Cov.dq (.load_own 1 rfl rfl ty3 rfl) rfl ?_
                            refine Cov.dgq_on rfl ?_
                            refine Cov.dq (.mulw rfl rfl) rfl ?_
                            refine Cov.dgq_on rfl ?_
                            refine Cov.dq (.fieldAddr 0 rfl fl29_0 ty3.sz rfl) rfl ?_
                            refine Cov.dgq_on rfl ?_
                            refine Cov.dq (.load_own 1 rfl rfl ty3 rfl) rfl ?_
                            refine Cov.dgq_on rfl ?_
                            refine Cov.dq (.addw rfl rfl) rfl ?_
                            refine Cov.dgq_on rfl ?_
                            refine Cov.dq (.move rfl) rfl ?_
                            refine Cov.dgq_on rfl ?_
                            refine Cov.dq (.geq rfl rfl) rfl ?_
                            refine Cov.dgq_on rfl ?_
                            refine Cov.dq (.pick_f rfl rfl) rfl ?_
                            refine Cov.prune _ ?_ (Cov.same rfl rfl rfl (hb320 () trivial))
                            exact ⟨sval r329, rfl, trivial⟩
                      · have r333 := ifF h309 c306
                        refine Cov.dgq_off rfl rfl rfl ?_
                        refine Cov.dgq_off rfl rfl rfl ?_
                        refine Cov.dgq_off rfl rfl rfl ?_
                        refine Cov.dgq_off rfl rfl rfl ?_
                        refine Cov.dgq_off rfl rfl rfl ?_
                        refine Cov.dgq_off rfl rfl rfl ?_
                        refine Cov.dgqu_off rfl rfl ?_
                        refine Cov.dgqu_off rfl rfl ?_
                        refine Cov.dgqu_off rfl rfl ?_
                        refine Cov.dgqu_off rfl rfl ?_
                        refine Cov.dgqu_off rfl rfl ?_
                        refine Cov.dgqu_off rfl rfl ?_
                        refine Cov.dgqu_off rfl rfl ?_
                        refine Cov.dgqu_off rfl rfl ?_
                        refine Cov.dgqu_off rfl rfl ?_
                        refine Cov.dgqu_off rfl rfl ?_
                        refine Cov.dgqu_off rfl rfl ?_
                        refine Cov.dgq_off rfl rfl rfl ?_
                        refine Cov.dq (.pick_f rfl rfl) rfl ?_
                        refine Cov.prune _ ?_ (Cov.same rfl rfl rfl (hb307 () trivial))
                        exact ⟨sval r333, trivial⟩
                  · intro hb334
                    refine Cov.block ?_
                    refine Cov.loop2 (α := Nat × List Int) (fun y => [(96, .int .i64 (y.1 : Int))]) [(6, _), (9, _), (10, _), (12, _), (94, _), (95, _)] (fun y => []) (fun y => []) [_, _] (fun y => []) [_] (fun y => List.drop y.1 u49.1 = y.2 ∧ law21_FenceRanges_L2 (law21_FenceRanges_J1 u49.2.1 u23.1.2 u49.1) (w64 (Int.tdiv (w64 ((u23.1.2.length : Int) - 1)) u23.1.1)) u38.2.2 u23.1.1 u49.1 y.2 y.1  = some r) (fun y => y.2.length) (0, u49.1) ⟨rfl, r126⟩ ⟨rfl, rfl, rfl, rfl, rfl, rfl, rfl, trivial⟩ rfl rfl rfl (fun y hI hb406 => ?_)
                    obtain ⟨i402, w403⟩ := y
                    obtain ⟨g404, r405⟩ := hI
                    try dsimp only at g404 r405
                    refine Cov.prune [(96, .int .i64 (i402 : Int)), (6, _), (9, _), (10, _), (12, _), (94, _), (95, _)] ⟨rfl, rfl, rfl, rfl, rfl, rfl, rfl, trivial⟩ ?_
                    refine Cov.same (bl' := [_, _]) (sl' := [_]) (Fs' := G42 :: Fs) rfl rfl rfl ?_
                    cases w403 with
                    | nil =>
                      rw [law21_FenceRanges_L2] at r405; try dsimp only at r405
                      refine Cov.seq ?_
                      refine Cov.region rfl ?_
                      refine Cov.q .ro (.lss rfl rfl) rfl ?_
                      refine Cov.region_end ?_
                      refine Cov.seq ?_
                      refine Cov.cond_dec rfl (fun c => absurd c (drop_nil g404)) (fun _ => ?_)
                      refine Cov.exit rfl ?_
                      refine Cov.prune _ ?_ (Cov.same rfl rfl rfl (hb334 (u38.2.2, u23.1.1) r405))
                      exact ⟨rfl, rfl, rfl, trivial⟩
                    | cons x416 xs417 =>
                      have r415 : law21_FenceRanges_B2 (law21_FenceRanges_J1 u49.2.1 u23.1.2 u49.1) (w64 (Int.tdiv (w64 ((u23.1.2.length : Int) - 1)) u23.1.1)) u38.2.2 u23.1.1 u49.1 (law21_FenceRanges_L2 (law21_FenceRanges_J1 u49.2.1 u23.1.2 u49.1) (w64 (Int.tdiv (w64 ((u23.1.2.length : Int) - 1)) u23.1.1)) u38.2.2 u23.1.1 u49.1 xs417 (i402 + 1)) x416 i402  = some r := r405; clear r405; unfold law21_FenceRanges_B2 at r415; try dsimp only at r415
                      refine Cov.seq ?_
                      refine Cov.region rfl ?_
                      refine Cov.q .ro (.lss rfl rfl) rfl ?_
                      refine Cov.region_end ?_
                      refine Cov.seq ?_
                      refine Cov.cond_dec rfl (fun _ => ?_) (fun c => absurd (drop_lt g404) c)
                      refine Cov.skip ?_
                      refine Cov.seq ?_
                      refine Cov.block ?_
                      refine Cov.seq ?_
                      refine Cov.region rfl ?_
                      refine Cov.q .ro (.move rfl) rfl ?_
                      obtain ⟨c418, p419, h420⟩ := OL.get o57 (drop_idx g404)
                      obtain rfl := h420
                      refine Cov.q .ro (.idxO 0 rfl rfl rfl (drop_idx g404) sl22 ty3.sz) rfl ?_
                      refine Cov.q .ro (.loadO 0 0 rfl (drop_idx g404) p419 rfl (.inl ⟨rfl, rfl⟩) ty3 rfl) rfl ?_
                      refine Cov.q .ro (.assign rfl) rfl ?_
                      refine Cov.q .ro (.assign rfl) rfl ?_
                      refine Cov.region_end ?_
                      refine Cov.seq ?_
                      refine Cov.region rfl ?_
                      refine Cov.q .ro (.move rfl) rfl ?_
                      refine Cov.q .ro (.lss rfl rfl) rfl ?_
                      refine Cov.q .ro (.move rfl) rfl ?_
                      refine Cov.cutR 4 (β := Unit) (fun y => [(107, .bool (decide ((x416 < 0) ∨ ((w64 (Int.tdiv (w64 ((u23.1.2.length : Int) - 1)) u23.1.1)) < x416))))]) [(96, _), (6, _), (9, _), (10, _), (12, _), (94, _), (95, _), (13, _), (14, _)] (fun y => G42 :: Fs) (fun y => []) [_, _] (fun y => []) [_] (fun y => True) ⟨rfl, rfl, rfl, rfl, rfl, rfl, rfl, rfl, rfl, trivial⟩ [0, 1] rfl [0] rfl ?_ ?_
                      · rintro _ _
                        refine Cov.prune [(107, .bool (decide ((x416 < 0) ∨ ((w64 (Int.tdiv (w64 ((u23.1.2.length : Int) - 1)) u23.1.1)) < x416)))), (96, _), (6, _), (9, _), (10, _), (12, _), (94, _), (95, _), (13, _), (14, _)] ⟨rfl, rfl, rfl, rfl, rfl, rfl, rfl, rfl, rfl, rfl, trivial⟩ ?_
                        refine Cov.same (bl' := [_, _]) (sl' := [_]) (Fs' := G42 :: Fs) rfl rfl rfl ?_
                        refine Cov.q .ro (.move rfl) rfl ?_
                        obtain ⟨u446, h447, r448⟩ := bind_some r415; clear r415
                        refine Cov.cutR 15 (β := Unit) (fun y => [(123, .bool u446)]) [(96, _), (6, _), (9, _), (10, _), (12, _), (94, _), (95, _)] (fun y => G42 :: Fs) (fun y => []) [_, _] (fun y => []) [_] (fun y => True) ⟨rfl, rfl, rfl, rfl, rfl, rfl, rfl, trivial⟩ [0, 1] rfl [0] rfl ?_ ?_
                        · rintro _ _
                          refine Cov.prune [(123, .bool u446), (96, _), (6, _), (9, _), (10, _), (12, _), (94, _), (95, _)] ⟨rfl, rfl, rfl, rfl, rfl, rfl, rfl, rfl, trivial⟩ ?_
                          refine Cov.same (bl' := [_, _]) (sl' := [_]) (Fs' := G42 :: Fs) rfl rfl rfl ?_
                          refine Cov.region_end ?_
                          refine Cov.cond rfl (fun c451 => ?_) (fun c451 => ?_)
                          · have r452 := ifT r448 c451; clear r448
                            refine Cov.seq ?_
                            refine Cov.region rfl ?_
                            refine Cov.q .ro (.assign rfl) rfl ?_
                            refine Cov.region_end ?_
                            cases r452
                            refine Cov.drop 2 0 [] _ rfl rfl ?_
                            refine Cov.drop 0 1 _ [] rfl rfl ?_
                            refine Cov.retS (c := ⟨3, none⟩) (.inr ⟨_, rfl⟩) [.tmp 4] [_] rfl Try.func3 Try.results3 ⟨RV.tmp rfl, trivial⟩ (fun _ h => List.mem_cons_of_mem _ h) ⟨rfl, rfl, rfl⟩
                          · have r453 := ifBF r448 c451; clear r448
                            refine Cov.skip ?_
                            refine Cov.inBlock ?_
                            refine Cov.region rfl ?_
                            refine Cov.q .ro (.addw rfl rfl) rfl ?_
                            refine Cov.q .ro (.move rfl) rfl ?_
                            refine Cov.region_end ?_
                            refine Cov.prune _ ?_ (Cov.same rfl rfl rfl (hb406 ((i402 + 1), xs417) ⟨(drop_succ g404), r453⟩ (Nat.lt_succ_self _)))
                            exact ⟨(congrArg (fun z => some (Value.int .i64 z)) (idx_wrap (OL.len' o57) g404)), rfl, rfl, rfl, rfl, rfl, rfl, trivial⟩
                        · intro hb445
                          refine Cov.split 108 rfl (fun c444 => ?_) (fun c444 => ?_)
                          · have r454 := ifT h447 c444
                            refine Cov.g_off rfl rfl rfl ?_
                            refine Cov.g_off rfl rfl rfl ?_
                            refine Cov.g_off rfl rfl rfl ?_
                            refine Cov.gu_off rfl rfl ?_
                            refine Cov.gu_off rfl rfl ?_
                            refine Cov.gu_off rfl rfl ?_
                            refine Cov.gu_off rfl rfl ?_
                            refine Cov.gu_off rfl rfl ?_
                            refine Cov.gu_off rfl rfl ?_
                            refine Cov.gu_off rfl rfl ?_
                            refine Cov.gu_off rfl rfl ?_
                            refine Cov.gu_off rfl rfl ?_
                            refine Cov.gu_off rfl rfl ?_
                            refine Cov.g_off rfl rfl rfl ?_
                            refine Cov.q .ro (.pick_t rfl rfl) rfl ?_
                            refine Cov.prune _ ?_ (Cov.same rfl rfl rfl (hb445 () trivial))
                            exact ⟨sval r454, rfl, rfl, rfl, rfl, rfl, rfl, rfl, trivial⟩
                          · have r455 := ifF h447 c444
                            refine Cov.g_on rfl ?_
                            refine Cov.q .ro (.move rfl) rfl ?_
                            refine Cov.g_on rfl ?_
                            refine Cov.q .ro (.gtr rfl rfl) rfl ?_
                            refine Cov.g_on rfl ?_
                            refine Cov.q .ro (.move rfl) rfl ?_
                            obtain ⟨u463, h464, r465⟩ := bind_some r455; clear r455
                            refine Cov.cutR 11 (β := Unit) (fun y => [(122, .bool u463)]) [(96, _), (6, _), (9, _), (10, _), (12, _), (94, _), (95, _), (108, _), (109, _), (110, _)] (fun y => G42 :: Fs) (fun y => []) [_, _] (fun y => []) [_] (fun y => True) ⟨rfl, rfl, rfl, rfl, rfl, rfl, rfl, rfl, rfl, rfl, trivial⟩ [0, 1] rfl [0] rfl ?_ ?_
                            · rintro _ _
                              refine Cov.prune [(122, .bool u463), (96, _), (6, _), (9, _), (10, _), (12, _), (94, _), (95, _), (108, _), (109, _), (110, _)] ⟨rfl, rfl, rfl, rfl, rfl, rfl, rfl, rfl, rfl, rfl, rfl, trivial⟩ ?_
                              refine Cov.same (bl' := [_, _]) (sl' := [_]) (Fs' := G42 :: Fs) rfl rfl rfl ?_
                              refine Cov.q .ro (.pick_f rfl rfl) rfl ?_
                              refine Cov.prune _ ?_ (Cov.same rfl rfl rfl (hb445 () trivial))
                              exact ⟨sval r465, rfl, rfl, rfl, rfl, rfl, rfl, rfl, trivial⟩
                            · intro hb462
                              refine Cov.split 111 rfl (fun c461 => ?_) (fun c461 => ?_)
                              · have r468 := ifT h464 c461
                                refine Cov.g_on rfl ?_
                                refine Cov.q .ro (.move rfl) rfl ?_
                                refine Cov.g_on rfl ?_
                                refine Cov.q .ro (.move rfl) rfl ?_
                                refine Cov.g_on rfl ?_
                                refine Cov.q .ro (.move rfl) rfl ?_
                                refine Cov.g_on rfl ?_
                                refine Cov.q .ro (.subw rfl rfl) rfl ?_
                                refine Cov.g_on rfl ?_
                                obtain ⟨u469, hu469, r470⟩ := bind_some r468; clear r468
                                obtain ⟨c471, p472, h473⟩ := OL.get o57 hu469
                                obtain rfl := h473
                                refine Cov.q .ro (.idxO 0 rfl rfl rfl hu469 sl22 ty3.sz) rfl ?_
                                refine Cov.g_on rfl ?_
                                refine Cov.q .ro (.loadO 0 0 rfl hu469 p472 rfl (.inl ⟨rfl, rfl⟩) ty3 rfl) rfl ?_
                                refine Cov.g_on rfl ?_
                                refine Cov.q .ro (.addw rfl rfl) rfl ?_
                                refine Cov.g_on rfl ?_
                                refine Cov.q .ro (.move rfl) rfl ?_
                                refine Cov.g_on rfl ?_
                                refine Cov.q .ro (.min2 rfl rfl) rfl ?_
                                refine Cov.g_on rfl ?_
                                refine Cov.q .ro (.neq rfl rfl) rfl ?_
                                refine Cov.g_on rfl ?_
                                refine Cov.q .ro (.pick_t rfl rfl) rfl ?_
                                refine Cov.prune _ ?_ (Cov.same rfl rfl rfl (hb462 () trivial))
                                exact ⟨sval r470, rfl, rfl, rfl, rfl, rfl, rfl, rfl, rfl, rfl, rfl, trivial⟩
                              · have r474 := ifF h464 c461
                                refine Cov.g_off rfl rfl rfl ?_
                                refine Cov.g_off rfl rfl rfl ?_
                                refine Cov.g_off rfl rfl rfl ?_
                                refine Cov.g_off rfl rfl rfl ?_
                                refine Cov.g_off rfl rfl rfl ?_
                                refine Cov.g_off rfl rfl rfl ?_
                                refine Cov.g_off rfl rfl rfl ?_
                                refine Cov.g_off rfl rfl rfl ?_
                                refine Cov.g_off rfl rfl rfl ?_
                                refine Cov.g_off rfl rfl rfl ?_
                                refine Cov.g_on rfl ?_
                                refine Cov.q .ro (.pick_f rfl rfl) rfl ?_
                                refine Cov.prune _ ?_ (Cov.same rfl rfl rfl (hb462 () trivial))
                                exact ⟨sval r474, rfl, rfl, rfl, rfl, rfl, rfl, rfl, rfl, rfl, rfl, trivial⟩
                      · intro hb422
                        refine Cov.split 103 rfl (fun c421 => ?_) (fun c421 => ?_)
                        · refine Cov.g_off rfl rfl rfl ?_
                          refine Cov.g_off rfl rfl rfl ?_
                          refine Cov.g_off rfl rfl rfl ?_
                          refine Cov.q .ro (.pick_t rfl rfl) rfl ?_
                          refine Cov.prune _ ?_ (Cov.same rfl rfl rfl (hb422 () trivial))
                          exact ⟨dor_t c421, rfl, rfl, rfl, rfl, rfl, rfl, rfl, rfl, rfl, trivial⟩
                        · refine Cov.g_on rfl ?_
                          refine Cov.q .ro (.move rfl) rfl ?_
                          refine Cov.g_on rfl ?_
                          refine Cov.q .ro (.move rfl) rfl ?_
                          refine Cov.g_on rfl ?_
                          refine Cov.q .ro (.gtr rfl rfl) rfl ?_
                          refine Cov.q .ro (.pick_f rfl rfl) rfl ?_
                          refine Cov.prune _ ?_ (Cov.same rfl rfl rfl (hb422 () trivial))
                          exact ⟨dor_f c421, rfl, rfl, rfl, rfl, rfl, rfl, rfl, rfl, rfl, trivial⟩
              · intro hb116
                refine Cov.split_b 73 rfl (fun c115 => ?_) (fun c115 => ?_)
                · have r475 := ifT h118 c115
                  refine Cov.g_off rfl rfl rfl ?_
                  refine Cov.g_off rfl rfl rfl ?_
                  refine Cov.g_off rfl rfl rfl ?_
                  refine Cov.gu_off rfl rfl ?_
                  refine Cov.gu_off rfl rfl ?_
                  refine Cov.gu_off rfl rfl ?_
                  refine Cov.gu_off rfl rfl ?_
                  refine Cov.gu_off rfl rfl ?_
                  refine Cov.gu_off rfl rfl ?_
                  refine Cov.gu_off rfl rfl ?_
                  refine Cov.gu_off rfl rfl ?_
                  refine Cov.g_off rfl rfl rfl ?_
                  refine Cov.q .ro (.pick_t rfl rfl) rfl ?_
                  refine Cov.prune _ ?_ (Cov.same rfl rfl rfl (hb116 () trivial))
                  exact ⟨sval r475, rfl, rfl, rfl, trivial⟩
                · have r476 := ifBF h118 c115
                  refine Cov.g_on rfl ?_
                  refine Cov.q .ro (.move rfl) rfl ?_
                  refine Cov.g_on rfl ?_
                  refine Cov.q .ro (.gtr rfl rfl) rfl ?_
                  refine Cov.g_on rfl ?_
                  refine Cov.q .ro (.move rfl) rfl ?_
                  obtain ⟨u484, h485, r486⟩ := bind_some r476; clear r476
                  refine Cov.cutR 9 (β := Unit) (fun y => [(85, .bool u484)]) [(6, _), (9, _), (10, _), (73, _)] (fun y => G42 :: Fs) (fun y => []) [_, _] (fun y => []) [_] (fun y => True) ⟨rfl, rfl, rfl, rfl, trivial⟩ [0, 1] rfl [0] rfl ?_ ?_
                  · rintro _ _
                    refine Cov.prune [(85, .bool u484), (6, _), (9, _), (10, _), (73, _)] ⟨rfl, rfl, rfl, rfl, rfl, trivial⟩ ?_
                    refine Cov.same (bl' := [_, _]) (sl' := [_]) (Fs' := G42 :: Fs) rfl rfl rfl ?_
                    refine Cov.q .ro (.pick_f rfl rfl) rfl ?_
                    refine Cov.prune _ ?_ (Cov.same rfl rfl rfl (hb116 () trivial))
                    exact ⟨sval r486, rfl, rfl, rfl, trivial⟩
                  · intro hb483
                    refine Cov.split 76 rfl (fun c482 => ?_) (fun c482 => ?_)
                    · have r489 := ifT h485 c482
                      refine Cov.g_on rfl ?_
                      refine Cov.q .ro (.fieldAddr 1 rfl fl29_1 ty27.sz rfl) rfl ?_
                      refine Cov.g_on rfl ?_
                      refine Cov.q .ro (.load_own 1 rfl rfl ty27 rfl) rfl ?_
                      refine Cov.g_on rfl ?_
                      refine Cov.q .ro (.move rfl) rfl ?_
                      refine Cov.g_on rfl ?_
                      refine Cov.q .ro (.subw rfl rfl) rfl ?_
                      refine Cov.g_on rfl ?_
                      obtain ⟨u490, hu490, r491⟩ := bind_some r489; clear r489
                      obtain ⟨c492, p493, h494⟩ := SlR.get (SlR.mono e43 s33) hu490
                      obtain rfl := h494
                      refine Cov.q .ro (.idxR (SlR.mono e43 s33) rfl rfl hu490 sl27 ty9.sz) rfl ?_
                      refine Cov.g_on rfl ?_
                      refine Cov.q .ro (.load_rp p493 List.mem_cons_self rfl ty9 rfl) rfl ?_
                      refine Cov.g_on rfl ?_
                      refine Cov.q .ro (.move rfl) rfl ?_
                      refine Cov.g_on rfl ?_
                      refine Cov.q .ro (.geq_d rfl rfl) rfl ?_
                      refine Cov.g_on rfl ?_
                      refine Cov.q .ro (.pick_t rfl rfl) rfl ?_
                      refine Cov.prune _ ?_ (Cov.same rfl rfl rfl (hb483 () trivial))
                      exact ⟨sval r491, rfl, rfl, rfl, rfl, trivial⟩
                    · have r495 := ifF h485 c482
                      refine Cov.g_off rfl rfl rfl ?_
                      refine Cov.g_off rfl rfl rfl ?_
                      refine Cov.g_off rfl rfl rfl ?_
                      refine Cov.g_off rfl rfl rfl ?_
                      refine Cov.g_off rfl rfl rfl ?_
                      refine Cov.g_off rfl rfl rfl ?_
                      refine Cov.g_off rfl rfl rfl ?_
                      refine Cov.g_off rfl rfl rfl ?_
                      refine Cov.g_on rfl ?_
                      refine Cov.q .ro (.pick_f rfl rfl) rfl ?_
                      refine Cov.prune _ ?_ (Cov.same rfl rfl rfl (hb483 () trivial))
                      exact ⟨sval r495, rfl, rfl, rfl, rfl, trivial⟩
            · intro hb90
              refine Cov.split 57 rfl (fun c89 => ?_) (fun c89 => ?_)
              · have r496 := ifT h92 c89
                refine Cov.g_off rfl rfl rfl ?_
                refine Cov.g_off rfl rfl rfl ?_
                refine Cov.g_off rfl rfl rfl ?_
                refine Cov.g_off rfl rfl rfl ?_
                refine Cov.g_off rfl rfl rfl ?_
                refine Cov.g_off rfl rfl rfl ?_
                refine Cov.gu_off rfl rfl ?_
                refine Cov.gu_off rfl rfl ?_
                refine Cov.gu_off rfl rfl ?_
                refine Cov.gu_off rfl rfl ?_
                refine Cov.gu_off rfl rfl ?_
                refine Cov.gu_off rfl rfl ?_
                refine Cov.gu_off rfl rfl ?_
                refine Cov.g_off rfl rfl rfl ?_
                refine Cov.q .ro (.pick_t rfl rfl) rfl ?_
                refine Cov.prune _ ?_ (Cov.same rfl rfl rfl (hb90 () trivial))
                exact ⟨sval r496, rfl, rfl, rfl, rfl, trivial⟩
              · have r497 := ifF h92 c89
                refine Cov.g_on rfl ?_
                refine Cov.q .ro (.move rfl) rfl ?_
                refine Cov.g_on rfl ?_
                refine Cov.q .ro (.fieldAddr 1 rfl fl29_1 ty27.sz rfl) rfl ?_
                refine Cov.g_on rfl ?_
                refine Cov.q .ro (.load_own 1 rfl rfl ty27 rfl) rfl ?_
                refine Cov.g_on rfl ?_
                refine Cov.q .ro (.len_sl rfl rfl sl27) rfl ?_
                refine Cov.g_on rfl ?_
                refine Cov.q .ro (.lss rfl rfl) rfl ?_
                refine Cov.g_on rfl ?_
                refine Cov.q .ro (.move rfl) rfl ?_
                obtain ⟨u505, h506, r507⟩ := bind_some r497; clear r497
                refine Cov.cutR 8 (β := Unit) (fun y => [(71, .bool u505)]) [(6, _), (7, _), (9, _), (10, _), (57, _)] (fun y => G42 :: Fs) (fun y => []) [_, _] (fun y => []) [_] (fun y => True) ⟨rfl, rfl, rfl, rfl, rfl, trivial⟩ [0, 1] rfl [0] rfl ?_ ?_
                · rintro _ _
                  refine Cov.prune [(71, .bool u505), (6, _), (7, _), (9, _), (10, _), (57, _)] ⟨rfl, rfl, rfl, rfl, rfl, rfl, trivial⟩ ?_
                  refine Cov.same (bl' := [_, _]) (sl' := [_]) (Fs' := G42 :: Fs) rfl rfl rfl ?_
                  refine Cov.q .ro (.pick_f rfl rfl) rfl ?_
                  refine Cov.prune _ ?_ (Cov.same rfl rfl rfl (hb90 () trivial))
                  exact ⟨sval r507, rfl, rfl, rfl, rfl, trivial⟩
                · intro hb504
                  refine Cov.split 63 rfl (fun c503 => ?_) (fun c503 => ?_)
                  · have r510 := ifT h506 c503
                    refine Cov.g_on rfl ?_
                    refine Cov.q .ro (.fieldAddr 1 rfl fl29_1 ty27.sz rfl) rfl ?_
                    refine Cov.g_on rfl ?_
                    refine Cov.q .ro (.load_own 1 rfl rfl ty27 rfl) rfl ?_
                    refine Cov.g_on rfl ?_
                    refine Cov.q .ro (.move rfl) rfl ?_
                    refine Cov.g_on rfl ?_
                    obtain ⟨u511, hu511, r512⟩ := bind_some r510; clear r510
                    obtain ⟨c513, p514, h515⟩ := SlR.get (SlR.mono e43 s33) hu511
                    obtain rfl := h515
                    refine Cov.q .ro (.idxR (SlR.mono e43 s33) rfl rfl hu511 sl27 ty9.sz) rfl ?_
                    refine Cov.g_on rfl ?_
                    refine Cov.q .ro (.load_rp p514 List.mem_cons_self rfl ty9 rfl) rfl ?_
                    refine Cov.g_on rfl ?_
                    refine Cov.q .ro (.move rfl) rfl ?_
                    refine Cov.g_on rfl ?_
                    refine Cov.q .ro (.lss_d rfl rfl) rfl ?_
                    refine Cov.g_on rfl ?_
                    refine Cov.q .ro (.pick_t rfl rfl) rfl ?_
                    refine Cov.prune _ ?_ (Cov.same rfl rfl rfl (hb504 () trivial))
                    exact ⟨sval r512, rfl, rfl, rfl, rfl, rfl, trivial⟩
                  · have r516 := ifF h506 c503
                    refine Cov.g_off rfl rfl rfl ?_
                    refine Cov.g_off rfl rfl rfl ?_
                    refine Cov.g_off rfl rfl rfl ?_
                    refine Cov.g_off rfl rfl rfl ?_
                    refine Cov.g_off rfl rfl rfl ?_
                    refine Cov.g_off rfl rfl rfl ?_
                    refine Cov.g_off rfl rfl rfl ?_
                    refine Cov.g_on rfl ?_
                    refine Cov.q .ro (.pick_f rfl rfl) rfl ?_
                    refine Cov.prune _ ?_ (Cov.same rfl rfl rfl (hb504 () trivial))
                    exact ⟨sval r516, rfl, rfl, rfl, rfl, rfl, trivial⟩
          · intro hb67
            refine Cov.split 50 rfl (fun c66 => ?_) (fun c66 => ?_)
            · refine Cov.g_off rfl rfl rfl ?_
              refine Cov.g_off rfl rfl rfl ?_
              refine Cov.g_off rfl rfl rfl ?_
              refine Cov.g_off rfl rfl rfl ?_
              refine Cov.g_off rfl rfl rfl ?_
              refine Cov.q .ro (.pick_t rfl rfl) rfl ?_
              refine Cov.prune _ ?_ (Cov.same rfl rfl rfl (hb67 () trivial))
              exact ⟨dor_t c66, rfl, rfl, rfl, rfl, trivial⟩
            · refine Cov.g_on rfl ?_
              refine Cov.q .ro (.move rfl) rfl ?_
              refine Cov.g_on rfl ?_
              refine Cov.q .ro (.fieldAddr 1 rfl fl29_1 ty27.sz rfl) rfl ?_
              refine Cov.g_on rfl ?_
              refine Cov.q .ro (.load_own 1 rfl rfl ty27 rfl) rfl ?_
              refine Cov.g_on rfl ?_
              refine Cov.q .ro (.len_sl rfl rfl sl27) rfl ?_
              refine Cov.g_on rfl ?_
              refine Cov.q .ro (.gtr rfl rfl) rfl ?_
              refine Cov.q .ro (.pick_f rfl rfl) rfl ?_
              refine Cov.prune _ ?_ (Cov.same rfl rfl rfl (hb67 () trivial))
              exact ⟨dor_f c66, rfl, rfl, rfl, rfl, trivial⟩
        · intro hb63
          refine Cov.split 46 rfl (fun c62 => ?_) (fun c62 => ?_)
          · refine Cov.g_off rfl rfl rfl ?_
            refine Cov.g_off rfl rfl rfl ?_
            refine Cov.q .ro (.pick_t rfl rfl) rfl ?_
            refine Cov.prune _ ?_ (Cov.same rfl rfl rfl (hb63 () trivial))
            exact ⟨dor_t c62, rfl, rfl, rfl, rfl, trivial⟩
          · refine Cov.g_on rfl ?_
            refine Cov.q .ro (.move rfl) rfl ?_
            refine Cov.g_on rfl ?_
            refine Cov.q .ro (.lss rfl rfl) rfl ?_
            refine Cov.q .ro (.pick_f rfl rfl) rfl ?_
            refine Cov.prune _ ?_ (Cov.same rfl rfl rfl (hb63 () trivial))
            exact ⟨dor_f c62, rfl, rfl, rfl, rfl, trivial⟩
      · intro hb59
        refine Cov.split 40 rfl (fun c58 => ?_) (fun c58 => ?_)
        · refine Cov.g_off rfl rfl rfl ?_
          refine Cov.g_off rfl rfl rfl ?_
          refine Cov.g_off rfl rfl rfl ?_
          refine Cov.g_off rfl rfl rfl ?_
          refine Cov.q .ro (.pick_t rfl rfl) rfl ?_
          refine Cov.prune _ ?_ (Cov.same rfl rfl rfl (hb59 () trivial))
          exact ⟨dor_t c58, rfl, rfl, rfl, rfl, trivial⟩
        · refine Cov.g_on rfl ?_
          refine Cov.q .ro (.move rfl) rfl ?_
          refine Cov.g_on rfl ?_
          refine Cov.q .ro (.len_sl rfl rfl sl22) rfl ?_
          refine Cov.g_on rfl ?_
          refine Cov.q .ro (.move rfl) rfl ?_
          refine Cov.g_on rfl ?_
          refine Cov.q .ro (.neq rfl rfl) rfl ?_
          refine Cov.q .ro (.pick_f rfl rfl) rfl ?_
          refine Cov.prune _ ?_ (Cov.same rfl rfl rfl (hb59 () trivial))
          exact ⟨dor_f c58, rfl, rfl, rfl, rfl, trivial⟩

end Go.Proofs.Ytdchjmophffphaa
