/- The walks. Printed by wip/lift/drive.py. -/
import Derived.Test.YtdchjmophffphaaW2
namespace Go.Proofs.Ytdchjmophffphaa
open Go.RowKit
set_option linter.unusedSimpArgs false
set_option linter.unusedVariables false

set_option maxHeartbeats 4000000 in
theorem law21_FenceLevels_c {Fs : List Hp} {G : Hp} {a0 : Option Addr} {k0 : Nat} {x0 : List Int} {r : Bool} (hG : G ∈ Fs) (s0 : SlR (Rep.int .i64) G a0 k0 x0) (h : law21_FenceLevels x0 = some r) : RetS Try.prog 4 #[.slice a0 x0.length k0] Fs [] [] (fun v bo so => v = .bool r ∧ bo = [] ∧ so = []) := by
  unfold law21_FenceLevels at h
  try dsimp only at h
  refine RetS.of (vs := [_]) Try.func4 rfl Try.ntmps4 [(0, _)] ⟨rfl, trivial⟩ rfl hG fun w0 S0 hS0 B0 => ?_
  refine Cov.seq ?_
  refine Cov.region rfl ?_
  refine Cov.q .ro (.assign rfl) rfl ?_
  refine Cov.region_end ?_
  refine Cov.seq ?_
  refine Cov.seq ?_
  refine Cov.region rfl ?_
  obtain ⟨u1, hu1, r2⟩ := bind_some h; clear h
  refine Cov.callS (b1 := []) (b2 := []) (s1 := []) [] [] .ro rfl rfl Try.call8 rfl rfl (law21_sane_c (G := G) List.mem_cons_self  hu1) rfl (fun v4 bo so h3 => ?_)
  obtain ⟨rfl, rfl, rfl⟩ := h3
  refine Cov.same (bl' := []) (sl' := []) rfl rfl rfl ?_
  refine Cov.q .ro (.not rfl) rfl ?_
  refine Cov.region_end ?_
  refine Cov.cond rfl (fun c5 => ?_) (fun c5 => ?_)
  · have r6 := ifT r2 c5; clear r2
    refine Cov.seq ?_
    refine Cov.region rfl ?_
    refine Cov.q .ro (.assign rfl) rfl ?_
    refine Cov.region_end ?_
    cases r6
    refine Cov.retS (c := ⟨4, none⟩) (.inr ⟨_, rfl⟩) [.tmp 2] [_] rfl Try.func4 Try.results4 ⟨RV.tmp rfl, trivial⟩ (fun _ h => List.mem_cons_of_mem _ h) ⟨rfl, rfl, rfl⟩
  · have r7 := ifBF r2 c5; clear r2
    refine Cov.skip ?_
    refine Cov.seq ?_
    refine Cov.seq ?_
    refine Cov.region rfl ?_
    refine Cov.q .ro (.move rfl) rfl ?_
    obtain ⟨u8, hu8, r9⟩ := bind_some r7; clear r7
    refine Cov.callS (b1 := []) (b2 := []) (s1 := []) [_] [] .ro rfl rfl Try.call9 rfl rfl (make_Few_c (G := G) List.mem_cons_self s0 hu8) rfl (fun v11 bo so h10 => ?_)
    obtain ⟨rfl, rfl, rfl⟩ := h10
    refine Cov.same (bl' := []) (sl' := []) rfl rfl rfl ?_
    refine Cov.q .ro (.not rfl) rfl ?_
    refine Cov.region_end ?_
    refine Cov.cond rfl (fun c12 => ?_) (fun c12 => ?_)
    · have r13 := ifT r9 c12; clear r9
      refine Cov.seq ?_
      refine Cov.region rfl ?_
      refine Cov.q .ro (.assign rfl) rfl ?_
      refine Cov.region_end ?_
      cases r13
      refine Cov.retS (c := ⟨4, none⟩) (.inr ⟨_, rfl⟩) [.tmp 2] [_] rfl Try.func4 Try.results4 ⟨RV.tmp rfl, trivial⟩ (fun _ h => List.mem_cons_of_mem _ h) ⟨rfl, rfl, rfl⟩
    · have r14 := ifBF r9 c12; clear r9
      refine Cov.skip ?_
      refine Cov.seq ?_
      refine Cov.region rfl ?_
      refine Cov.q .ro (.move rfl) rfl ?_
      obtain ⟨u15, hu15, r16⟩ := bind_some r14; clear r14
      refine Cov.callS (b1 := []) (b2 := []) (s1 := []) [_] [] .ro rfl rfl Try.call10 rfl rfl (make_New_c (G := G) List.mem_cons_self s0 hu15) rfl (fun v18 bo so h17 => ?_)
      obtain ⟨a20, k21, b19, rfl, rfl, rfl, s22⟩ := h17
      refine Cov.same (bl' := [_]) (sl' := []) rfl rfl rfl ?_
      obtain ⟨u23, hu23, r24⟩ := bind_some r16; clear r16
      refine Cov.callW (b1 := [_]) (b2 := []) (s1 := []) [_] [] .ro rfl rfl Try.call11 rfl rfl (make_Fence_c (G := G) List.mem_cons_self s22 hu23) rfl B0 (fun v26 bo so G27 e28 B29 h25 => ?_)
      obtain ⟨a31, k32, a34, k35, rfl, rfl, rfl, s33, s36⟩ := h25
      refine Cov.same (bl' := [_]) (sl' := []) rfl rfl rfl ?_
      refine Cov.alloc .ro ty29 rfl (fun b37 hb37 => ?_)
      refine Cov.store 0 [_, _] [_, _] .ro rfl rfl rfl ty29 rfl rfl rfl rfl ?_
      refine Cov.region_end ?_
      refine Cov.seq ?_
      refine Cov.region rfl ?_
      refine Cov.q .ro (.load_own_a 0 [_, _] rfl rfl ty29 rfl) rfl ?_
      obtain ⟨u38, hu38, r39⟩ := bind_some r24; clear r24
      refine Cov.callW (b1 := []) (b2 := [_, _]) (s1 := []) [_] [] .ro rfl rfl Try.call14 rfl rfl (fence_Levels_c (G := G27) List.mem_cons_self s33 hu38) rfl B29 (fun v41 bo so G42 e43 B44 h40 => ?_)
      obtain ⟨a47, k48, cs49, rfl, rfl, rfl, o50⟩ := h40
      refine Cov.same (bl' := [_, _]) (sl' := [_]) rfl rfl rfl ?_
      refine Cov.q .ro (.move rfl) rfl ?_
      refine Cov.q .ro (.extract rfl rfl) rfl ?_
      refine Cov.q .ro (.extract rfl rfl) rfl ?_
      refine Cov.q .ro (.assign rfl) rfl ?_
      refine Cov.q .ro (.assign rfl) rfl ?_
      refine Cov.region_end ?_
      refine Cov.prune [(3, _), (4, _), (5, _)] ⟨rfl, rfl, rfl, trivial⟩ ?_
      refine Cov.seq ?_
      refine Cov.seq ?_
      refine Cov.freezeR 0 rfl rfl o50 [] rfl B44 (fun G51 e52 B53 s54 => ?_)
      refine Cov.drawL (.q 0 (.q 1 (.q 2 (.q 3 (.q 4 (.q 5 (.q 6 (.q 7 (.q 8 (.q 9 (.q 10 (.q 11 (.q 12 (.e 13 1 (.q 14 (.q 15 (.q 16 (.q 17 (.q 18 (.q 19 (.q 20 (.q 21 (.q 22 (.q 23 (.q 24 (.q 25 (.q 26 (.q 27 .nil)))))))))))))))))))))))))))) [_, _] (by kernel_rfl) (by kernel_rfl) (pick_mem [0, 1] rfl) ?_
      refine Cov.dq (.move rfl) rfl ?_
      refine Cov.dq (.neq rfl rfl) rfl ?_
      refine Cov.dq (.move rfl) rfl ?_
      refine Cov.cutD 4 (β := Unit) (fun y => [(28, .bool (decide ((u38.2 ≠ 0) ∨ ((u38.1.length : Int) = 0))))]) [(3, _), (4, _)] (fun y => G51 :: Fs) (fun y => []) [_, _] (fun y => []) [] (fun y => True) ⟨rfl, rfl, trivial⟩ [0, 1] rfl [] rfl ?_ ?_
      · rintro _ _
        refine Cov.prune [(28, .bool (decide ((u38.2 ≠ 0) ∨ ((u38.1.length : Int) = 0)))), (3, _), (4, _)] ⟨rfl, rfl, rfl, trivial⟩ ?_
        refine Cov.same (bl' := [_, _]) (sl' := []) (Fs' := G51 :: Fs) rfl rfl rfl ?_
        refine Cov.dq (.move rfl) rfl ?_
        obtain ⟨u74, h75, r76⟩ := bind_some r39; clear r39
        refine Cov.cutD 8 (β := Unit) (fun y => [(37, .bool u74)]) [(3, _), (4, _)] (fun y => G51 :: Fs) (fun y => []) [_, _] (fun y => []) [] (fun y => True) ⟨rfl, rfl, trivial⟩ [0, 1] rfl [] rfl ?_ ?_
        · rintro _ _
          refine Cov.prune [(37, .bool u74), (3, _), (4, _)] ⟨rfl, rfl, rfl, trivial⟩ ?_
          refine Cov.same (bl' := [_, _]) (sl' := []) (Fs' := G51 :: Fs) rfl rfl rfl ?_
          refine Cov.dq (.move rfl) rfl ?_
          obtain ⟨u89, h90, r91⟩ := bind_some r76; clear r76
          refine Cov.cutD 11 (β := Unit) (fun y => [(49, .bool u89)]) [(3, _), (4, _)] (fun y => G51 :: Fs) (fun y => []) [_, _] (fun y => []) [] (fun y => True) ⟨rfl, rfl, trivial⟩ [0, 1] rfl [] rfl ?_ ?_
          · rintro _ _
            refine Cov.prune [(49, .bool u89), (3, _), (4, _)] ⟨rfl, rfl, rfl, trivial⟩ ?_
            refine Cov.same (bl' := [_, _]) (sl' := []) (Fs' := G51 :: Fs) rfl rfl rfl ?_
            refine Cov.draw_end ?_
            refine Cov.cond rfl (fun c94 => ?_) (fun c94 => ?_)
            · have r95 := ifT r91 c94; clear r91
              refine Cov.seq ?_
              refine Cov.region rfl ?_
              refine Cov.q .ro (.assign rfl) rfl ?_
              refine Cov.region_end ?_
              cases r95
              refine Cov.drop 2 0 [] _ rfl rfl ?_
              refine Cov.retS (c := ⟨4, none⟩) (.inr ⟨_, rfl⟩) [.tmp 2] [_] rfl Try.func4 Try.results4 ⟨RV.tmp rfl, trivial⟩ (fun _ h => List.mem_cons_of_mem _ h) ⟨rfl, rfl, rfl⟩
            · have r96 := ifBF r91 c94; clear r91
              refine Cov.skip ?_
              refine Cov.seq ?_
              refine Cov.seq ?_
              refine Cov.region rfl ?_
              refine Cov.q .ro (.assign rfl) rfl ?_
              refine Cov.region_end ?_
              refine Cov.block ?_
              refine Cov.pull 1 rfl [_, _] rfl ?_
              refine Cov.pull 1 rfl [_, _] rfl ?_
              refine Cov.loop2 (α := Nat × Int × Int × Int) (fun y => [(6, .int .i64 y.2.1)]) [(3, _), (4, _)] (fun y => []) (fun y => [(b37, .cells #[.int .i64 y.2.2.1, .slice a31 u23.1.2.length k32] 29 (0, 0)), (b19, .cells #[.slice a34 u23.2.1.length k35, .int .i64 y.2.2.2] 55 (0, 0))]) [] (fun y => []) [] (fun y => law21_FenceLevels_L2 u38.1 y.1 y.2.1 y.2.2.1 y.2.2.2 = some r) (fun y => y.1) (big, 1, u23.1.1, u23.2.2) r96 ⟨rfl, rfl, rfl, trivial⟩ rfl rfl rfl (fun y hI hb238 => ?_)
              obtain ⟨n232, v234, v235, v236⟩ := y
              have r237 := hI; clear hI
              try dsimp only at r237
              refine Cov.prune [(6, .int .i64 v234), (3, _), (4, _)] ⟨rfl, rfl, rfl, trivial⟩ ?_
              refine Cov.same (bl' := [(b37, .cells #[.int .i64 v235, .slice a31 u23.1.2.length k32] 29 (0, 0)), (b19, .cells #[.slice a34 u23.2.1.length k35, .int .i64 v236] 55 (0, 0))]) (sl' := []) (Fs' := G51 :: Fs) rfl rfl rfl ?_
              obtain ⟨m243, rfl⟩ : ∃ m, n232 = m + 1 := by cases n232 with | zero => exact absurd (show (none : Option _) = some _ from r237) (by simp) | succ m => exact ⟨m, rfl⟩
              have r242 : law21_FenceLevels_B2 u38.1 (law21_FenceLevels_L2 u38.1 m243) v234 v235 v236 = some r := r237; clear r237; unfold law21_FenceLevels_B2 at r242; try dsimp only at r242
              refine Cov.seq ?_
              refine Cov.seq ?_
              refine Cov.region rfl ?_
              refine Cov.q .ro (.move rfl) rfl ?_
              refine Cov.q .ro (.move rfl) rfl ?_
              refine Cov.q .ro (.len_sl rfl rfl sl36) rfl ?_
              refine Cov.q .ro (.lss rfl rfl) rfl ?_
              refine Cov.region_end ?_
              refine Cov.cond_dec rfl (fun c244 => ?_) (fun c244 => ?_)
              · have r245 := ifT r242 c244; clear r242
                refine Cov.skip ?_
                refine Cov.seq ?_
                refine Cov.block ?_
                refine Cov.seq ?_
                refine Cov.seq ?_
                refine Cov.drawL (.q 0 (.q 1 (.q 2 (.q 3 (.q 4 (.q 5 (.q 6 (.q 7 (.q 8 (.q 9 (.q 10 (.q 11 (.q 12 (.q 13 (.q 14 (.q 15 (.q 16 (.q 17 (.q 18 (.q 19 (.q 20 (.q 21 (.q 22 (.q 23 (.q 24 (.q 25 (.q 26 (.q 27 (.q 28 (.q 29 .nil)))))))))))))))))))))))))))))) [_, _] (by kernel_rfl) (by kernel_rfl) (pick_mem [0, 1] rfl) ?_
                refine Cov.dq (.move rfl) rfl ?_
                refine Cov.dq (.move rfl) rfl ?_
                refine Cov.dq (.subw rfl rfl) rfl ?_
                obtain ⟨u246, hu246, r247⟩ := bind_some r245; clear r245
                obtain ⟨c248, p249, h250⟩ := SlR.get s54 hu246
                obtain ⟨a251, k252, rfl, s253⟩ := h250
                refine Cov.dq (.idxR s54 rfl rfl hu246 sl36 ty27.sz) rfl ?_
                refine Cov.dq (.load_rp p249 List.mem_cons_self rfl ty27 rfl) rfl ?_
                refine Cov.dq (.len_sl rfl rfl sl27) rfl ?_
                refine Cov.dq (.fieldAddr 0 rfl fl29_0 ty3.sz rfl) rfl ?_
                refine Cov.dq (.load_own 0 rfl rfl ty3 rfl) rfl ?_
                refine Cov.dq (.leq rfl rfl) rfl ?_
                refine Cov.dq (.move rfl) rfl ?_
                obtain ⟨u274, h275, r276⟩ := bind_some r247; clear r247
                refine Cov.cutD 20 (β := Unit) (fun y => [(85, .bool u274)]) [(6, _), (3, _), (4, _)] (fun y => G51 :: Fs) (fun y => []) [_, _] (fun y => []) [] (fun y => True) ⟨rfl, rfl, rfl, trivial⟩ [0, 1] rfl [] rfl ?_ ?_
                · rintro _ _
                  refine Cov.prune [(85, .bool u274), (6, _), (3, _), (4, _)] ⟨rfl, rfl, rfl, rfl, trivial⟩ ?_
                  refine Cov.same (bl' := [_, _]) (sl' := []) (Fs' := G51 :: Fs) rfl rfl rfl ?_
                  refine Cov.draw_end ?_
                  refine Cov.cond rfl (fun c279 => ?_) (fun c279 => ?_)
                  · have r280 := ifT r276 c279; clear r276
                    refine Cov.seq ?_
                    refine Cov.region rfl ?_
                    refine Cov.q .ro (.assign rfl) rfl ?_
                    refine Cov.region_end ?_
                    cases r280
                    refine Cov.drop 2 0 [] _ rfl rfl ?_
                    refine Cov.retS (c := ⟨4, none⟩) (.inr ⟨_, rfl⟩) [.tmp 2] [_] rfl Try.func4 Try.results4 ⟨RV.tmp rfl, trivial⟩ (fun _ h => List.mem_cons_of_mem _ h) ⟨rfl, rfl, rfl⟩
                  · have r281 := ifBF r276 c279; clear r276
                    refine Cov.skip ?_
                    refine Cov.seq ?_
                    refine Cov.region rfl ?_
                    refine Cov.q .ro (.move rfl) rfl ?_
                    refine Cov.q .ro (.move rfl) rfl ?_
                    obtain ⟨u282, hu282, r283⟩ := bind_some r281; clear r281
                    obtain ⟨c284, p285, h286⟩ := SlR.get s54 hu282
                    obtain ⟨a287, k288, rfl, s289⟩ := h286
                    refine Cov.q .ro (.idxR s54 rfl rfl hu282 sl36 ty27.sz) rfl ?_
                    refine Cov.q .ro (.load_rp p285 List.mem_cons_self rfl ty27 rfl) rfl ?_
                    refine Cov.q .ro (.len_sl rfl rfl sl27) rfl ?_
                    refine Cov.q .ro (.move rfl) rfl ?_
                    refine Cov.region_end ?_
                    refine Cov.block ?_
                    refine Cov.loop2 (α := Nat × List ByteArray) (fun y => [(91, .int .i64 (y.1 : Int))]) [(6, _), (3, _), (4, _), (89, _), (90, _)] (fun y => []) (fun y => []) [_, _] (fun y => []) [] (fun y => List.drop y.1 u282 = y.2 ∧ law21_FenceLevels_L1 (law21_FenceLevels_L2 u38.1 m243) v234 u38.1 v235 v236 y.2 y.1  = some r) (fun y => y.2.length) (0, u282) ⟨rfl, r283⟩ ⟨rfl, rfl, rfl, rfl, rfl, rfl, trivial⟩ rfl rfl rfl (fun y hI hb323 => ?_)
                    obtain ⟨i319, w320⟩ := y
                    obtain ⟨g321, r322⟩ := hI
                    try dsimp only at g321 r322
                    refine Cov.prune [(91, .int .i64 (i319 : Int)), (6, _), (3, _), (4, _), (89, _), (90, _)] ⟨rfl, rfl, rfl, rfl, rfl, rfl, trivial⟩ ?_
                    refine Cov.same (bl' := [_, _]) (sl' := []) (Fs' := G51 :: Fs) rfl rfl rfl ?_
                    cases w320 with
                    | nil =>
                      rw [law21_FenceLevels_L1] at r322; try dsimp only at r322
                      refine Cov.seq ?_
                      refine Cov.region rfl ?_
                      refine Cov.q .ro (.lss rfl rfl) rfl ?_
                      refine Cov.region_end ?_
                      refine Cov.seq ?_
                      refine Cov.cond_dec rfl (fun c => absurd c (drop_nil g321)) (fun _ => ?_)
                      refine Cov.exit rfl ?_
                      refine Cov.inBlock ?_
                      refine Cov.region rfl ?_
                      refine Cov.q .ro (.move rfl) rfl ?_
                      refine Cov.q .ro (.addw rfl rfl) rfl ?_
                      refine Cov.q .ro (.assign rfl) rfl ?_
                      refine Cov.region_end ?_
                      refine Cov.prune _ ?_ (Cov.same rfl rfl rfl (hb238 (m243, (w64 (v234 + 1)), v235, v236) r322 (Nat.lt_succ_self _)))
                      exact ⟨rfl, rfl, rfl, trivial⟩
                    | cons x333 xs334 =>
                      have r332 : law21_FenceLevels_B1 (law21_FenceLevels_L2 u38.1 m243) v234 u38.1 v235 v236 (law21_FenceLevels_L1 (law21_FenceLevels_L2 u38.1 m243) v234 u38.1 v235 v236 xs334 (i319 + 1)) x333 i319  = some r := r322; clear r322; unfold law21_FenceLevels_B1 at r332; try dsimp only at r332
                      refine Cov.seq ?_
                      refine Cov.region rfl ?_
                      refine Cov.q .ro (.lss rfl rfl) rfl ?_
                      refine Cov.region_end ?_
                      refine Cov.seq ?_
                      refine Cov.cond_dec rfl (fun _ => ?_) (fun c => absurd (drop_lt g321) c)
                      refine Cov.skip ?_
                      refine Cov.seq ?_
                      refine Cov.block ?_
                      refine Cov.seq ?_
                      refine Cov.region rfl ?_
                      refine Cov.q .ro (.move rfl) rfl ?_
                      obtain ⟨c335, p336, h337⟩ := SlR.get s289 (drop_idx g321)
                      obtain rfl := h337
                      refine Cov.q .ro (.idxR s289 rfl rfl (drop_idx g321) sl27 ty9.sz) rfl ?_
                      refine Cov.q .ro (.load_rp p336 List.mem_cons_self rfl ty9 rfl) rfl ?_
                      refine Cov.q .ro (.assign rfl) rfl ?_
                      refine Cov.q .ro (.assign rfl) rfl ?_
                      refine Cov.region_end ?_
                      refine Cov.seq ?_
                      refine Cov.drawL (.q 0 (.q 1 (.q 2 (.q 3 (.q 4 (.q 5 (.q 6 (.q 7 (.q 8 (.q 9 (.q 10 (.q 11 (.q 12 .nil))))))))))))) [_, _] (by kernel_rfl) (by kernel_rfl) (pick_mem [0, 1] rfl) ?_
                      refine Cov.dq (.move rfl) rfl ?_
                      refine Cov.dq (.move rfl) rfl ?_
                      refine Cov.dq (.move rfl) rfl ?_
                      refine Cov.dq (.subw rfl rfl) rfl ?_
                      obtain ⟨u338, hu338, r339⟩ := bind_some r332; clear r332
                      obtain ⟨c340, p341, h342⟩ := SlR.get s54 hu338
                      obtain ⟨a343, k344, rfl, s345⟩ := h342
                      refine Cov.dq (.idxR s54 rfl rfl hu338 sl36 ty27.sz) rfl ?_
                      refine Cov.dq (.load_rp p341 List.mem_cons_self rfl ty27 rfl) rfl ?_
                      refine Cov.dq (.move rfl) rfl ?_
                      refine Cov.dq (.fieldAddr 0 rfl fl29_0 ty3.sz rfl) rfl ?_
                      refine Cov.dq (.load_own 0 rfl rfl ty3 rfl) rfl ?_
                      refine Cov.dq (.mulw rfl rfl) rfl ?_
                      obtain ⟨u346, hu346, r347⟩ := bind_some r339; clear r339
                      obtain ⟨c348, p349, h350⟩ := SlR.get s345 hu346
                      obtain rfl := h350
                      refine Cov.dq (.idxR s345 rfl rfl hu346 sl27 ty9.sz) rfl ?_
                      refine Cov.dq (.load_rp p349 List.mem_cons_self rfl ty9 rfl) rfl ?_
                      refine Cov.dq (.neq_s rfl rfl) rfl ?_
                      refine Cov.draw_end ?_
                      refine Cov.prune [(91, _), (6, _), (3, _), (4, _), (89, _), (90, _), (108, _)] ⟨rfl, rfl, rfl, rfl, rfl, rfl, rfl, trivial⟩ ?_
                      refine Cov.cond_dec rfl (fun c351 => ?_) (fun c351 => ?_)
                      · have r352 := ifT r347 c351; clear r347
                        refine Cov.seq ?_
                        refine Cov.region rfl ?_
                        refine Cov.q .ro (.assign rfl) rfl ?_
                        refine Cov.region_end ?_
                        cases r352
                        refine Cov.drop 2 0 [] _ rfl rfl ?_
                        refine Cov.retS (c := ⟨4, none⟩) (.inr ⟨_, rfl⟩) [.tmp 2] [_] rfl Try.func4 Try.results4 ⟨RV.tmp rfl, trivial⟩ (fun _ h => List.mem_cons_of_mem _ h) ⟨rfl, rfl, rfl⟩
                      · have r353 := ifF r347 c351; clear r347
                        refine Cov.skip ?_
                        refine Cov.inBlock ?_
                        refine Cov.region rfl ?_
                        refine Cov.q .ro (.addw rfl rfl) rfl ?_
                        refine Cov.q .ro (.move rfl) rfl ?_
                        refine Cov.region_end ?_
                        refine Cov.prune _ ?_ (Cov.same rfl rfl rfl (hb323 ((i319 + 1), xs334) ⟨(drop_succ g321), r353⟩ (Nat.lt_succ_self _)))
                        exact ⟨(congrArg (fun z => some (Value.int .i64 z)) (idx_wrap (SlR.len s289) g321)), rfl, rfl, rfl, rfl, rfl, trivial⟩
                · intro hb273
                  refine Cov.split 65 rfl (fun c272 => ?_) (fun c272 => ?_)
                  · have r354 := ifT h275 c272
                    refine Cov.dgq_off rfl rfl rfl ?_
                    refine Cov.dgq_off rfl rfl rfl ?_
                    refine Cov.dgq_off rfl rfl rfl ?_
                    refine Cov.dgq_off rfl rfl rfl ?_
                    refine Cov.dgq_off rfl rfl rfl ?_
                    refine Cov.dgq_off rfl rfl rfl ?_
                    refine Cov.dgq_off rfl rfl rfl ?_
                    refine Cov.dgq_off rfl rfl rfl ?_
                    refine Cov.dgq_off rfl rfl rfl ?_
                    refine Cov.dgq_off rfl rfl rfl ?_
                    refine Cov.dgq_off rfl rfl rfl ?_
                    refine Cov.dgq_off rfl rfl rfl ?_
                    refine Cov.dgq_off rfl rfl rfl ?_
                    refine Cov.dgq_off rfl rfl rfl ?_
                    refine Cov.dgq_off rfl rfl rfl ?_
                    refine Cov.dgq_off rfl rfl rfl ?_
                    refine Cov.dgq_off rfl rfl rfl ?_
                    refine Cov.dgq_off rfl rfl rfl ?_
                    refine Cov.dgq_off rfl rfl rfl ?_
                    refine Cov.dq (.pick_t rfl rfl) rfl ?_
                    refine Cov.prune _ ?_ (Cov.same rfl rfl rfl (hb273 () trivial))
                    exact ⟨sval r354, rfl, rfl, rfl, trivial⟩
                  · have r355 := ifF h275 c272
                    refine Cov.dgq_on rfl ?_
                    refine Cov.dq (.move rfl) rfl ?_
                    refine Cov.dgq_on rfl ?_
                    refine Cov.dq (.move rfl) rfl ?_
                    refine Cov.dgq_on rfl ?_
                    obtain ⟨u356, hu356, r357⟩ := bind_some r355; clear r355
                    obtain ⟨c358, p359, h360⟩ := SlR.get s54 hu356
                    obtain ⟨a361, k362, rfl, s363⟩ := h360
                    refine Cov.dq (.idxR s54 rfl rfl hu356 sl36 ty27.sz) rfl ?_
                    refine Cov.dgq_on rfl ?_
                    refine Cov.dq (.load_rp p359 List.mem_cons_self rfl ty27 rfl) rfl ?_
                    refine Cov.dgq_on rfl ?_
                    refine Cov.dq (.len_sl rfl rfl sl27) rfl ?_
                    refine Cov.dgq_on rfl ?_
                    refine Cov.dq (.move rfl) rfl ?_
                    refine Cov.dgq_on rfl ?_
                    refine Cov.dq (.move rfl) rfl ?_
                    refine Cov.dgq_on rfl ?_
                    refine Cov.dq (.subw rfl rfl) rfl ?_
                    refine Cov.dgq_on rfl ?_
                    obtain ⟨u364, hu364, r365⟩ := bind_some r357; clear r357
                    obtain ⟨c366, p367, h368⟩ := SlR.get s54 hu364
                    obtain ⟨a369, k370, rfl, s371⟩ := h368
                    refine Cov.dq (.idxR s54 rfl rfl hu364 sl36 ty27.sz) rfl ?_
                    refine Cov.dgq_on rfl ?_
                    refine Cov.dq (.load_rp p367 List.mem_cons_self rfl ty27 rfl) rfl ?_
                    refine Cov.dgq_on rfl ?_
                    refine Cov.dq (.len_sl rfl rfl sl27) rfl ?_
                    refine Cov.dgq_on rfl ?_
                    refine Cov.dq (.fieldAddr 0 rfl fl29_0 ty3.sz rfl) rfl ?_
                    refine Cov.dgq_on rfl ?_
                    refine Cov.dq (.load_own 0 rfl rfl ty3 rfl) rfl ?_
                    refine Cov.dgq_on rfl ?_
                    refine Cov.dq (.addw rfl rfl) rfl ?_
                    refine Cov.dgq_on rfl ?_
                    refine Cov.dq (.subw rfl rfl) rfl ?_
                    refine Cov.dgq_on rfl ?_
                    refine Cov.dq (.fieldAddr 0 rfl fl29_0 ty3.sz rfl) rfl ?_
                    refine Cov.dgq_on rfl ?_
                    refine Cov.dq (.load_own 0 rfl rfl ty3 rfl) rfl ?_
                    refine Cov.dgq_on rfl ?_
                    obtain ⟨u372, hu372, r373⟩ := bind_some r365; clear r365
                    refine Cov.dq (.quow rfl rfl (nz_some hu372)) rfl ?_
                    refine Cov.dgq_on rfl ?_
                    refine Cov.dq (.neq rfl rfl) rfl ?_
                    refine Cov.dq (.pick_f rfl rfl) rfl ?_
                    refine Cov.prune _ ?_ (Cov.same rfl rfl rfl (hb273 () trivial))
                    exact ⟨sval r373, rfl, rfl, rfl, trivial⟩
              · have r374 := ifF r242 c244; clear r242
                refine Cov.exit rfl ?_
                refine Cov.seq ?_
                refine Cov.region rfl ?_
                refine Cov.q .ro (.assign rfl) rfl ?_
                refine Cov.region_end ?_
                cases r374
                refine Cov.drop 2 0 [] _ rfl rfl ?_
                refine Cov.retS (c := ⟨4, none⟩) (.inr ⟨_, rfl⟩) [.tmp 2] [_] rfl Try.func4 Try.results4 ⟨RV.tmp rfl, trivial⟩ (fun _ h => List.mem_cons_of_mem _ h) ⟨rfl, rfl, rfl⟩
          · intro hb88
            refine Cov.split_b 38 rfl (fun c87 => ?_) (fun c87 => ?_)
            · have r375 := ifT h90 c87
              refine Cov.dgq_off rfl rfl rfl ?_
              refine Cov.dgq_off rfl rfl rfl ?_
              refine Cov.dgq_off rfl rfl rfl ?_
              refine Cov.dgq_off rfl rfl rfl ?_
              refine Cov.dgq_off rfl rfl rfl ?_
              refine Cov.dgq_off rfl rfl rfl ?_
              refine Cov.dgq_off rfl rfl rfl ?_
              refine Cov.dgq_off rfl rfl rfl ?_
              refine Cov.dgq_off rfl rfl rfl ?_
              refine Cov.dgq_off rfl rfl rfl ?_
              refine Cov.dq (.pick_t rfl rfl) rfl ?_
              refine Cov.prune _ ?_ (Cov.same rfl rfl rfl (hb88 () trivial))
              exact ⟨sval r375, rfl, rfl, trivial⟩
            · have r376 := ifBF h90 c87
              refine Cov.dgq_on rfl ?_
              refine Cov.dq (.move rfl) rfl ?_
              refine Cov.dgq_on rfl ?_
              refine Cov.dq (.move rfl) rfl ?_
              refine Cov.dgq_on rfl ?_
              refine Cov.dq (.len_sl rfl rfl sl36) rfl ?_
              refine Cov.dgq_on rfl ?_
              refine Cov.dq (.subw rfl rfl) rfl ?_
              refine Cov.dgq_on rfl ?_
              obtain ⟨u377, hu377, r378⟩ := bind_some r376; clear r376
              obtain ⟨c379, p380, h381⟩ := SlR.get s54 hu377
              obtain ⟨a382, k383, rfl, s384⟩ := h381
              refine Cov.dq (.idxR s54 rfl rfl hu377 sl36 ty27.sz) rfl ?_
              refine Cov.dgq_on rfl ?_
              refine Cov.dq (.load_rp p380 List.mem_cons_self rfl ty27 rfl) rfl ?_
              refine Cov.dgq_on rfl ?_
              refine Cov.dq (.len_sl rfl rfl sl27) rfl ?_
              refine Cov.dgq_on rfl ?_
              refine Cov.dq (.fieldAddr 0 rfl fl29_0 ty3.sz rfl) rfl ?_
              refine Cov.dgq_on rfl ?_
              refine Cov.dq (.load_own 0 rfl rfl ty3 rfl) rfl ?_
              refine Cov.dgq_on rfl ?_
              refine Cov.dq (.gtr rfl rfl) rfl ?_
              refine Cov.dq (.pick_f rfl rfl) rfl ?_
              refine Cov.prune _ ?_ (Cov.same rfl rfl rfl (hb88 () trivial))
              exact ⟨sval r378, rfl, rfl, trivial⟩
        · intro hb73
          refine Cov.split 29 rfl (fun c72 => ?_) (fun c72 => ?_)
          · have r385 := ifT h75 c72
            refine Cov.dgq_off rfl rfl rfl ?_
            refine Cov.dgq_off rfl rfl rfl ?_
            refine Cov.dgq_off rfl rfl rfl ?_
            refine Cov.dgq_off rfl rfl rfl ?_
            refine Cov.dgq_off rfl rfl rfl ?_
            refine Cov.dge_offL rfl rfl rfl (HpLe.refl _) (pick_mem [0, 1] rfl) ?_
            refine Cov.dgq_off rfl rfl rfl ?_
            refine Cov.dq (.pick_t rfl rfl) rfl ?_
            refine Cov.prune _ ?_ (Cov.same rfl rfl rfl (hb73 () trivial))
            exact ⟨sval r385, rfl, rfl, trivial⟩
          · have r386 := ifF h75 c72
            refine Cov.dgq_on rfl ?_
            refine Cov.dq (.move rfl) rfl ?_
            refine Cov.dgq_on rfl ?_
            obtain ⟨u387, hu387, r388⟩ := bind_some r386; clear r386
            obtain ⟨c389, p390, h391⟩ := SlR.get s54 hu387
            obtain ⟨a392, k393, rfl, s394⟩ := h391
            refine Cov.dq (.idxR s54 rfl rfl hu387 sl36 ty27.sz) rfl ?_
            refine Cov.dgq_on rfl ?_
            refine Cov.dq (.load_rp p390 List.mem_cons_self rfl ty27 rfl) rfl ?_
            refine Cov.dgq_on rfl ?_
            refine Cov.dq (.fieldAddr 1 rfl fl29_1 ty27.sz rfl) rfl ?_
            refine Cov.dgq_on rfl ?_
            refine Cov.dq (.load_own 0 rfl rfl ty27 rfl) rfl ?_
            refine Cov.dge_on rfl ?_
            obtain ⟨u395, hu395, r396⟩ := bind_some r388; clear r388
            refine Cov.callS (b1 := []) (b2 := [_, _]) (s1 := []) [_, _] [] .d1 rfl rfl Try.call15 rfl rfl (ref21_SameKeys_c (G := G51) List.mem_cons_self s394 (SlR.mono (HpLe.trans e43 e52) s33) hu395) rfl (fun v398 bo so h397 => ?_)
            obtain ⟨rfl, rfl, rfl⟩ := h397
            refine Cov.same (bl' := [_, _]) (sl' := []) rfl rfl rfl ?_
            refine Cov.clsL (HpLe.refl _) (pick_mem [0, 1] rfl) ?_
            refine Cov.dgq_on rfl ?_
            refine Cov.dq (.not rfl) rfl ?_
            refine Cov.dq (.pick_f rfl rfl) rfl ?_
            refine Cov.prune _ ?_ (Cov.same rfl rfl rfl (hb73 () trivial))
            exact ⟨sval r396, rfl, rfl, trivial⟩
      · intro hb57
        refine Cov.split 24 rfl (fun c56 => ?_) (fun c56 => ?_)
        · refine Cov.dgq_off rfl rfl rfl ?_
          refine Cov.dgq_off rfl rfl rfl ?_
          refine Cov.dgq_off rfl rfl rfl ?_
          refine Cov.dq (.pick_t rfl rfl) rfl ?_
          refine Cov.prune _ ?_ (Cov.same rfl rfl rfl (hb57 () trivial))
          exact ⟨dor_t c56, rfl, rfl, trivial⟩
        · refine Cov.dgq_on rfl ?_
          refine Cov.dq (.move rfl) rfl ?_
          refine Cov.dgq_on rfl ?_
          refine Cov.dq (.len_sl rfl rfl sl36) rfl ?_
          refine Cov.dgq_on rfl ?_
          refine Cov.dq (.eql rfl rfl) rfl ?_
          refine Cov.dq (.pick_f rfl rfl) rfl ?_
          refine Cov.prune _ ?_ (Cov.same rfl rfl rfl (hb57 () trivial))
          exact ⟨dor_f c56, rfl, rfl, trivial⟩

end Go.Proofs.Ytdchjmophffphaa
