/- The walks. Printed by wip/lift/drive.py. -/
import Derived.Test.YtmjidoadjinhgaaW2
namespace Go.Proofs.Ytmjidoadjinhgaa
open Go.RowKit
set_option linter.unusedSimpArgs false
set_option linter.unusedVariables false
set_option synthInstance.maxSize 2000
set_option synthInstance.maxHeartbeats 400000

set_option maxHeartbeats 4000000 in
theorem ref29_Best_c {Fs : List Hp} {G : Hp} {x0_0 : Int} {x0_1 : Int} {x0_2 : Int} {x0_3 : Int} {x0_4 : Int} {x0_5 : Int} {x0_6 : Int} {x0_7 : Int} {x0_8 : Int} {x0_9 : Int} {r : (((Int × Int × Int × Int) × (Int × Int × Int) × Int) × Int)} (hG : G ∈ Fs)  (h : ref29_Best (x0_0, x0_1, x0_2, x0_3, x0_4, x0_5, x0_6, (x0_7, x0_8, x0_9)) = some r) : RetS Try.prog 25 #[.agg #[.int .i64 x0_0, .int .i64 x0_1, .int .i64 x0_2, .int .i64 x0_3, .int .i64 x0_4, .int .i64 x0_5, .int .i64 x0_6, .int .i64 x0_7, .int .i64 x0_8, .int .i64 x0_9]] Fs [] [] (fun v bo so => v = .tuple #[.agg #[.int .i64 r.1.1.1, .int .i64 r.1.1.2.1, .int .i64 r.1.1.2.2.1, .int .i64 r.1.1.2.2.2, .int .i64 r.1.2.1.1, .int .i64 r.1.2.1.2.1, .int .i64 r.1.2.1.2.2, .int .i64 r.1.2.2], .int .i64 r.2] ∧ bo = [] ∧ so = []) := by
  unfold ref29_Best at h
  try dsimp only at h
  refine RetS.of (vs := [_]) Try.func25 rfl Try.ntmps25 [(0, _)] ⟨rfl, trivial⟩ rfl hG fun w0 S0 hS0 B0 => ?_
  refine Cov.seq ?_
  refine Cov.region rfl ?_
  refine Cov.box [_, _, _, _, _, _, _, _, _, _] .ro rfl rfl rfl (fun b1 hb1 => ?_)
  refine Cov.alloc .ro ty35 rfl (fun b2 hb2 => ?_)
  refine Cov.q .ro (.assign rfl) rfl ?_
  refine Cov.region_end ?_
  refine Cov.seq ?_
  refine Cov.region rfl ?_
  refine Cov.q .ro (.load_own_a 1 [_, _, _, _, _, _, _, _, _, _] rfl rfl ty29 rfl) rfl ?_
  obtain ⟨u3, hu3, r4⟩ := bind_some h; clear h
  refine Cov.callS (b1 := []) (b2 := [_, _]) (s1 := []) [_] [] .ro rfl rfl Try.call24 rfl rfl (ref29_Candidates_c (G := G) List.mem_cons_self  hu3) rfl (fun v6 bo so h5 => ?_)
  obtain ⟨a8, k9, cs10, rfl, rfl, rfl, o11⟩ := h5
  refine Cov.same (bl' := [_, _]) (sl' := [_]) rfl rfl rfl ?_
  refine Cov.q .ro (.move rfl) rfl ?_
  refine Cov.q .ro (.extract rfl rfl) rfl ?_
  refine Cov.q .ro (.extract rfl rfl) rfl ?_
  refine Cov.q .ro (.assign rfl) rfl ?_
  refine Cov.q .ro (.assign rfl) rfl ?_
  refine Cov.region_end ?_
  refine Cov.seq ?_
  refine Cov.seq ?_
  refine Cov.region rfl ?_
  refine Cov.q .ro (.move rfl) rfl ?_
  refine Cov.q .ro (.neq rfl rfl) rfl ?_
  refine Cov.region_end ?_
  refine Cov.cond_dec rfl (fun c12 => ?_) (fun c12 => ?_)
  · have r13 := ifT r4 c12; clear r4
    refine Cov.seq ?_
    refine Cov.region rfl ?_
    refine Cov.q .ro (.build [_, _, _, _, _, _, _, _] [] ty35 pl35 rfl rfl) rfl ?_
    refine Cov.q .ro (.move rfl) rfl ?_
    refine Cov.store 0 [_, _, _, _, _, _, _, _] [_, _] .ro rfl rfl rfl ty35 rfl rfl rfl rfl ?_
    refine Cov.q .ro (.assign rfl) rfl ?_
    refine Cov.region_end ?_
    refine Cov.prune [(2, _), (3, _)] ⟨rfl, rfl, trivial⟩ ?_
    cases r13
    refine Cov.drop 0 1 _ [] rfl rfl ?_
    refine Cov.retSD 2 (c := ⟨25, none⟩) (.inr ⟨_, rfl⟩) [.cell 2 35, .tmp 3] [_, _] rfl Try.func25 Try.results25 ⟨RV.cell_a 0 [_, _, _, _, _, _, _, _] rfl rfl ty35 rfl, RV.tmp rfl, trivial⟩ (fun _ h => List.mem_cons_of_mem _ h) ⟨rfl, rfl, rfl⟩
  · have r14 := ifF r4 c12; clear r4
    refine Cov.skip ?_
    refine Cov.seq ?_
    refine Cov.seq ?_
    refine Cov.region rfl ?_
    refine Cov.q .ro (.move rfl) rfl ?_
    refine Cov.q .ro (.len_sl rfl rfl sl39) rfl ?_
    refine Cov.q .ro (.eql rfl rfl) rfl ?_
    refine Cov.region_end ?_
    refine Cov.prune [(2, _), (4, _), (19, _)] ⟨rfl, rfl, rfl, trivial⟩ ?_
    refine Cov.cond_dec rfl (fun c15 => ?_) (fun c15 => ?_)
    · have r16 := ifT r14 c15; clear r14
      refine Cov.seq ?_
      refine Cov.region rfl ?_
      refine Cov.q .ro (.build [_, _, _, _, _, _, _, _] [] ty35 pl35 rfl rfl) rfl ?_
      refine Cov.store 0 [_, _, _, _, _, _, _, _] [_, _] .ro rfl rfl rfl ty35 rfl rfl rfl rfl ?_
      refine Cov.q .ro (.assign rfl) rfl ?_
      refine Cov.region_end ?_
      cases r16
      refine Cov.drop 0 1 _ [] rfl rfl ?_
      refine Cov.retSD 2 (c := ⟨25, none⟩) (.inr ⟨_, rfl⟩) [.cell 2 35, .tmp 3] [_, _] rfl Try.func25 Try.results25 ⟨RV.cell_a 0 [_, _, _, _, _, _, _, _] rfl rfl ty35 rfl, RV.tmp rfl, trivial⟩ (fun _ h => List.mem_cons_of_mem _ h) ⟨rfl, rfl, rfl⟩
    · have r17 := ifF r14 c15; clear r14
      refine Cov.skip ?_
      refine Cov.seq ?_
      refine Cov.region rfl ?_
      refine Cov.q .ro (.move rfl) rfl ?_
      obtain ⟨u18, hu18, r19⟩ := bind_some r17; clear r17
      obtain ⟨c20, p21, h22⟩ := OL.get o11 hu18
      obtain ⟨_, _, rfl, ⟨_, _, rfl, rfl, _, _, rfl, rfl, _, _, rfl, rfl, rfl⟩, _, _, rfl, ⟨_, _, rfl, rfl, _, _, rfl, rfl, rfl⟩, rfl⟩ := h22
      refine Cov.q .ro (.idxO 0 rfl rfl rfl hu18 sl39 ty35.sz) rfl ?_
      refine Cov.q .ro (.loadO_a 0 0 [_, _, _, _, _, _, _, _] rfl hu18 p21 rfl (.inl ⟨rfl, rfl⟩) ty35 rfl) rfl ?_
      refine Cov.alloc .ro ty35 rfl (fun b23 hb23 => ?_)
      refine Cov.store 0 [_, _, _, _, _, _, _, _] [_, _, _] .ro rfl rfl rfl ty35 rfl rfl rfl rfl ?_
      refine Cov.region_end ?_
      refine Cov.seq ?_
      refine Cov.seq ?_
      refine Cov.region rfl ?_
      refine Cov.q .ro (.assign rfl) rfl ?_
      refine Cov.region_end ?_
      refine Cov.cutB (β := Hp × Int × Int × Int × Int × Int × Int × Int × Int × Int × Int × Int × Int × Int × Int × Int × Int × Int × Int × Int × Int × Int × Int × Int × Int × Int × Int) (fun y => []) [(2, _), (6, _)] (fun y => y.1 :: Fs) (fun y => [(b23, .cells #[.int .i64 y.2.1, .int .i64 y.2.2.1, .int .i64 y.2.2.2.1, .int .i64 y.2.2.2.2.1, .int .i64 y.2.2.2.2.2.1, .int .i64 y.2.2.2.2.2.2.1, .int .i64 y.2.2.2.2.2.2.2.1, .int .i64 y.2.2.2.2.2.2.2.2.1] 35 (0, 0)), (b2, .cells #[.int .i64 y.2.2.2.2.2.2.2.2.2.1, .int .i64 y.2.2.2.2.2.2.2.2.2.2.1, .int .i64 y.2.2.2.2.2.2.2.2.2.2.2.1, .int .i64 y.2.2.2.2.2.2.2.2.2.2.2.2.1, .int .i64 y.2.2.2.2.2.2.2.2.2.2.2.2.2.1, .int .i64 y.2.2.2.2.2.2.2.2.2.2.2.2.2.2.1, .int .i64 y.2.2.2.2.2.2.2.2.2.2.2.2.2.2.2.1, .int .i64 y.2.2.2.2.2.2.2.2.2.2.2.2.2.2.2.2.1] 35 (0, 0)), (b1, .cells #[.int .i64 y.2.2.2.2.2.2.2.2.2.2.2.2.2.2.2.2.2.1, .int .i64 y.2.2.2.2.2.2.2.2.2.2.2.2.2.2.2.2.2.2.1, .int .i64 y.2.2.2.2.2.2.2.2.2.2.2.2.2.2.2.2.2.2.2.1, .int .i64 y.2.2.2.2.2.2.2.2.2.2.2.2.2.2.2.2.2.2.2.2.1, .int .i64 y.2.2.2.2.2.2.2.2.2.2.2.2.2.2.2.2.2.2.2.2.2.1, .int .i64 y.2.2.2.2.2.2.2.2.2.2.2.2.2.2.2.2.2.2.2.2.2.2.1, .int .i64 y.2.2.2.2.2.2.2.2.2.2.2.2.2.2.2.2.2.2.2.2.2.2.2.1, .int .i64 y.2.2.2.2.2.2.2.2.2.2.2.2.2.2.2.2.2.2.2.2.2.2.2.2.1, .int .i64 y.2.2.2.2.2.2.2.2.2.2.2.2.2.2.2.2.2.2.2.2.2.2.2.2.2.1, .int .i64 y.2.2.2.2.2.2.2.2.2.2.2.2.2.2.2.2.2.2.2.2.2.2.2.2.2.2] 29 (0, 0))]) [] (fun y => []) [] (fun y => HpLe G y.1 ∧ Bd w0 S0 Fs y.1 ∧ ref29_Best_J1 y.2.1 y.2.2.1 y.2.2.2.1 y.2.2.2.2.1 y.2.2.2.2.2.1 y.2.2.2.2.2.2.1 y.2.2.2.2.2.2.2.1 y.2.2.2.2.2.2.2.2.1 y.2.2.2.2.2.2.2.2.2.1 y.2.2.2.2.2.2.2.2.2.2.1 y.2.2.2.2.2.2.2.2.2.2.2.1 y.2.2.2.2.2.2.2.2.2.2.2.2.1 y.2.2.2.2.2.2.2.2.2.2.2.2.2.1 y.2.2.2.2.2.2.2.2.2.2.2.2.2.2.1 y.2.2.2.2.2.2.2.2.2.2.2.2.2.2.2.1 y.2.2.2.2.2.2.2.2.2.2.2.2.2.2.2.2.1 y.2.2.2.2.2.2.2.2.2.2.2.2.2.2.2.2.2.1 y.2.2.2.2.2.2.2.2.2.2.2.2.2.2.2.2.2.2.1 y.2.2.2.2.2.2.2.2.2.2.2.2.2.2.2.2.2.2.2.1 y.2.2.2.2.2.2.2.2.2.2.2.2.2.2.2.2.2.2.2.2.1 y.2.2.2.2.2.2.2.2.2.2.2.2.2.2.2.2.2.2.2.2.2.1 y.2.2.2.2.2.2.2.2.2.2.2.2.2.2.2.2.2.2.2.2.2.2.1 y.2.2.2.2.2.2.2.2.2.2.2.2.2.2.2.2.2.2.2.2.2.2.2.1 y.2.2.2.2.2.2.2.2.2.2.2.2.2.2.2.2.2.2.2.2.2.2.2.2.1 y.2.2.2.2.2.2.2.2.2.2.2.2.2.2.2.2.2.2.2.2.2.2.2.2.2.1 y.2.2.2.2.2.2.2.2.2.2.2.2.2.2.2.2.2.2.2.2.2.2.2.2.2.2 = some r) ⟨rfl, rfl, trivial⟩ [] rfl [] rfl ?_ ?_
      · intro y hI
        obtain ⟨G175, v179, v180, v181, v182, v183, v184, v185, v186, v187, v188, v189, v190, v191, v192, v193, v194, v195, v196, v197, v198, v199, v200, v201, v202, v203, v204⟩ := y
        obtain ⟨e176, B177, r206⟩ := hI
        try dsimp only at e176 B177 r206
        refine Cov.prune [(2, _), (6, _)] ⟨rfl, rfl, trivial⟩ ?_
        refine Cov.same (bl' := [(b23, .cells #[.int .i64 v179, .int .i64 v180, .int .i64 v181, .int .i64 v182, .int .i64 v183, .int .i64 v184, .int .i64 v185, .int .i64 v186] 35 (0, 0)), (b2, .cells #[.int .i64 v187, .int .i64 v188, .int .i64 v189, .int .i64 v190, .int .i64 v191, .int .i64 v192, .int .i64 v193, .int .i64 v194] 35 (0, 0)), (b1, .cells #[.int .i64 v195, .int .i64 v196, .int .i64 v197, .int .i64 v198, .int .i64 v199, .int .i64 v200, .int .i64 v201, .int .i64 v202, .int .i64 v203, .int .i64 v204] 29 (0, 0))]) (sl' := []) (Fs' := G175 :: Fs) rfl rfl rfl ?_
        unfold ref29_Best_J1 at r206
        try dsimp only at r206
        refine Cov.seq ?_
        refine Cov.region rfl ?_
        refine Cov.q .ro (.load_own_a 0 [_, _, _, _, _, _, _, _] rfl rfl ty35 rfl) rfl ?_
        refine Cov.store 1 [_, _, _, _, _, _, _, _] [_, _, _] .ro rfl rfl rfl ty35 rfl rfl rfl rfl ?_
        refine Cov.q .ro (.assign rfl) rfl ?_
        refine Cov.region_end ?_
        cases r206
        refine Cov.retSD 3 (c := ⟨25, none⟩) (.inr ⟨_, rfl⟩) [.cell 2 35, .tmp 3] [_, _] rfl Try.func25 Try.results25 ⟨RV.cell_a 1 [_, _, _, _, _, _, _, _] rfl rfl ty35 rfl, RV.tmp rfl, trivial⟩ (fun _ h => List.mem_cons_of_mem _ h) ⟨rfl, rfl, rfl⟩
      · intro hb207
        refine Cov.block ?_
        refine Cov.freezeR 0 rfl rfl o11 [] rfl B0 (fun G261 e262 B263 s264 => ?_)
        refine Cov.loop2 (α := Nat × Int × Int × Int × Int × Int × Int × Int × Int × Int) (fun y => [(7, .int .i64 y.2.1)]) [(2, _), (4, _), (6, _)] (fun y => []) (fun y => [(b23, .cells #[.int .i64 y.2.2.1, .int .i64 y.2.2.2.1, .int .i64 y.2.2.2.2.1, .int .i64 y.2.2.2.2.2.1, .int .i64 y.2.2.2.2.2.2.1, .int .i64 y.2.2.2.2.2.2.2.1, .int .i64 y.2.2.2.2.2.2.2.2.1, .int .i64 y.2.2.2.2.2.2.2.2.2] 35 (0, 0))]) [_, _] (fun y => []) [] (fun y => ref29_Best_L2 ref29_Best_J1 u3.1 x0_0 x0_1 x0_2 x0_3 x0_4 x0_5 x0_6 x0_7 x0_8 x0_9 y.1 y.2.1 y.2.2.1 y.2.2.2.1 y.2.2.2.2.1 y.2.2.2.2.2.1 y.2.2.2.2.2.2.1 y.2.2.2.2.2.2.2.1 y.2.2.2.2.2.2.2.2.1 y.2.2.2.2.2.2.2.2.2 = some r) (fun y => y.1) (big, 1, u18.1.1, u18.1.2.1, u18.1.2.2.1, u18.1.2.2.2, u18.2.1.1, u18.2.1.2.1, u18.2.1.2.2, u18.2.2) r19 ⟨rfl, rfl, rfl, rfl, trivial⟩ rfl rfl rfl (fun y hI hb325 => ?_)
        obtain ⟨n313, v315, v316, v317, v318, v319, v320, v321, v322, v323⟩ := y
        have r324 := hI; clear hI
        try dsimp only at r324
        refine Cov.prune [(7, .int .i64 v315), (2, _), (4, _), (6, _)] ⟨rfl, rfl, rfl, rfl, trivial⟩ ?_
        refine Cov.same (bl' := [(b23, .cells #[.int .i64 v316, .int .i64 v317, .int .i64 v318, .int .i64 v319, .int .i64 v320, .int .i64 v321, .int .i64 v322, .int .i64 v323] 35 (0, 0)), _, _]) (sl' := []) (Fs' := G261 :: Fs) rfl rfl rfl ?_
        obtain ⟨m338, rfl⟩ : ∃ m, n313 = m + 1 := by cases n313 with | zero => exact absurd (show (none : Option _) = some _ from r324) (by simp) | succ m => exact ⟨m, rfl⟩
        have r337 : ref29_Best_B2 ref29_Best_J1 u3.1 x0_0 x0_1 x0_2 x0_3 x0_4 x0_5 x0_6 x0_7 x0_8 x0_9 (ref29_Best_L2 ref29_Best_J1 u3.1 x0_0 x0_1 x0_2 x0_3 x0_4 x0_5 x0_6 x0_7 x0_8 x0_9 m338) v315 v316 v317 v318 v319 v320 v321 v322 v323 = some r := r324; clear r324; unfold ref29_Best_B2 at r337; try dsimp only at r337
        refine Cov.seq ?_
        refine Cov.seq ?_
        refine Cov.region rfl ?_
        refine Cov.q .ro (.move rfl) rfl ?_
        refine Cov.q .ro (.move rfl) rfl ?_
        refine Cov.q .ro (.len_sl rfl rfl sl39) rfl ?_
        refine Cov.q .ro (.lss rfl rfl) rfl ?_
        refine Cov.region_end ?_
        refine Cov.cond_dec rfl (fun c339 => ?_) (fun c339 => ?_)
        · have r340 := ifT r337 c339; clear r337
          refine Cov.skip ?_
          refine Cov.seq ?_
          refine Cov.block ?_
          refine Cov.seq ?_
          refine Cov.drawL (.q 0 (.q 1 (.q 2 (.q 3 (.q 4 (.e 5 2 .nil)))))) [_, _, _] (by kernel_rfl) (by kernel_rfl) (pick_mem [0, 1, 2] rfl) ?_
          refine Cov.dq (.move rfl) rfl ?_
          refine Cov.dq (.move rfl) rfl ?_
          obtain ⟨u341, hu341, r342⟩ := bind_some r340; clear r340
          obtain ⟨c343, p344, h345⟩ := SlR.get s264 hu341
          obtain ⟨_, _, rfl, ⟨_, _, rfl, rfl, _, _, rfl, rfl, _, _, rfl, rfl, rfl⟩, _, _, rfl, ⟨_, _, rfl, rfl, _, _, rfl, rfl, rfl⟩, rfl⟩ := h345
          refine Cov.dq (.idxR s264 rfl rfl hu341 sl39 ty35.sz) rfl ?_
          refine Cov.dq (.load_rp_a [_, _, _, _, _, _, _, _] p344 List.mem_cons_self rfl ty35 rfl) rfl ?_
          refine Cov.dq (.load_own_a 0 [_, _, _, _, _, _, _, _] rfl rfl ty35 rfl) rfl ?_
          obtain ⟨u346, hu346, r347⟩ := bind_some r342; clear r342
          refine Cov.callS (b1 := []) (b2 := [_, _, _]) (s1 := []) [_, _] [] .d2 rfl rfl Try.call29 rfl rfl (ref29_Better_c (G := G261) List.mem_cons_self  hu346) rfl (fun v349 bo so h348 => ?_)
          obtain ⟨rfl, rfl, rfl⟩ := h348
          refine Cov.same (bl' := [_, _, _]) (sl' := []) rfl rfl rfl ?_
          refine Cov.draw_end ?_
          refine Cov.cond rfl (fun c350 => ?_) (fun c350 => ?_)
          · have r351 := ifT r347 c350; clear r347
            refine Cov.region rfl ?_
            refine Cov.q .ro (.move rfl) rfl ?_
            refine Cov.q .ro (.move rfl) rfl ?_
            obtain ⟨u352, hu352, r353⟩ := bind_some r351; clear r351
            obtain ⟨c354, p355, h356⟩ := SlR.get s264 hu352
            obtain ⟨_, _, rfl, ⟨_, _, rfl, rfl, _, _, rfl, rfl, _, _, rfl, rfl, rfl⟩, _, _, rfl, ⟨_, _, rfl, rfl, _, _, rfl, rfl, rfl⟩, rfl⟩ := h356
            refine Cov.q .ro (.idxR s264 rfl rfl hu352 sl39 ty35.sz) rfl ?_
            refine Cov.q .ro (.load_rp_a [_, _, _, _, _, _, _, _] p355 List.mem_cons_self rfl ty35 rfl) rfl ?_
            refine Cov.store 0 [_, _, _, _, _, _, _, _] [_, _, _] .ro rfl rfl rfl ty35 rfl rfl rfl rfl ?_
            refine Cov.region_end ?_
            refine Cov.prune [(7, _), (2, _), (4, _), (6, _)] ⟨rfl, rfl, rfl, rfl, trivial⟩ ?_
            refine Cov.inBlock ?_
            refine Cov.region rfl ?_
            refine Cov.q .ro (.move rfl) rfl ?_
            refine Cov.q .ro (.addw rfl rfl) rfl ?_
            refine Cov.q .ro (.assign rfl) rfl ?_
            refine Cov.region_end ?_
            refine Cov.prune _ ?_ (Cov.same rfl rfl rfl (hb325 (m338, (w64 (v315 + 1)), u352.1.1, u352.1.2.1, u352.1.2.2.1, u352.1.2.2.2, u352.2.1.1, u352.2.1.2.1, u352.2.1.2.2, u352.2.2) r353 (Nat.lt_succ_self _)))
            exact ⟨rfl, rfl, rfl, rfl, trivial⟩
          · have r357 := ifBF r347 c350; clear r347
            refine Cov.skip ?_
            refine Cov.inBlock ?_
            refine Cov.region rfl ?_
            refine Cov.q .ro (.move rfl) rfl ?_
            refine Cov.q .ro (.addw rfl rfl) rfl ?_
            refine Cov.q .ro (.assign rfl) rfl ?_
            refine Cov.region_end ?_
            refine Cov.prune _ ?_ (Cov.same rfl rfl rfl (hb325 (m338, (w64 (v315 + 1)), v316, v317, v318, v319, v320, v321, v322, v323) r357 (Nat.lt_succ_self _)))
            exact ⟨rfl, rfl, rfl, rfl, trivial⟩
        · have r358 := ifF r337 c339; clear r337
          refine Cov.exit rfl ?_
          refine Cov.prune _ ?_ (Cov.same rfl rfl rfl (hb207 (G261, v316, v317, v318, v319, v320, v321, v322, v323, 0, 0, 0, 0, 0, 0, 0, 0, x0_0, x0_1, x0_2, x0_3, x0_4, x0_5, x0_6, x0_7, x0_8, x0_9) ⟨e262, B263, r358⟩))
          exact ⟨rfl, rfl, trivial⟩

set_option maxHeartbeats 4000000 in
theorem ref29_Same_c {Fs : List Hp} {G : Hp} {a0 : Option Addr} {k0 : Nat} {x0 : List ((Int × Int × Int × Int) × (Int × Int × Int) × Int)} {a1 : Option Addr} {k1 : Nat} {x1 : List ((Int × Int × Int × Int) × (Int × Int × Int) × Int)} {r : Bool} (hG : G ∈ Fs) (s0 : SlR (Rep.pair (Rep.pair (Rep.int .i64) (Rep.pair (Rep.int .i64) (Rep.pair (Rep.int .i64) (Rep.int .i64)))) (Rep.pair (Rep.pair (Rep.int .i64) (Rep.pair (Rep.int .i64) (Rep.int .i64))) (Rep.int .i64))) G a0 k0 x0) (s1 : SlR (Rep.pair (Rep.pair (Rep.int .i64) (Rep.pair (Rep.int .i64) (Rep.pair (Rep.int .i64) (Rep.int .i64)))) (Rep.pair (Rep.pair (Rep.int .i64) (Rep.pair (Rep.int .i64) (Rep.int .i64))) (Rep.int .i64))) G a1 k1 x1) (h : ref29_Same x0 x1 = some r) : RetS Try.prog 26 #[.slice a0 x0.length k0, .slice a1 x1.length k1] Fs [] [] (fun v bo so => v = .bool r ∧ bo = [] ∧ so = []) := by
  unfold ref29_Same at h
  try dsimp only at h
  refine RetS.of (vs := [_, _]) Try.func26 rfl Try.ntmps26 [(0, _), (1, _)] ⟨rfl, rfl, trivial⟩ rfl hG fun w0 S0 hS0 B0 => ?_
  refine Cov.seq ?_
  refine Cov.region rfl ?_
  refine Cov.q .ro (.assign rfl) rfl ?_
  refine Cov.region_end ?_
  refine Cov.seq ?_
  refine Cov.seq ?_
  refine Cov.region rfl ?_
  refine Cov.q .ro (.move rfl) rfl ?_
  refine Cov.q .ro (.len_sl rfl rfl sl39) rfl ?_
  refine Cov.q .ro (.move rfl) rfl ?_
  refine Cov.q .ro (.len_sl rfl rfl sl39) rfl ?_
  refine Cov.q .ro (.neq rfl rfl) rfl ?_
  refine Cov.region_end ?_
  refine Cov.cond_dec rfl (fun c1 => ?_) (fun c1 => ?_)
  · have r2 := ifT h c1; clear h
    refine Cov.seq ?_
    refine Cov.region rfl ?_
    refine Cov.q .ro (.assign rfl) rfl ?_
    refine Cov.region_end ?_
    cases r2
    refine Cov.retS (c := ⟨26, none⟩) (.inr ⟨_, rfl⟩) [.tmp 4] [_] rfl Try.func26 Try.results26 ⟨RV.tmp rfl, trivial⟩ (fun _ h => List.mem_cons_of_mem _ h) ⟨rfl, rfl, rfl⟩
  · have r3 := ifF h c1; clear h
    refine Cov.skip ?_
    refine Cov.seq ?_
    refine Cov.seq ?_
    refine Cov.region rfl ?_
    refine Cov.q .ro (.assign rfl) rfl ?_
    refine Cov.region_end ?_
    refine Cov.block ?_
    refine Cov.loop2 (α := Nat × Int) (fun y => [(5, .int .i64 y.2)]) [(0, _), (1, _)] (fun y => []) (fun y => []) [] (fun y => []) [] (fun y => ref29_Same_L1 x0 x1 y.1 y.2 = some r) (fun y => y.1) (big, 0) r3 ⟨rfl, rfl, rfl, trivial⟩ rfl rfl rfl (fun y hI hb26 => ?_)
    obtain ⟨n22, v24⟩ := y
    have r25 := hI; clear hI
    try dsimp only at r25
    refine Cov.prune [(5, .int .i64 v24), (0, _), (1, _)] ⟨rfl, rfl, rfl, trivial⟩ ?_
    refine Cov.same (bl' := []) (sl' := []) (Fs' := G :: Fs) rfl rfl rfl ?_
    obtain ⟨m30, rfl⟩ : ∃ m, n22 = m + 1 := by cases n22 with | zero => exact absurd (show (none : Option _) = some _ from r25) (by simp) | succ m => exact ⟨m, rfl⟩
    have r29 : ref29_Same_B1 x0 x1 (ref29_Same_L1 x0 x1 m30) v24 = some r := r25; clear r25; unfold ref29_Same_B1 at r29; try dsimp only at r29
    refine Cov.seq ?_
    refine Cov.seq ?_
    refine Cov.region rfl ?_
    refine Cov.q .ro (.move rfl) rfl ?_
    refine Cov.q .ro (.move rfl) rfl ?_
    refine Cov.q .ro (.len_sl rfl rfl sl39) rfl ?_
    refine Cov.q .ro (.lss rfl rfl) rfl ?_
    refine Cov.region_end ?_
    refine Cov.cond_dec rfl (fun c31 => ?_) (fun c31 => ?_)
    · have r32 := ifT r29 c31; clear r29
      refine Cov.skip ?_
      refine Cov.seq ?_
      refine Cov.block ?_
      refine Cov.seq ?_
      refine Cov.drawL (.q 0 (.q 1 (.q 2 (.q 3 (.q 4 (.q 5 (.q 6 (.q 7 (.q 8 .nil))))))))) [] (by kernel_rfl) (by kernel_rfl) (pick_mem [] rfl) ?_
      refine Cov.dq (.move rfl) rfl ?_
      refine Cov.dq (.move rfl) rfl ?_
      obtain ⟨u33, hu33, r34⟩ := bind_some r32; clear r32
      obtain ⟨c35, p36, h37⟩ := SlR.get s0 hu33
      obtain ⟨_, _, rfl, ⟨_, _, rfl, rfl, _, _, rfl, rfl, _, _, rfl, rfl, rfl⟩, _, _, rfl, ⟨_, _, rfl, rfl, _, _, rfl, rfl, rfl⟩, rfl⟩ := h37
      refine Cov.dq (.idxR s0 rfl rfl hu33 sl39 ty35.sz) rfl ?_
      refine Cov.dq (.load_rp_a [_, _, _, _, _, _, _, _] p36 List.mem_cons_self rfl ty35 rfl) rfl ?_
      refine Cov.dq (.move rfl) rfl ?_
      refine Cov.dq (.move rfl) rfl ?_
      obtain ⟨u38, hu38, r39⟩ := bind_some r34; clear r34
      obtain ⟨c40, p41, h42⟩ := SlR.get s1 hu38
      obtain ⟨_, _, rfl, ⟨_, _, rfl, rfl, _, _, rfl, rfl, _, _, rfl, rfl, rfl⟩, _, _, rfl, ⟨_, _, rfl, rfl, _, _, rfl, rfl, rfl⟩, rfl⟩ := h42
      refine Cov.dq (.idxR s1 rfl rfl hu38 sl39 ty35.sz) rfl ?_
      refine Cov.dq (.load_rp_a [_, _, _, _, _, _, _, _] p41 List.mem_cons_self rfl ty35 rfl) rfl ?_
      refine Cov.dq (.cast (show Value.bool (decide (([u33.1.1, u33.1.2.1, u33.1.2.2.1, u33.1.2.2.2, u33.2.1.1, u33.2.1.2.1, u33.2.1.2.2, u33.2.2] : List Int) ≠ ([u38.1.1, u38.1.2.1, u38.1.2.2.1, u38.1.2.2.2, u38.2.1.1, u38.2.1.2.1, u38.2.1.2.2, u38.2.2] : List Int))) = Value.bool (decide ((u33.1.1, u33.1.2.1, u33.1.2.2.1, u33.1.2.2.2, u33.2.1.1, u33.2.1.2.1, u33.2.1.2.2, u33.2.2) ≠ (u38.1.1, u38.1.2.1, u38.1.2.2.1, u38.1.2.2.2, u38.2.1.1, u38.2.1.2.1, u38.2.1.2.2, u38.2.2))) from congrArg Value.bool (decide_eq_decide.2 (by simp))) (.neq_i2 (m := 8) [u33.1.1, u33.1.2.1, u33.1.2.2.1, u33.1.2.2.2, u33.2.1.1, u33.2.1.2.1, u33.2.1.2.2, u33.2.2] [u38.1.1, u38.1.2.1, u38.1.2.2.1, u38.1.2.2.2, u38.2.1.1, u38.2.1.2.1, u38.2.1.2.2, u38.2.2] Try.underlying35 (by kernel_rfl) Try.stoodInHeld35 Try.eqGuardType35 rfl rfl rfl rfl)) rfl ?_
      refine Cov.draw_end ?_
      refine Cov.cond_dec rfl (fun c43 => ?_) (fun c43 => ?_)
      · have r44 := ifT r39 c43; clear r39
        refine Cov.seq ?_
        refine Cov.region rfl ?_
        refine Cov.q .ro (.assign rfl) rfl ?_
        refine Cov.region_end ?_
        refine Cov.prune [(4, _)] ⟨rfl, trivial⟩ ?_
        cases r44
        refine Cov.retS (c := ⟨26, none⟩) (.inr ⟨_, rfl⟩) [.tmp 4] [_] rfl Try.func26 Try.results26 ⟨RV.tmp rfl, trivial⟩ (fun _ h => List.mem_cons_of_mem _ h) ⟨rfl, rfl, rfl⟩
      · have r45 := ifF r39 c43; clear r39
        refine Cov.skip ?_
        refine Cov.inBlock ?_
        refine Cov.region rfl ?_
        refine Cov.q .ro (.move rfl) rfl ?_
        refine Cov.q .ro (.addw rfl rfl) rfl ?_
        refine Cov.q .ro (.assign rfl) rfl ?_
        refine Cov.region_end ?_
        refine Cov.prune [(5, _), (0, _), (1, _)] ⟨rfl, rfl, rfl, trivial⟩ ?_
        refine Cov.prune _ ?_ (Cov.same rfl rfl rfl (hb26 (m30, (w64 (v24 + 1))) r45 (Nat.lt_succ_self _)))
        exact ⟨rfl, rfl, rfl, trivial⟩
    · have r46 := ifF r29 c31; clear r29
      refine Cov.exit rfl ?_
      refine Cov.seq ?_
      refine Cov.region rfl ?_
      refine Cov.q .ro (.assign rfl) rfl ?_
      refine Cov.region_end ?_
      cases r46
      refine Cov.retS (c := ⟨26, none⟩) (.inr ⟨_, rfl⟩) [.tmp 4] [_] rfl Try.func26 Try.results26 ⟨RV.tmp rfl, trivial⟩ (fun _ h => List.mem_cons_of_mem _ h) ⟨rfl, rfl, rfl⟩

set_option maxHeartbeats 4000000 in
theorem slices_Equal_LapiChoiceapiChoice_c {Fs : List Hp} {G : Hp} {a0 : Option Addr} {k0 : Nat} {x0 : List ((Int × Int × Int × Int) × (Int × Int × Int) × Int)} {a1 : Option Addr} {k1 : Nat} {x1 : List ((Int × Int × Int × Int) × (Int × Int × Int) × Int)} {r : Bool} (hG : G ∈ Fs) (s0 : SlR (Rep.pair (Rep.pair (Rep.int .i64) (Rep.pair (Rep.int .i64) (Rep.pair (Rep.int .i64) (Rep.int .i64)))) (Rep.pair (Rep.pair (Rep.int .i64) (Rep.pair (Rep.int .i64) (Rep.int .i64))) (Rep.int .i64))) G a0 k0 x0) (s1 : SlR (Rep.pair (Rep.pair (Rep.int .i64) (Rep.pair (Rep.int .i64) (Rep.pair (Rep.int .i64) (Rep.int .i64)))) (Rep.pair (Rep.pair (Rep.int .i64) (Rep.pair (Rep.int .i64) (Rep.int .i64))) (Rep.int .i64))) G a1 k1 x1) (h : slices_Equal_LapiChoiceapiChoice x0 x1 = some r) : RetS Try.prog 40 #[.slice a0 x0.length k0, .slice a1 x1.length k1] Fs [] [] (fun v bo so => v = .bool r ∧ bo = [] ∧ so = []) := by
  unfold slices_Equal_LapiChoiceapiChoice at h
  try dsimp only at h
  refine RetS.of (vs := [_, _]) Try.func40 rfl Try.ntmps40 [(0, _), (1, _)] ⟨rfl, rfl, trivial⟩ rfl hG fun w0 S0 hS0 B0 => ?_
  refine Cov.seq ?_
  refine Cov.region rfl ?_
  refine Cov.q .ro (.assign rfl) rfl ?_
  refine Cov.region_end ?_
  refine Cov.seq ?_
  refine Cov.seq ?_
  refine Cov.region rfl ?_
  refine Cov.q .ro (.move rfl) rfl ?_
  refine Cov.q .ro (.len_sl rfl rfl sl39) rfl ?_
  refine Cov.q .ro (.move rfl) rfl ?_
  refine Cov.q .ro (.len_sl rfl rfl sl39) rfl ?_
  refine Cov.q .ro (.neq rfl rfl) rfl ?_
  refine Cov.region_end ?_
  refine Cov.cond_dec rfl (fun c1 => ?_) (fun c1 => ?_)
  · have r2 := ifT h c1; clear h
    refine Cov.seq ?_
    refine Cov.region rfl ?_
    refine Cov.q .ro (.assign rfl) rfl ?_
    refine Cov.region_end ?_
    cases r2
    refine Cov.retS (c := ⟨40, none⟩) (.inr ⟨_, rfl⟩) [.tmp 4] [_] rfl Try.func40 Try.results40 ⟨RV.tmp rfl, trivial⟩ (fun _ h => List.mem_cons_of_mem _ h) ⟨rfl, rfl, rfl⟩
  · have r3 := ifF h c1; clear h
    refine Cov.skip ?_
    refine Cov.seq ?_
    refine Cov.seq ?_
    refine Cov.region rfl ?_
    refine Cov.q .ro (.move rfl) rfl ?_
    refine Cov.q .ro (.len_sl rfl rfl sl39) rfl ?_
    refine Cov.q .ro (.move rfl) rfl ?_
    refine Cov.region_end ?_
    refine Cov.block ?_
    refine Cov.loop2 (α := Nat × (List ((Int × Int × Int × Int) × (Int × Int × Int) × Int))) (fun y => [(13, .int .i64 (y.1 : Int))]) [(0, _), (1, _), (12, _)] (fun y => []) (fun y => []) [] (fun y => []) [] (fun y => List.drop y.1 x0 = y.2 ∧ slices_Equal_LapiChoiceapiChoice_L1 x1 y.2 y.1  = some r) (fun y => y.2.length) (0, x0) ⟨rfl, r3⟩ ⟨rfl, rfl, rfl, rfl, trivial⟩ rfl rfl rfl (fun y hI hb27 => ?_)
    obtain ⟨i23, w24⟩ := y
    obtain ⟨g25, r26⟩ := hI
    try dsimp only at g25 r26
    refine Cov.prune [(13, .int .i64 (i23 : Int)), (0, _), (1, _), (12, _)] ⟨rfl, rfl, rfl, rfl, trivial⟩ ?_
    refine Cov.same (bl' := []) (sl' := []) (Fs' := G :: Fs) rfl rfl rfl ?_
    cases w24 with
    | nil =>
      rw [slices_Equal_LapiChoiceapiChoice_L1] at r26; try dsimp only at r26
      refine Cov.seq ?_
      refine Cov.region rfl ?_
      refine Cov.q .ro (.lss rfl rfl) rfl ?_
      refine Cov.region_end ?_
      refine Cov.seq ?_
      refine Cov.cond_dec rfl (fun c => absurd c (drop_nil g25)) (fun _ => ?_)
      refine Cov.exit rfl ?_
      refine Cov.seq ?_
      refine Cov.region rfl ?_
      refine Cov.q .ro (.assign rfl) rfl ?_
      refine Cov.region_end ?_
      cases r26
      refine Cov.retS (c := ⟨40, none⟩) (.inr ⟨_, rfl⟩) [.tmp 4] [_] rfl Try.func40 Try.results40 ⟨RV.tmp rfl, trivial⟩ (fun _ h => List.mem_cons_of_mem _ h) ⟨rfl, rfl, rfl⟩
    | cons x32 xs33 =>
      have r31 : slices_Equal_LapiChoiceapiChoice_B1 x1 (slices_Equal_LapiChoiceapiChoice_L1 x1 xs33 (i23 + 1)) x32 i23  = some r := r26; clear r26; unfold slices_Equal_LapiChoiceapiChoice_B1 at r31; try dsimp only at r31
      refine Cov.seq ?_
      refine Cov.region rfl ?_
      refine Cov.q .ro (.lss rfl rfl) rfl ?_
      refine Cov.region_end ?_
      refine Cov.seq ?_
      refine Cov.cond_dec rfl (fun _ => ?_) (fun c => absurd (drop_lt g25) c)
      refine Cov.skip ?_
      refine Cov.seq ?_
      refine Cov.block ?_
      refine Cov.seq ?_
      refine Cov.region rfl ?_
      refine Cov.q .ro (.move rfl) rfl ?_
      refine Cov.q .ro (.assign rfl) rfl ?_
      refine Cov.region_end ?_
      refine Cov.seq ?_
      refine Cov.drawL (.q 0 (.q 1 (.q 2 (.q 3 (.q 4 (.q 5 (.q 6 (.q 7 (.q 8 .nil))))))))) [] (by kernel_rfl) (by kernel_rfl) (pick_mem [] rfl) ?_
      refine Cov.dq (.move rfl) rfl ?_
      refine Cov.dq (.move rfl) rfl ?_
      obtain ⟨c34, p35, h36⟩ := SlR.get s0 (drop_idx g25)
      obtain ⟨_, _, rfl, ⟨_, _, rfl, rfl, _, _, rfl, rfl, _, _, rfl, rfl, rfl⟩, _, _, rfl, ⟨_, _, rfl, rfl, _, _, rfl, rfl, rfl⟩, rfl⟩ := h36
      refine Cov.dq (.idxR s0 rfl rfl (drop_idx g25) sl39 ty35.sz) rfl ?_
      refine Cov.dq (.load_rp_a [_, _, _, _, _, _, _, _] p35 List.mem_cons_self rfl ty35 rfl) rfl ?_
      refine Cov.dq (.move rfl) rfl ?_
      refine Cov.dq (.move rfl) rfl ?_
      obtain ⟨u37, hu37, r38⟩ := bind_some r31; clear r31
      obtain ⟨c39, p40, h41⟩ := SlR.get s1 hu37
      obtain ⟨_, _, rfl, ⟨_, _, rfl, rfl, _, _, rfl, rfl, _, _, rfl, rfl, rfl⟩, _, _, rfl, ⟨_, _, rfl, rfl, _, _, rfl, rfl, rfl⟩, rfl⟩ := h41
      refine Cov.dq (.idxR s1 rfl rfl hu37 sl39 ty35.sz) rfl ?_
      refine Cov.dq (.load_rp_a [_, _, _, _, _, _, _, _] p40 List.mem_cons_self rfl ty35 rfl) rfl ?_
      refine Cov.dq (.cast (show Value.bool (decide (([x32.1.1, x32.1.2.1, x32.1.2.2.1, x32.1.2.2.2, x32.2.1.1, x32.2.1.2.1, x32.2.1.2.2, x32.2.2] : List Int) ≠ ([u37.1.1, u37.1.2.1, u37.1.2.2.1, u37.1.2.2.2, u37.2.1.1, u37.2.1.2.1, u37.2.1.2.2, u37.2.2] : List Int))) = Value.bool (decide ((x32.1.1, x32.1.2.1, x32.1.2.2.1, x32.1.2.2.2, x32.2.1.1, x32.2.1.2.1, x32.2.1.2.2, x32.2.2) ≠ (u37.1.1, u37.1.2.1, u37.1.2.2.1, u37.1.2.2.2, u37.2.1.1, u37.2.1.2.1, u37.2.1.2.2, u37.2.2))) from congrArg Value.bool (decide_eq_decide.2 (by simp))) (.neq_i2 (m := 8) [x32.1.1, x32.1.2.1, x32.1.2.2.1, x32.1.2.2.2, x32.2.1.1, x32.2.1.2.1, x32.2.1.2.2, x32.2.2] [u37.1.1, u37.1.2.1, u37.1.2.2.1, u37.1.2.2.2, u37.2.1.1, u37.2.1.2.1, u37.2.1.2.2, u37.2.2] Try.underlying35 (by kernel_rfl) Try.stoodInHeld35 Try.eqGuardType35 rfl rfl rfl rfl)) rfl ?_
      refine Cov.draw_end ?_
      refine Cov.cond_dec rfl (fun c42 => ?_) (fun c42 => ?_)
      · have r43 := ifT r38 c42; clear r38
        refine Cov.seq ?_
        refine Cov.region rfl ?_
        refine Cov.q .ro (.assign rfl) rfl ?_
        refine Cov.region_end ?_
        refine Cov.prune [(4, _)] ⟨rfl, trivial⟩ ?_
        cases r43
        refine Cov.retS (c := ⟨40, none⟩) (.inr ⟨_, rfl⟩) [.tmp 4] [_] rfl Try.func40 Try.results40 ⟨RV.tmp rfl, trivial⟩ (fun _ h => List.mem_cons_of_mem _ h) ⟨rfl, rfl, rfl⟩
      · have r44 := ifF r38 c42; clear r38
        refine Cov.skip ?_
        refine Cov.inBlock ?_
        refine Cov.region rfl ?_
        refine Cov.q .ro (.addw rfl rfl) rfl ?_
        refine Cov.q .ro (.move rfl) rfl ?_
        refine Cov.region_end ?_
        refine Cov.prune [(13, _), (0, _), (1, _), (12, _)] ⟨rfl, rfl, rfl, rfl, trivial⟩ ?_
        refine Cov.prune _ ?_ (Cov.same rfl rfl rfl (hb27 ((i23 + 1), xs33) ⟨(drop_succ g25), r44⟩ (Nat.lt_succ_self _)))
        exact ⟨(congrArg (fun z => some (Value.int .i64 z)) (idx_wrap (SlR.len s0) g25)), rfl, rfl, rfl, trivial⟩

set_option maxHeartbeats 4000000 in
theorem planner_Same_c {Fs : List Hp} {G : Hp} {a0 : Option Addr} {k0 : Nat} {x0 : List ((Int × Int × Int × Int) × (Int × Int × Int) × Int)} {a1 : Option Addr} {k1 : Nat} {x1 : List ((Int × Int × Int × Int) × (Int × Int × Int) × Int)} {r : Bool} (hG : G ∈ Fs) (s0 : SlR (Rep.pair (Rep.pair (Rep.int .i64) (Rep.pair (Rep.int .i64) (Rep.pair (Rep.int .i64) (Rep.int .i64)))) (Rep.pair (Rep.pair (Rep.int .i64) (Rep.pair (Rep.int .i64) (Rep.int .i64))) (Rep.int .i64))) G a0 k0 x0) (s1 : SlR (Rep.pair (Rep.pair (Rep.int .i64) (Rep.pair (Rep.int .i64) (Rep.pair (Rep.int .i64) (Rep.int .i64)))) (Rep.pair (Rep.pair (Rep.int .i64) (Rep.pair (Rep.int .i64) (Rep.int .i64))) (Rep.int .i64))) G a1 k1 x1) (h : planner_Same x0 x1 = some r) : RetS Try.prog 27 #[.slice a0 x0.length k0, .slice a1 x1.length k1] Fs [] [] (fun v bo so => v = .bool r ∧ bo = [] ∧ so = []) := by
  unfold planner_Same at h
  try dsimp only at h
  refine RetS.of (vs := [_, _]) Try.func27 rfl Try.ntmps27 [(0, _), (1, _)] ⟨rfl, rfl, trivial⟩ rfl hG fun w0 S0 hS0 B0 => ?_
  refine Cov.seq ?_
  refine Cov.region rfl ?_
  refine Cov.q .ro (.assign rfl) rfl ?_
  refine Cov.region_end ?_
  refine Cov.seq ?_
  refine Cov.region rfl ?_
  refine Cov.q .ro (.move rfl) rfl ?_
  refine Cov.q .ro (.move rfl) rfl ?_
  obtain ⟨u1, hu1, r2⟩ := bind_some h; clear h
  refine Cov.callS (b1 := []) (b2 := []) (s1 := []) [_, _] [] .ro rfl rfl Try.call40 rfl rfl (slices_Equal_LapiChoiceapiChoice_c (G := G) List.mem_cons_self s0 s1 hu1) rfl (fun v4 bo so h3 => ?_)
  obtain ⟨rfl, rfl, rfl⟩ := h3
  refine Cov.same (bl' := []) (sl' := []) rfl rfl rfl ?_
  refine Cov.q .ro (.assign rfl) rfl ?_
  refine Cov.region_end ?_
  cases r2
  refine Cov.retS (c := ⟨27, none⟩) (.inr ⟨_, rfl⟩) [.tmp 4] [_] rfl Try.func27 Try.results27 ⟨RV.tmp rfl, trivial⟩ (fun _ h => List.mem_cons_of_mem _ h) ⟨rfl, rfl, rfl⟩

end Go.Proofs.Ytmjidoadjinhgaa
