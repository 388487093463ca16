/- The walks. Printed by wip/lift/drive.py. -/
import Derived.Test.YtdchjmophffphaaW2
namespace Go.Proofs.Ytdchjmophffphaa
open Go.RowKit
set_option linter.unusedSimpArgs false
set_option linter.unusedVariables false

set_option maxHeartbeats 4000000 in
theorem law21_FenceFinds_c {Fs : List Hp} {G : Hp} {a0 : Option Addr} {k0 : Nat} {x0 : List Int} {r : Bool} (hG : G ∈ Fs) (s0 : SlR (Rep.int .i64) G a0 k0 x0) (h : law21_FenceFinds x0 = some r) : RetS Try.prog 7 #[.slice a0 x0.length k0] Fs [] [] (fun v bo so => v = .bool r ∧ bo = [] ∧ so = []) := by
  unfold law21_FenceFinds at h
  try dsimp only at h
  refine RetS.of (vs := [_]) Try.func7 rfl Try.ntmps7 [(0, _)] ⟨rfl, trivial⟩ rfl hG fun w0 S0 hS0 B0 => ?_
  refine Cov.seq ?_
  refine Cov.region rfl ?_
  refine Cov.q .ro (.assign rfl) rfl ?_
  refine Cov.region_end ?_
  refine Cov.seq ?_
  refine Cov.seq ?_
  refine Cov.region rfl ?_
  obtain ⟨u1, hu1, r2⟩ := bind_some h; clear h
  refine Cov.callS (b1 := []) (b2 := []) (s1 := []) [] [] .ro rfl rfl Try.call8 rfl rfl (law21_sane_c (G := G) List.mem_cons_self  hu1) rfl (fun v4 bo so h3 => ?_)
  obtain ⟨rfl, rfl, rfl⟩ := h3
  refine Cov.same (bl' := []) (sl' := []) rfl rfl rfl ?_
  refine Cov.q .ro (.not rfl) rfl ?_
  refine Cov.region_end ?_
  refine Cov.cond rfl (fun c5 => ?_) (fun c5 => ?_)
  · have r6 := ifT r2 c5; clear r2
    refine Cov.seq ?_
    refine Cov.region rfl ?_
    refine Cov.q .ro (.assign rfl) rfl ?_
    refine Cov.region_end ?_
    cases r6
    refine Cov.retS (c := ⟨7, none⟩) (.inr ⟨_, rfl⟩) [.tmp 2] [_] rfl Try.func7 Try.results7 ⟨RV.tmp rfl, trivial⟩ (fun _ h => List.mem_cons_of_mem _ h) ⟨rfl, rfl, rfl⟩
  · have r7 := ifBF r2 c5; clear r2
    refine Cov.skip ?_
    refine Cov.seq ?_
    refine Cov.seq ?_
    refine Cov.region rfl ?_
    refine Cov.q .ro (.move rfl) rfl ?_
    obtain ⟨u8, hu8, r9⟩ := bind_some r7; clear r7
    refine Cov.callS (b1 := []) (b2 := []) (s1 := []) [_] [] .ro rfl rfl Try.call9 rfl rfl (make_Few_c (G := G) List.mem_cons_self s0 hu8) rfl (fun v11 bo so h10 => ?_)
    obtain ⟨rfl, rfl, rfl⟩ := h10
    refine Cov.same (bl' := []) (sl' := []) rfl rfl rfl ?_
    refine Cov.q .ro (.not rfl) rfl ?_
    refine Cov.region_end ?_
    refine Cov.cond rfl (fun c12 => ?_) (fun c12 => ?_)
    · have r13 := ifT r9 c12; clear r9
      refine Cov.seq ?_
      refine Cov.region rfl ?_
      refine Cov.q .ro (.assign rfl) rfl ?_
      refine Cov.region_end ?_
      cases r13
      refine Cov.retS (c := ⟨7, none⟩) (.inr ⟨_, rfl⟩) [.tmp 2] [_] rfl Try.func7 Try.results7 ⟨RV.tmp rfl, trivial⟩ (fun _ h => List.mem_cons_of_mem _ h) ⟨rfl, rfl, rfl⟩
    · have r14 := ifBF r9 c12; clear r9
      refine Cov.skip ?_
      refine Cov.seq ?_
      refine Cov.region rfl ?_
      refine Cov.q .ro (.move rfl) rfl ?_
      obtain ⟨u15, hu15, r16⟩ := bind_some r14; clear r14
      refine Cov.callS (b1 := []) (b2 := []) (s1 := []) [_] [] .ro rfl rfl Try.call10 rfl rfl (make_New_c (G := G) List.mem_cons_self s0 hu15) rfl (fun v18 bo so h17 => ?_)
      obtain ⟨a20, k21, b19, rfl, rfl, rfl, s22⟩ := h17
      refine Cov.same (bl' := [_]) (sl' := []) rfl rfl rfl ?_
      refine Cov.q .ro (.assign rfl) rfl ?_
      refine Cov.region_end ?_
      refine Cov.seq ?_
      refine Cov.region rfl ?_
      refine Cov.q .ro (.move rfl) rfl ?_
      obtain ⟨u23, hu23, r24⟩ := bind_some r16; clear r16
      refine Cov.callW (b1 := [_]) (b2 := []) (s1 := []) [_] [] .ro rfl rfl Try.call11 rfl rfl (make_Fence_c (G := G) List.mem_cons_self s22 hu23) rfl B0 (fun v26 bo so G27 e28 B29 h25 => ?_)
      obtain ⟨a31, k32, a34, k35, rfl, rfl, rfl, s33, s36⟩ := h25
      refine Cov.same (bl' := [_]) (sl' := []) rfl rfl rfl ?_
      refine Cov.alloc .ro ty29 rfl (fun b37 hb37 => ?_)
      refine Cov.store 0 [_, _] [_, _] .ro rfl rfl rfl ty29 rfl rfl rfl rfl ?_
      refine Cov.region_end ?_
      refine Cov.seq ?_
      refine Cov.region rfl ?_
      refine Cov.q .ro (.load_own_a 0 [_, _] rfl rfl ty29 rfl) rfl ?_
      obtain ⟨u38, hu38, r39⟩ := bind_some r24; clear r24
      refine Cov.callW (b1 := []) (b2 := [_, _]) (s1 := []) [_] [] .ro rfl rfl Try.call14 rfl rfl (fence_Levels_c (G := G27) List.mem_cons_self s33 hu38) rfl B29 (fun v41 bo so G42 e43 B44 h40 => ?_)
      obtain ⟨a47, k48, cs49, rfl, rfl, rfl, o50⟩ := h40
      refine Cov.same (bl' := [_, _]) (sl' := [_]) rfl rfl rfl ?_
      refine Cov.q .ro (.move rfl) rfl ?_
      refine Cov.q .ro (.extract rfl rfl) rfl ?_
      refine Cov.q .ro (.extract rfl rfl) rfl ?_
      refine Cov.q .ro (.assign rfl) rfl ?_
      refine Cov.q .ro (.assign rfl) rfl ?_
      refine Cov.region_end ?_
      refine Cov.prune [(3, _), (4, _), (5, _), (6, _)] ⟨rfl, rfl, rfl, rfl, trivial⟩ ?_
      refine Cov.seq ?_
      refine Cov.region rfl ?_
      refine Cov.q .ro (.fieldAddr 1 rfl fl29_1 ty27.sz rfl) rfl ?_
      refine Cov.q .ro (.load_own 0 rfl rfl ty27 rfl) rfl ?_
      refine Cov.q .ro (.len_sl rfl rfl sl27) rfl ?_
      refine Cov.q .ro (.fieldAddr 0 rfl fl29_0 ty3.sz rfl) rfl ?_
      refine Cov.q .ro (.load_own 0 rfl rfl ty3 rfl) rfl ?_
      obtain ⟨u51, hu51, r52⟩ := bind_some r39; clear r39
      refine Cov.callS (b1 := []) (b2 := [_, _]) (s1 := []) [_, _] [] .ro rfl rfl Try.call16 rfl rfl (fence_Steps_c (G := G42) List.mem_cons_self  hu51) rfl (fun v54 bo so h53 => ?_)
      obtain ⟨rfl, rfl, rfl⟩ := h53
      refine Cov.same (bl' := [_, _]) (sl' := [_]) rfl rfl rfl ?_
      refine Cov.q .ro (.move rfl) rfl ?_
      refine Cov.q .ro (.extract rfl rfl) rfl ?_
      refine Cov.q .ro (.extract rfl rfl) rfl ?_
      refine Cov.q .ro (.assign rfl) rfl ?_
      refine Cov.q .ro (.assign rfl) rfl ?_
      refine Cov.region_end ?_
      refine Cov.seq ?_
      refine Cov.seq ?_
      refine Cov.region rfl ?_
      refine Cov.q .ro (.move rfl) rfl ?_
      refine Cov.q .ro (.neq rfl rfl) rfl ?_
      refine Cov.q .ro (.move rfl) rfl ?_
      refine Cov.cutR 3 (β := Unit) (fun y => [(52, .bool (decide ((u38.2 ≠ 0) ∨ (u51.2 ≠ 0))))]) [(3, _), (4, _), (5, _), (7, _)] (fun y => G42 :: Fs) (fun y => []) [_, _] (fun y => []) [_] (fun y => True) ⟨rfl, rfl, rfl, rfl, trivial⟩ [0, 1] rfl [0] rfl ?_ ?_
      · rintro _ _
        refine Cov.prune [(52, .bool (decide ((u38.2 ≠ 0) ∨ (u51.2 ≠ 0)))), (3, _), (4, _), (5, _), (7, _)] ⟨rfl, rfl, rfl, rfl, rfl, trivial⟩ ?_
        refine Cov.same (bl' := [_, _]) (sl' := [_]) (Fs' := G42 :: Fs) rfl rfl rfl ?_
        refine Cov.q .ro (.move rfl) rfl ?_
        refine Cov.cutR 5 (β := Unit) (fun y => [(58, .bool (decide (((u38.2 ≠ 0) ∨ (u51.2 ≠ 0)) ∨ ((u38.1.length : Int) ≠ u51.1))))]) [(3, _), (4, _), (5, _), (7, _)] (fun y => G42 :: Fs) (fun y => []) [_, _] (fun y => []) [_] (fun y => True) ⟨rfl, rfl, rfl, rfl, trivial⟩ [0, 1] rfl [0] rfl ?_ ?_
        · rintro _ _
          refine Cov.prune [(58, .bool (decide (((u38.2 ≠ 0) ∨ (u51.2 ≠ 0)) ∨ ((u38.1.length : Int) ≠ u51.1)))), (3, _), (4, _), (5, _), (7, _)] ⟨rfl, rfl, rfl, rfl, rfl, trivial⟩ ?_
          refine Cov.same (bl' := [_, _]) (sl' := [_]) (Fs' := G42 :: Fs) rfl rfl rfl ?_
          refine Cov.region_end ?_
          refine Cov.cond_dec rfl (fun c63 => ?_) (fun c63 => ?_)
          · have r64 := ifT r52 c63; clear r52
            refine Cov.seq ?_
            refine Cov.region rfl ?_
            refine Cov.q .ro (.assign rfl) rfl ?_
            refine Cov.region_end ?_
            cases r64
            refine Cov.drop 2 0 [] _ rfl rfl ?_
            refine Cov.drop 0 1 _ [] rfl rfl ?_
            refine Cov.retS (c := ⟨7, none⟩) (.inr ⟨_, rfl⟩) [.tmp 2] [_] rfl Try.func7 Try.results7 ⟨RV.tmp rfl, trivial⟩ (fun _ h => List.mem_cons_of_mem _ h) ⟨rfl, rfl, rfl⟩
          · have r65 := ifF r52 c63; clear r52
            refine Cov.skip ?_
            refine Cov.seq ?_
            refine Cov.seq ?_
            refine Cov.drawL (.q 0 (.q 2 (.q 3 (.q 6 (.e 1 1 (.e 4 1 (.q 5 .nil))))))) [_] (by kernel_rfl) (by kernel_rfl) (pick_mem [0] rfl) ?_
            refine Cov.dq (.move rfl) rfl ?_
            refine Cov.dq (.fieldAddr 1 rfl fl29_1 ty27.sz rfl) rfl ?_
            refine Cov.dq (.load_own 0 rfl rfl ty27 rfl) rfl ?_
            refine Cov.dq (.move rfl) rfl ?_
            obtain ⟨u66, hu66, r67⟩ := bind_some r65; clear r65
            refine Cov.pull 1 rfl [_, _] rfl ?_
            refine Cov.callW (b1 := [_]) (b2 := [_]) (s1 := []) [_, _] [] .d1 rfl rfl Try.call28 rfl rfl (make_Words_c (G := G42) List.mem_cons_self (SlR.mono e43 s36) hu66) rfl B44 (fun v69 bo so G70 e71 B72 h68 => ?_)
            obtain ⟨a79, k80, a75, k76, cs77, rfl, rfl, rfl, s81, o78⟩ := h68
            refine Cov.same (bl' := [_, _]) (sl' := [_, _]) rfl rfl rfl ?_
            refine Cov.clsL e71 (pick_mem [1] rfl) ?_
            obtain ⟨u86, hu86, r87⟩ := bind_some r67; clear r67
            refine Cov.appR (Q := Rep.str) 0 .d1 sl27 ty9 rfl rfl rfl rfl rfl o78 rfl rfl (SlR.mono (HpLe.trans e43 e71) s33) rfl List.mem_cons_self hu86 rfl (fun a82 k83 cs84 o85 => ?_)
            refine Cov.clsL e71 (pick_mem [1] rfl) ?_
            refine Cov.dq (.len_sl rfl rfl sl27) rfl ?_
            refine Cov.draw_end ?_
            refine Cov.block ?_
            refine Cov.pull 1 rfl [_, _] rfl ?_
            refine Cov.pull 1 rfl [_, _] rfl ?_
            refine Cov.loop2 (α := Nat × List ByteArray × Int × Int) (fun y => [(65, .int .i64 (y.1 : Int))]) [(4, _), (5, _), (7, _), (63, _), (64, _)] (fun y => []) (fun y => [(b19, .cells #[.slice a79 u66.2.1.length k80, .int .i64 y.2.2.1] 55 (0, 0)), (b37, .cells #[.int .i64 y.2.2.2, .slice a31 u23.1.2.length k32] 29 (0, 0))]) [] (fun y => []) [_, _] (fun y => List.drop y.1 u86 = y.2.1 ∧ law21_FenceFinds_L5 u51.1 u23.1.2 u38.1 y.2.1 y.2.2.1 y.2.2.2 = some r) (fun y => y.2.1.length) (0, u86, u66.2.2, u23.1.1) ⟨rfl, r87⟩ ⟨rfl, rfl, rfl, rfl, rfl, rfl, trivial⟩ rfl rfl rfl (fun y hI hb508 => ?_)
            obtain ⟨i502, w503, v505, v506⟩ := y
            obtain ⟨g504, r507⟩ := hI
            try dsimp only at g504 r507
            refine Cov.prune [(65, .int .i64 (i502 : Int)), (4, _), (5, _), (7, _), (63, _), (64, _)] ⟨rfl, rfl, rfl, rfl, rfl, rfl, trivial⟩ ?_
            refine Cov.same (bl' := [(b19, .cells #[.slice a79 u66.2.1.length k80, .int .i64 v505] 55 (0, 0)), (b37, .cells #[.int .i64 v506, .slice a31 u23.1.2.length k32] 29 (0, 0))]) (sl' := [_, _]) (Fs' := G70 :: Fs) rfl rfl rfl ?_
            cases w503 with
            | nil =>
              rw [law21_FenceFinds_L5] at r507; try dsimp only at r507
              refine Cov.seq ?_
              refine Cov.region rfl ?_
              refine Cov.q .ro (.lss rfl rfl) rfl ?_
              refine Cov.region_end ?_
              refine Cov.seq ?_
              refine Cov.cond_dec rfl (fun c => absurd c (drop_nil g504)) (fun _ => ?_)
              refine Cov.exit rfl ?_
              refine Cov.seq ?_
              refine Cov.region rfl ?_
              refine Cov.q .ro (.assign rfl) rfl ?_
              refine Cov.region_end ?_
              cases r507
              refine Cov.drop 2 0 [] _ rfl rfl ?_
              refine Cov.drop 0 2 _ [] rfl rfl ?_
              refine Cov.retS (c := ⟨7, none⟩) (.inr ⟨_, rfl⟩) [.tmp 2] [_] rfl Try.func7 Try.results7 ⟨RV.tmp rfl, trivial⟩ (fun _ h => List.mem_cons_of_mem _ h) ⟨rfl, rfl, rfl⟩
            | cons x516 xs517 =>
              have r515 : law21_FenceFinds_B5 u51.1 u23.1.2 u38.1 (law21_FenceFinds_L5 u51.1 u23.1.2 u38.1 xs517) x516 v505 v506 = some r := r507; clear r507; unfold law21_FenceFinds_B5 at r515; try dsimp only at r515
              refine Cov.seq ?_
              refine Cov.region rfl ?_
              refine Cov.q .ro (.lss rfl rfl) rfl ?_
              refine Cov.region_end ?_
              refine Cov.seq ?_
              refine Cov.cond_dec rfl (fun _ => ?_) (fun c => absurd (drop_lt g504) c)
              refine Cov.skip ?_
              refine Cov.seq ?_
              refine Cov.block ?_
              refine Cov.seq ?_
              refine Cov.region rfl ?_
              obtain ⟨c518, p519, h520⟩ := OL.get o85 (drop_idx g504)
              obtain rfl := h520
              refine Cov.q .ro (.idxO 0 rfl rfl rfl (drop_idx g504) sl27 ty9.sz) rfl ?_
              refine Cov.q .ro (.loadO 0 0 rfl (drop_idx g504) p519 rfl (.inl ⟨rfl, rfl⟩) ty9 rfl) rfl ?_
              refine Cov.q .ro (.assign rfl) rfl ?_
              refine Cov.region_end ?_
              refine Cov.seq ?_
              refine Cov.region rfl ?_
              refine Cov.q .ro (.load_own_a 1 [_, _] rfl rfl ty29 rfl) rfl ?_
              refine Cov.q .ro (.move rfl) rfl ?_
              obtain ⟨u521, hu521, r522⟩ := bind_some r515; clear r515
              refine Cov.callS (b1 := []) (b2 := [_, _]) (s1 := []) [_, _] [] .ro rfl rfl Try.call20 rfl rfl (fence_Probe_c (G := G70) List.mem_cons_self (SlR.mono (HpLe.trans e43 e71) s33) hu521) rfl (fun v524 bo so h523 => ?_)
              obtain ⟨a526, k527, cs528, rfl, rfl, rfl, o529⟩ := h523
              refine Cov.same (bl' := [_, _]) (sl' := [_, _, _]) rfl rfl rfl ?_
              refine Cov.q .ro (.move rfl) rfl ?_
              refine Cov.q .ro (.extract rfl rfl) rfl ?_
              refine Cov.q .ro (.extract rfl rfl) rfl ?_
              refine Cov.q .ro (.extract rfl rfl) rfl ?_
              refine Cov.q .ro (.extract rfl rfl) rfl ?_
              refine Cov.q .ro (.assign rfl) rfl ?_
              refine Cov.q .ro (.assign rfl) rfl ?_
              refine Cov.q .ro (.assign rfl) rfl ?_
              refine Cov.q .ro (.assign rfl) rfl ?_
              refine Cov.region_end ?_
              refine Cov.seq ?_
              refine Cov.seq ?_
              refine Cov.region rfl ?_
              refine Cov.q .ro (.move rfl) rfl ?_
              refine Cov.q .ro (.neq rfl rfl) rfl ?_
              refine Cov.q .ro (.move rfl) rfl ?_
              refine Cov.cutR 5 (β := Unit) (fun y => [(84, .bool (decide ((u521.2.2.2 ≠ 0) ∨ ((u521.1.length : Int) ≠ u51.1))))]) [(65, _), (4, _), (5, _), (7, _), (63, _), (64, _), (10, _), (11, _), (12, _), (13, _)] (fun y => G70 :: Fs) (fun y => []) [_, _] (fun y => []) [_, _, _] (fun y => True) ⟨rfl, rfl, rfl, rfl, rfl, rfl, rfl, rfl, rfl, rfl, trivial⟩ [0, 1] rfl [0, 1, 2] rfl ?_ ?_
              · rintro _ _
                refine Cov.prune [(84, .bool (decide ((u521.2.2.2 ≠ 0) ∨ ((u521.1.length : Int) ≠ u51.1)))), (65, _), (4, _), (5, _), (7, _), (63, _), (64, _), (10, _), (11, _), (12, _), (13, _)] ⟨rfl, rfl, rfl, rfl, rfl, rfl, rfl, rfl, rfl, rfl, rfl, trivial⟩ ?_
                refine Cov.same (bl' := [_, _]) (sl' := [_, _, _]) (Fs' := G70 :: Fs) rfl rfl rfl ?_
                refine Cov.q .ro (.move rfl) rfl ?_
                refine Cov.cutR 3 (β := Unit) (fun y => [(88, .bool (decide (((u521.2.2.2 ≠ 0) ∨ ((u521.1.length : Int) ≠ u51.1)) ∨ (u521.2.1 < 0))))]) [(65, _), (4, _), (5, _), (7, _), (63, _), (64, _), (10, _), (11, _), (12, _), (13, _)] (fun y => G70 :: Fs) (fun y => []) [_, _] (fun y => []) [_, _, _] (fun y => True) ⟨rfl, rfl, rfl, rfl, rfl, rfl, rfl, rfl, rfl, rfl, trivial⟩ [0, 1] rfl [0, 1, 2] rfl ?_ ?_
                · rintro _ _
                  refine Cov.prune [(88, .bool (decide (((u521.2.2.2 ≠ 0) ∨ ((u521.1.length : Int) ≠ u51.1)) ∨ (u521.2.1 < 0)))), (65, _), (4, _), (5, _), (7, _), (63, _), (64, _), (10, _), (11, _), (12, _), (13, _)] ⟨rfl, rfl, rfl, rfl, rfl, rfl, rfl, rfl, rfl, rfl, rfl, trivial⟩ ?_
                  refine Cov.same (bl' := [_, _]) (sl' := [_, _, _]) (Fs' := G70 :: Fs) rfl rfl rfl ?_
                  refine Cov.q .ro (.move rfl) rfl ?_
                  refine Cov.cutR 6 (β := Unit) (fun y => [(95, .bool (decide ((((u521.2.2.2 ≠ 0) ∨ ((u521.1.length : Int) ≠ u51.1)) ∨ (u521.2.1 < 0)) ∨ ((u23.1.2.length : Int) ≤ u521.2.1))))]) [(65, _), (4, _), (5, _), (7, _), (63, _), (64, _), (10, _), (11, _), (12, _), (13, _)] (fun y => G70 :: Fs) (fun y => []) [_, _] (fun y => []) [_, _, _] (fun y => True) ⟨rfl, rfl, rfl, rfl, rfl, rfl, rfl, rfl, rfl, rfl, trivial⟩ [0, 1] rfl [0, 1, 2] rfl ?_ ?_
                  · rintro _ _
                    refine Cov.prune [(95, .bool (decide ((((u521.2.2.2 ≠ 0) ∨ ((u521.1.length : Int) ≠ u51.1)) ∨ (u521.2.1 < 0)) ∨ ((u23.1.2.length : Int) ≤ u521.2.1)))), (65, _), (4, _), (5, _), (7, _), (63, _), (64, _), (10, _), (11, _), (12, _), (13, _)] ⟨rfl, rfl, rfl, rfl, rfl, rfl, rfl, rfl, rfl, rfl, rfl, trivial⟩ ?_
                    refine Cov.same (bl' := [_, _]) (sl' := [_, _, _]) (Fs' := G70 :: Fs) rfl rfl rfl ?_
                    refine Cov.q .ro (.move rfl) rfl ?_
                    obtain ⟨u549, h550, r551⟩ := bind_some r522; clear r522
                    refine Cov.cutR 10 (β := Unit) (fun y => [(106, .bool u549)]) [(65, _), (4, _), (5, _), (7, _), (63, _), (64, _), (10, _), (11, _), (12, _), (13, _)] (fun y => G70 :: Fs) (fun y => []) [_, _] (fun y => []) [_, _, _] (fun y => True) ⟨rfl, rfl, rfl, rfl, rfl, rfl, rfl, rfl, rfl, rfl, trivial⟩ [0, 1] rfl [0, 1, 2] rfl ?_ ?_
                    · rintro _ _
                      refine Cov.prune [(106, .bool u549), (65, _), (4, _), (5, _), (7, _), (63, _), (64, _), (10, _), (11, _), (12, _), (13, _)] ⟨rfl, rfl, rfl, rfl, rfl, rfl, rfl, rfl, rfl, rfl, rfl, trivial⟩ ?_
                      refine Cov.same (bl' := [_, _]) (sl' := [_, _, _]) (Fs' := G70 :: Fs) rfl rfl rfl ?_
                      refine Cov.region_end ?_
                      refine Cov.cond rfl (fun c554 => ?_) (fun c554 => ?_)
                      · have r555 := ifT r551 c554; clear r551
                        refine Cov.seq ?_
                        refine Cov.region rfl ?_
                        refine Cov.q .ro (.assign rfl) rfl ?_
                        refine Cov.region_end ?_
                        cases r555
                        refine Cov.drop 2 0 [] _ rfl rfl ?_
                        refine Cov.drop 0 3 _ [] rfl rfl ?_
                        refine Cov.retS (c := ⟨7, none⟩) (.inr ⟨_, rfl⟩) [.tmp 2] [_] rfl Try.func7 Try.results7 ⟨RV.tmp rfl, trivial⟩ (fun _ h => List.mem_cons_of_mem _ h) ⟨rfl, rfl, rfl⟩
                      · have r556 := ifBF r551 c554; clear r551
                        refine Cov.skip ?_
                        refine Cov.seq ?_
                        refine Cov.region rfl ?_
                        refine Cov.q .ro (.assign rfl) rfl ?_
                        refine Cov.region_end ?_
                        refine Cov.seq ?_
                        refine Cov.seq ?_
                        refine Cov.region rfl ?_
                        refine Cov.q .ro (.fieldAddr 1 rfl fl29_1 ty27.sz rfl) rfl ?_
                        refine Cov.q .ro (.load_own 1 rfl rfl ty27 rfl) rfl ?_
                        refine Cov.q .ro (.len_sl rfl rfl sl27) rfl ?_
                        refine Cov.q .ro (.move rfl) rfl ?_
                        refine Cov.region_end ?_
                        refine Cov.cutB (β := Bool × Int × Int) (fun y => [(15, .bool y.1)]) [(65, _), (4, _), (5, _), (7, _), (63, _), (64, _), (10, _), (11, _), (12, _), (13, _)] (fun y => G70 :: Fs) (fun y => [(b19, .cells #[.slice a79 u66.2.1.length k80, .int .i64 y.2.1] 55 (0, 0)), (b37, .cells #[.int .i64 y.2.2, .slice a31 u23.1.2.length k32] 29 (0, 0))]) [] (fun y => []) [_, _, _] (fun y => (law21_FenceFinds_J3 (law21_FenceFinds_L5 u51.1 u23.1.2 u38.1 xs517) u51.1 x516 u521.2.1 u521.2.2.1 u23.1.2 u521.1 u38.1) y.1 y.2.1 y.2.2 = some r) ⟨rfl, rfl, rfl, rfl, rfl, rfl, rfl, rfl, rfl, rfl, trivial⟩ [] rfl [0, 1, 2] rfl ?_ ?_
                        · intro y hI
                          obtain ⟨v619, v620, v621⟩ := y
                          have r623 := hI; clear hI
                          try dsimp only at r623
                          refine Cov.prune [(15, .bool v619), (65, _), (4, _), (5, _), (7, _), (63, _), (64, _), (10, _), (11, _), (12, _), (13, _)] ⟨rfl, rfl, rfl, rfl, rfl, rfl, rfl, rfl, rfl, rfl, rfl, trivial⟩ ?_
                          refine Cov.same (bl' := [(b19, .cells #[.slice a79 u66.2.1.length k80, .int .i64 v620] 55 (0, 0)), (b37, .cells #[.int .i64 v621, .slice a31 u23.1.2.length k32] 29 (0, 0))]) (sl' := [_, _, _]) (Fs' := G70 :: Fs) rfl rfl rfl ?_
                          unfold law21_FenceFinds_J3 at r623
                          try dsimp only at r623
                          refine Cov.seq ?_
                          refine Cov.seq ?_
                          refine Cov.region rfl ?_
                          refine Cov.q .ro (.move rfl) rfl ?_
                          refine Cov.q .ro (.move rfl) rfl ?_
                          refine Cov.q .ro (.neq_b Try.underlying4 rfl rfl) rfl ?_
                          refine Cov.q .ro (.move rfl) rfl ?_
                          obtain ⟨u646, h647, r648⟩ := bind_some r623; clear r623
                          refine Cov.cutR 12 (β := Unit) (fun y => [(145, .bool u646)]) [(65, _), (4, _), (5, _), (7, _), (63, _), (64, _), (10, _), (11, _), (12, _)] (fun y => G70 :: Fs) (fun y => []) [_, _] (fun y => []) [_, _, _] (fun y => True) ⟨rfl, rfl, rfl, rfl, rfl, rfl, rfl, rfl, rfl, trivial⟩ [0, 1] rfl [0, 1, 2] rfl ?_ ?_
                          · rintro _ _
                            refine Cov.prune [(145, .bool u646), (65, _), (4, _), (5, _), (7, _), (63, _), (64, _), (10, _), (11, _), (12, _)] ⟨rfl, rfl, rfl, rfl, rfl, rfl, rfl, rfl, rfl, rfl, trivial⟩ ?_
                            refine Cov.same (bl' := [_, _]) (sl' := [_, _, _]) (Fs' := G70 :: Fs) rfl rfl rfl ?_
                            refine Cov.region_end ?_
                            refine Cov.cond rfl (fun c651 => ?_) (fun c651 => ?_)
                            · have r652 := ifT r648 c651; clear r648
                              refine Cov.seq ?_
                              refine Cov.region rfl ?_
                              refine Cov.q .ro (.assign rfl) rfl ?_
                              refine Cov.region_end ?_
                              cases r652
                              refine Cov.drop 2 0 [] _ rfl rfl ?_
                              refine Cov.drop 0 3 _ [] rfl rfl ?_
                              refine Cov.retS (c := ⟨7, none⟩) (.inr ⟨_, rfl⟩) [.tmp 2] [_] rfl Try.func7 Try.results7 ⟨RV.tmp rfl, trivial⟩ (fun _ h => List.mem_cons_of_mem _ h) ⟨rfl, rfl, rfl⟩
                            · have r653 := ifBF r648 c651; clear r648
                              refine Cov.skip ?_
                              refine Cov.seq ?_
                              refine Cov.region rfl ?_
                              refine Cov.q .ro (.assign rfl) rfl ?_
                              refine Cov.region_end ?_
                              refine Cov.seq ?_
                              refine Cov.seq ?_
                              refine Cov.region rfl ?_
                              refine Cov.q .ro (.move rfl) rfl ?_
                              refine Cov.q .ro (.len_sl rfl rfl sl22) rfl ?_
                              refine Cov.q .ro (.move rfl) rfl ?_
                              refine Cov.region_end ?_
                              refine Cov.cutB (β := Int × Int × Int) (fun y => [(18, .int .i64 y.1)]) [(65, _), (4, _), (5, _), (7, _), (63, _), (64, _), (12, _)] (fun y => G70 :: Fs) (fun y => [(b19, .cells #[.slice a79 u66.2.1.length k80, .int .i64 y.2.1] 55 (0, 0)), (b37, .cells #[.int .i64 y.2.2, .slice a31 u23.1.2.length k32] 29 (0, 0))]) [] (fun y => []) [_, _, _] (fun y => (law21_FenceFinds_J1 (law21_FenceFinds_L5 u51.1 u23.1.2 u38.1 xs517) u521.2.1) y.1 y.2.1 y.2.2 = some r) ⟨rfl, rfl, rfl, rfl, rfl, rfl, rfl, trivial⟩ [] rfl [0, 1, 2] rfl ?_ ?_
                              · intro y hI
                                obtain ⟨v741, v742, v743⟩ := y
                                have r745 := hI; clear hI
                                try dsimp only at r745
                                refine Cov.prune [(18, .int .i64 v741), (65, _), (4, _), (5, _), (7, _), (63, _), (64, _), (12, _)] ⟨rfl, rfl, rfl, rfl, rfl, rfl, rfl, rfl, trivial⟩ ?_
                                refine Cov.same (bl' := [(b19, .cells #[.slice a79 u66.2.1.length k80, .int .i64 v742] 55 (0, 0)), (b37, .cells #[.int .i64 v743, .slice a31 u23.1.2.length k32] 29 (0, 0))]) (sl' := [_, _, _]) (Fs' := G70 :: Fs) rfl rfl rfl ?_
                                unfold law21_FenceFinds_J1 at r745
                                try dsimp only at r745
                                refine Cov.seq ?_
                                refine Cov.region rfl ?_
                                refine Cov.q .ro (.move rfl) rfl ?_
                                refine Cov.q .ro (.move rfl) rfl ?_
                                refine Cov.q .ro (.neq rfl rfl) rfl ?_
                                refine Cov.region_end ?_
                                refine Cov.cond_dec rfl (fun c755 => ?_) (fun c755 => ?_)
                                · have r756 := ifT r745 c755; clear r745
                                  refine Cov.seq ?_
                                  refine Cov.region rfl ?_
                                  refine Cov.q .ro (.assign rfl) rfl ?_
                                  refine Cov.region_end ?_
                                  cases r756
                                  refine Cov.drop 2 0 [] _ rfl rfl ?_
                                  refine Cov.drop 0 3 _ [] rfl rfl ?_
                                  refine Cov.retS (c := ⟨7, none⟩) (.inr ⟨_, rfl⟩) [.tmp 2] [_] rfl Try.func7 Try.results7 ⟨RV.tmp rfl, trivial⟩ (fun _ h => List.mem_cons_of_mem _ h) ⟨rfl, rfl, rfl⟩
                                · have r757 := ifF r745 c755; clear r745
                                  refine Cov.skip ?_
                                  refine Cov.inBlock ?_
                                  refine Cov.region rfl ?_
                                  refine Cov.q .ro (.addw rfl rfl) rfl ?_
                                  refine Cov.q .ro (.move rfl) rfl ?_
                                  refine Cov.region_end ?_
                                  refine Cov.drop 0 1 _ [_, _] rfl rfl ?_
                                  refine Cov.prune _ ?_ (Cov.same rfl rfl rfl (hb508 ((i502 + 1), xs517, v742, v743) ⟨(drop_succ g504), r757⟩ (Nat.lt_succ_self _)))
                                  exact ⟨(congrArg (fun z => some (Value.int .i64 z)) (idx_wrap (OL.len' o85) g504)), rfl, rfl, rfl, rfl, rfl, trivial⟩
                              · intro hb758
                                refine Cov.block ?_
                                refine Cov.loop2 (α := Nat × List Int × Int) (fun y => [(18, .int .i64 y.2.2), (148, .int .i64 (y.1 : Int))]) [(65, _), (4, _), (5, _), (7, _), (63, _), (64, _), (10, _), (12, _), (146, _), (147, _)] (fun y => []) (fun y => []) [_, _] (fun y => []) [_, _, _] (fun y => List.drop y.1 u521.1 = y.2.1 ∧ law21_FenceFinds_L2 (law21_FenceFinds_J1 (law21_FenceFinds_L5 u51.1 u23.1.2 u38.1 xs517) u521.2.1) u51.1 x516 v620 v621 u38.1 y.2.1 y.1 y.2.2 = some r) (fun y => y.2.1.length) (0, u521.1, 0) ⟨rfl, r653⟩ ⟨rfl, rfl, rfl, rfl, rfl, rfl, rfl, rfl, rfl, rfl, rfl, rfl, trivial⟩ rfl rfl rfl (fun y hI hb802 => ?_)
                                obtain ⟨i797, w798, v800⟩ := y
                                obtain ⟨g799, r801⟩ := hI
                                try dsimp only at g799 r801
                                refine Cov.prune [(18, .int .i64 v800), (148, .int .i64 (i797 : Int)), (65, _), (4, _), (5, _), (7, _), (63, _), (64, _), (10, _), (12, _), (146, _), (147, _)] ⟨rfl, rfl, rfl, rfl, rfl, rfl, rfl, rfl, rfl, rfl, rfl, rfl, trivial⟩ ?_
                                refine Cov.same (bl' := [_, _]) (sl' := [_, _, _]) (Fs' := G70 :: Fs) rfl rfl rfl ?_
                                cases w798 with
                                | nil =>
                                  rw [law21_FenceFinds_L2] at r801; try dsimp only at r801
                                  refine Cov.seq ?_
                                  refine Cov.region rfl ?_
                                  refine Cov.q .ro (.lss rfl rfl) rfl ?_
                                  refine Cov.region_end ?_
                                  refine Cov.seq ?_
                                  refine Cov.cond_dec rfl (fun c => absurd c (drop_nil g799)) (fun _ => ?_)
                                  refine Cov.exit rfl ?_
                                  refine Cov.prune _ ?_ (Cov.same rfl rfl rfl (hb758 (v800, v620, v621) r801))
                                  exact ⟨rfl, rfl, rfl, rfl, rfl, rfl, rfl, rfl, trivial⟩
                                | cons x817 xs818 =>
                                  have r816 : law21_FenceFinds_B2 (law21_FenceFinds_J1 (law21_FenceFinds_L5 u51.1 u23.1.2 u38.1 xs517) u521.2.1) u51.1 x516 v620 v621 u38.1 (law21_FenceFinds_L2 (law21_FenceFinds_J1 (law21_FenceFinds_L5 u51.1 u23.1.2 u38.1 xs517) u521.2.1) u51.1 x516 v620 v621 u38.1 xs818 (i797 + 1)) x817 i797 v800 = some r := r801; clear r801; unfold law21_FenceFinds_B2 at r816; try dsimp only at r816
                                  refine Cov.seq ?_
                                  refine Cov.region rfl ?_
                                  refine Cov.q .ro (.lss rfl rfl) rfl ?_
                                  refine Cov.region_end ?_
                                  refine Cov.seq ?_
                                  refine Cov.cond_dec rfl (fun _ => ?_) (fun c => absurd (drop_lt g799) c)
                                  refine Cov.skip ?_
                                  refine Cov.seq ?_
                                  refine Cov.block ?_
                                  refine Cov.seq ?_
                                  refine Cov.region rfl ?_
                                  refine Cov.q .ro (.move rfl) rfl ?_
                                  obtain ⟨c819, p820, h821⟩ := OL.get o529 (drop_idx g799)
                                  obtain rfl := h821
                                  refine Cov.q .ro (.idxO 0 rfl rfl rfl (drop_idx g799) sl22 ty3.sz) rfl ?_
                                  refine Cov.q .ro (.loadO 0 0 rfl (drop_idx g799) p820 rfl (.inl ⟨rfl, rfl⟩) ty3 rfl) rfl ?_
                                  refine Cov.q .ro (.assign rfl) rfl ?_
                                  refine Cov.q .ro (.assign rfl) rfl ?_
                                  refine Cov.region_end ?_
                                  refine Cov.seq ?_
                                  refine Cov.seq ?_
                                  refine Cov.region rfl ?_
                                  refine Cov.q .ro (.move rfl) rfl ?_
                                  refine Cov.q .ro (.move rfl) rfl ?_
                                  refine Cov.q .ro (.neq rfl rfl) rfl ?_
                                  refine Cov.region_end ?_
                                  refine Cov.cond_dec rfl (fun c822 => ?_) (fun c822 => ?_)
                                  · have r823 := ifT r816 c822; clear r816
                                    refine Cov.seq ?_
                                    refine Cov.region rfl ?_
                                    refine Cov.q .ro (.assign rfl) rfl ?_
                                    refine Cov.region_end ?_
                                    refine Cov.prune [(2, _)] ⟨rfl, trivial⟩ ?_
                                    cases r823
                                    refine Cov.drop 2 0 [] _ rfl rfl ?_
                                    refine Cov.drop 0 3 _ [] rfl rfl ?_
                                    refine Cov.retS (c := ⟨7, none⟩) (.inr ⟨_, rfl⟩) [.tmp 2] [_] rfl Try.func7 Try.results7 ⟨RV.tmp rfl, trivial⟩ (fun _ h => List.mem_cons_of_mem _ h) ⟨rfl, rfl, rfl⟩
                                  · have r824 := ifF r816 c822; clear r816
                                    refine Cov.skip ?_
                                    refine Cov.seq ?_
                                    refine Cov.region rfl ?_
                                    refine Cov.q .ro (.move rfl) rfl ?_
                                    refine Cov.q .ro (.move rfl) rfl ?_
                                    refine Cov.q .ro (.subw rfl rfl) rfl ?_
                                    refine Cov.q .ro (.move rfl) rfl ?_
                                    refine Cov.q .ro (.subw rfl rfl) rfl ?_
                                    obtain ⟨u825, hu825, r826⟩ := bind_some r824; clear r824
                                    obtain ⟨c827, p828, h829⟩ := OL.get (OL.mono e71 o50) hu825
                                    obtain ⟨a830, k831, rfl, s832⟩ := h829
                                    refine Cov.q .ro (.idxO 2 rfl rfl rfl hu825 sl36 ty27.sz) rfl ?_
                                    refine Cov.q .ro (.loadO 2 0 rfl hu825 p828 rfl (.inl ⟨rfl, rfl⟩) ty27 rfl) rfl ?_
                                    refine Cov.q .ro (.assign rfl) rfl ?_
                                    refine Cov.region_end ?_
                                    refine Cov.prune [(18, _), (148, _), (65, _), (4, _), (5, _), (7, _), (63, _), (64, _), (10, _), (12, _), (146, _), (147, _), (21, _)] ⟨rfl, rfl, rfl, rfl, rfl, rfl, rfl, rfl, rfl, rfl, rfl, rfl, rfl, trivial⟩ ?_
                                    refine Cov.seq ?_
                                    refine Cov.drawL (.q 0 (.q 1 (.q 2 (.q 3 (.q 4 (.q 5 (.q 6 (.q 7 (.q 8 (.q 9 (.q 10 (.q 11 (.q 12 (.q 13 (.q 14 (.q 15 (.q 16 (.q 17 (.e 18 1 (.q 19 (.q 20 (.q 21 (.q 22 (.q 23 .nil)))))))))))))))))))))))) [_, _] (by kernel_rfl) (by kernel_rfl) (pick_mem [0, 1] rfl) ?_
                                    refine Cov.dq (.fieldAddr 0 rfl fl29_0 ty3.sz rfl) rfl ?_
                                    refine Cov.dq (.load_own 1 rfl rfl ty3 rfl) rfl ?_
                                    refine Cov.dq (.move rfl) rfl ?_
                                    refine Cov.dq (.move rfl) rfl ?_
                                    refine Cov.dq (.move rfl) rfl ?_
                                    refine Cov.dq (.fieldAddr 0 rfl fl29_0 ty3.sz rfl) rfl ?_
                                    refine Cov.dq (.load_own 1 rfl rfl ty3 rfl) rfl ?_
                                    refine Cov.dq (.mulw rfl rfl) rfl ?_
                                    refine Cov.dq (.move rfl) rfl ?_
                                    refine Cov.dq (.len_sl rfl rfl sl27) rfl ?_
                                    refine Cov.dq (.move rfl) rfl ?_
                                    refine Cov.dq (.addw rfl rfl) rfl ?_
                                    refine Cov.dq (.fieldAddr 0 rfl fl29_0 ty3.sz rfl) rfl ?_
                                    refine Cov.dq (.load_own 1 rfl rfl ty3 rfl) rfl ?_
                                    refine Cov.dq (.mulw rfl rfl) rfl ?_
                                    refine Cov.dq (.min2 rfl rfl) rfl ?_
                                    obtain ⟨u833, hu833, r834⟩ := bind_some r826; clear r826
                                    obtain ⟨a835, k836, h837, s838⟩ := SlR.sub s832 hu833
                                    refine Cov.dq (.sliceR s832 rfl hu833 sl27 ty9.sz (fun h => .yes' rfl h) (fun h => .yes' rfl h) h837) rfl ?_
                                    refine Cov.dq (.move rfl) rfl ?_
                                    obtain ⟨u839, hu839, r840⟩ := bind_some r834; clear r834
                                    refine Cov.callS (b1 := []) (b2 := [_, _]) (s1 := []) [_, _, _, _] [] .d1 rfl rfl Try.call25 rfl rfl (fence_Next_c (G := G70) List.mem_cons_self s838 hu839) rfl (fun v842 bo so h841 => ?_)
                                    obtain ⟨rfl, rfl, rfl⟩ := h841
                                    refine Cov.same (bl' := [_, _]) (sl' := [_, _, _]) rfl rfl rfl ?_
                                    refine Cov.clsL (HpLe.refl _) (pick_mem [0, 1] rfl) ?_
                                    refine Cov.dq (.move rfl) rfl ?_
                                    refine Cov.dq (.extract rfl rfl) rfl ?_
                                    refine Cov.dq (.extract rfl rfl) rfl ?_
                                    refine Cov.dq (.assign rfl) rfl ?_
                                    refine Cov.dq (.assign rfl) rfl ?_
                                    refine Cov.draw_end ?_
                                    refine Cov.prune [(148, _), (65, _), (4, _), (5, _), (7, _), (63, _), (64, _), (10, _), (12, _), (146, _), (147, _), (22, _), (23, _)] ⟨rfl, rfl, rfl, rfl, rfl, rfl, rfl, rfl, rfl, rfl, rfl, rfl, rfl, trivial⟩ ?_
                                    refine Cov.seq ?_
                                    refine Cov.seq ?_
                                    refine Cov.region rfl ?_
                                    refine Cov.q .ro (.move rfl) rfl ?_
                                    refine Cov.q .ro (.neq rfl rfl) rfl ?_
                                    refine Cov.region_end ?_
                                    refine Cov.cond_dec rfl (fun c843 => ?_) (fun c843 => ?_)
                                    · have r844 := ifT r840 c843; clear r840
                                      refine Cov.seq ?_
                                      refine Cov.region rfl ?_
                                      refine Cov.q .ro (.assign rfl) rfl ?_
                                      refine Cov.region_end ?_
                                      refine Cov.prune [(2, _)] ⟨rfl, trivial⟩ ?_
                                      cases r844
                                      refine Cov.drop 2 0 [] _ rfl rfl ?_
                                      refine Cov.drop 0 3 _ [] rfl rfl ?_
                                      refine Cov.retS (c := ⟨7, none⟩) (.inr ⟨_, rfl⟩) [.tmp 2] [_] rfl Try.func7 Try.results7 ⟨RV.tmp rfl, trivial⟩ (fun _ h => List.mem_cons_of_mem _ h) ⟨rfl, rfl, rfl⟩
                                    · have r845 := ifF r840 c843; clear r840
                                      refine Cov.skip ?_
                                      refine Cov.region rfl ?_
                                      refine Cov.q .ro (.move rfl) rfl ?_
                                      refine Cov.q .ro (.assign rfl) rfl ?_
                                      refine Cov.region_end ?_
                                      refine Cov.inBlock ?_
                                      refine Cov.region rfl ?_
                                      refine Cov.q .ro (.addw rfl rfl) rfl ?_
                                      refine Cov.q .ro (.move rfl) rfl ?_
                                      refine Cov.region_end ?_
                                      refine Cov.prune _ ?_ (Cov.same rfl rfl rfl (hb802 ((i797 + 1), xs818, u839.1) ⟨(drop_succ g799), r845⟩ (Nat.lt_succ_self _)))
                                      exact ⟨rfl, (congrArg (fun z => some (Value.int .i64 z)) (idx_wrap (OL.len' o529) g799)), rfl, rfl, rfl, rfl, rfl, rfl, rfl, rfl, rfl, rfl, trivial⟩
                          · intro hb645
                            refine Cov.split 133 rfl (fun c644 => ?_) (fun c644 => ?_)
                            · have r846 := ifT h647 c644
                              refine Cov.g_off rfl rfl rfl ?_
                              refine Cov.g_off rfl rfl rfl ?_
                              refine Cov.g_off rfl rfl rfl ?_
                              refine Cov.g_off rfl rfl rfl ?_
                              refine Cov.g_off rfl rfl rfl ?_
                              refine Cov.g_off rfl rfl rfl ?_
                              refine Cov.g_off rfl rfl rfl ?_
                              refine Cov.g_off rfl rfl rfl ?_
                              refine Cov.gu_off rfl rfl ?_
                              refine Cov.gu_off rfl rfl ?_
                              refine Cov.g_off rfl rfl rfl ?_
                              refine Cov.q .ro (.pick_t rfl rfl) rfl ?_
                              refine Cov.prune _ ?_ (Cov.same rfl rfl rfl (hb645 () trivial))
                              exact ⟨sval r846, rfl, rfl, rfl, rfl, rfl, rfl, rfl, rfl, rfl, trivial⟩
                            · have r847 := ifF h647 c644
                              refine Cov.g_on rfl ?_
                              refine Cov.q .ro (.fieldAddr 1 rfl fl29_1 ty27.sz rfl) rfl ?_
                              refine Cov.g_on rfl ?_
                              refine Cov.q .ro (.load_own 1 rfl rfl ty27 rfl) rfl ?_
                              refine Cov.g_on rfl ?_
                              refine Cov.q .ro (.move rfl) rfl ?_
                              refine Cov.g_on rfl ?_
                              obtain ⟨u848, hu848, r849⟩ := bind_some r847; clear r847
                              obtain ⟨c850, p851, h852⟩ := SlR.get (SlR.mono (HpLe.trans e43 e71) s33) hu848
                              obtain rfl := h852
                              refine Cov.q .ro (.idxR (SlR.mono (HpLe.trans e43 e71) s33) rfl rfl hu848 sl27 ty9.sz) rfl ?_
                              refine Cov.g_on rfl ?_
                              refine Cov.q .ro (.load_rp p851 List.mem_cons_self rfl ty9 rfl) rfl ?_
                              refine Cov.g_on rfl ?_
                              refine Cov.q .ro (.move rfl) rfl ?_
                              refine Cov.g_on rfl ?_
                              refine Cov.q .ro (.gtr_d rfl rfl) rfl ?_
                              refine Cov.g_on rfl ?_
                              refine Cov.q .ro (.move rfl) rfl ?_
                              refine Cov.cutR 3 (β := Unit) (fun y => [(144, .bool (decide ((sLt x516 u848) ∧ (u521.2.1 ≠ 0))))]) [(65, _), (4, _), (5, _), (7, _), (63, _), (64, _), (10, _), (11, _), (12, _), (133, _), (134, _), (135, _), (136, _), (137, _), (138, _), (139, _), (140, _)] (fun y => G70 :: Fs) (fun y => []) [_, _] (fun y => []) [_, _, _] (fun y => True) ⟨rfl, rfl, rfl, rfl, rfl, rfl, rfl, rfl, rfl, rfl, rfl, rfl, rfl, rfl, rfl, rfl, rfl, trivial⟩ [0, 1] rfl [0, 1, 2] rfl ?_ ?_
                              · rintro _ _
                                refine Cov.prune [(144, .bool (decide ((sLt x516 u848) ∧ (u521.2.1 ≠ 0)))), (65, _), (4, _), (5, _), (7, _), (63, _), (64, _), (10, _), (11, _), (12, _), (133, _), (134, _), (135, _), (136, _), (137, _), (138, _), (139, _), (140, _)] ⟨rfl, rfl, rfl, rfl, rfl, rfl, rfl, rfl, rfl, rfl, rfl, rfl, rfl, rfl, rfl, rfl, rfl, rfl, trivial⟩ ?_
                                refine Cov.same (bl' := [_, _]) (sl' := [_, _, _]) (Fs' := G70 :: Fs) rfl rfl rfl ?_
                                refine Cov.q .ro (.pick_f rfl rfl) rfl ?_
                                refine Cov.prune _ ?_ (Cov.same rfl rfl rfl (hb645 () trivial))
                                exact ⟨sval r849, rfl, rfl, rfl, rfl, rfl, rfl, rfl, rfl, rfl, trivial⟩
                              · intro hb854
                                refine Cov.split 141 rfl (fun c853 => ?_) (fun c853 => ?_)
                                · refine Cov.g_on rfl ?_
                                  refine Cov.q .ro (.move rfl) rfl ?_
                                  refine Cov.g_on rfl ?_
                                  refine Cov.q .ro (.neq rfl rfl) rfl ?_
                                  refine Cov.g_on rfl ?_
                                  refine Cov.q .ro (.pick_t rfl rfl) rfl ?_
                                  refine Cov.prune _ ?_ (Cov.same rfl rfl rfl (hb854 () trivial))
                                  exact ⟨dand_t c853, rfl, rfl, rfl, rfl, rfl, rfl, rfl, rfl, rfl, rfl, rfl, rfl, rfl, rfl, rfl, rfl, rfl, trivial⟩
                                · refine Cov.g_off rfl rfl rfl ?_
                                  refine Cov.g_off rfl rfl rfl ?_
                                  refine Cov.g_on rfl ?_
                                  refine Cov.q .ro (.pick_f rfl rfl) rfl ?_
                                  refine Cov.prune _ ?_ (Cov.same rfl rfl rfl (hb854 () trivial))
                                  exact ⟨dand_f c853, rfl, rfl, rfl, rfl, rfl, rfl, rfl, rfl, rfl, rfl, rfl, rfl, rfl, rfl, rfl, rfl, rfl, trivial⟩
                        · intro hb857
                          refine Cov.block ?_
                          refine Cov.loop2 (α := Nat × List ByteArray × Bool) (fun y => [(15, .bool y.2.2), (110, .int .i64 (y.1 : Int))]) [(65, _), (4, _), (5, _), (7, _), (63, _), (64, _), (10, _), (11, _), (12, _), (13, _), (108, _), (109, _)] (fun y => []) (fun y => []) [_, _] (fun y => []) [_, _, _] (fun y => List.drop y.1 u23.1.2 = y.2.1 ∧ law21_FenceFinds_L4 (law21_FenceFinds_J3 (law21_FenceFinds_L5 u51.1 u23.1.2 u38.1 xs517) u51.1 x516 u521.2.1 u521.2.2.1 u23.1.2 u521.1 u38.1) x516 u521.2.1 v505 v506 y.2.1 y.1 y.2.2 = some r) (fun y => y.2.1.length) (0, u23.1.2, false) ⟨rfl, r556⟩ ⟨rfl, rfl, rfl, rfl, rfl, rfl, rfl, rfl, rfl, rfl, rfl, rfl, rfl, rfl, trivial⟩ rfl rfl rfl (fun y hI hb888 => ?_)
                          obtain ⟨i883, w884, v886⟩ := y
                          obtain ⟨g885, r887⟩ := hI
                          try dsimp only at g885 r887
                          refine Cov.prune [(15, .bool v886), (110, .int .i64 (i883 : Int)), (65, _), (4, _), (5, _), (7, _), (63, _), (64, _), (10, _), (11, _), (12, _), (13, _), (108, _), (109, _)] ⟨rfl, rfl, rfl, rfl, rfl, rfl, rfl, rfl, rfl, rfl, rfl, rfl, rfl, rfl, trivial⟩ ?_
                          refine Cov.same (bl' := [_, _]) (sl' := [_, _, _]) (Fs' := G70 :: Fs) rfl rfl rfl ?_
                          cases w884 with
                          | nil =>
                            rw [law21_FenceFinds_L4] at r887; try dsimp only at r887
                            refine Cov.seq ?_
                            refine Cov.region rfl ?_
                            refine Cov.q .ro (.lss rfl rfl) rfl ?_
                            refine Cov.region_end ?_
                            refine Cov.seq ?_
                            refine Cov.cond_dec rfl (fun c => absurd c (drop_nil g885)) (fun _ => ?_)
                            refine Cov.exit rfl ?_
                            refine Cov.prune _ ?_ (Cov.same rfl rfl rfl (hb857 (v886, v505, v506) r887))
                            exact ⟨rfl, rfl, rfl, rfl, rfl, rfl, rfl, rfl, rfl, rfl, rfl, trivial⟩
                          | cons x904 xs905 =>
                            have r903 : law21_FenceFinds_B4 (law21_FenceFinds_J3 (law21_FenceFinds_L5 u51.1 u23.1.2 u38.1 xs517) u51.1 x516 u521.2.1 u521.2.2.1 u23.1.2 u521.1 u38.1) x516 u521.2.1 v505 v506 (law21_FenceFinds_L4 (law21_FenceFinds_J3 (law21_FenceFinds_L5 u51.1 u23.1.2 u38.1 xs517) u51.1 x516 u521.2.1 u521.2.2.1 u23.1.2 u521.1 u38.1) x516 u521.2.1 v505 v506 xs905 (i883 + 1)) x904 i883 v886 = some r := r887; clear r887; unfold law21_FenceFinds_B4 at r903; try dsimp only at r903
                            refine Cov.seq ?_
                            refine Cov.region rfl ?_
                            refine Cov.q .ro (.lss rfl rfl) rfl ?_
                            refine Cov.region_end ?_
                            refine Cov.seq ?_
                            refine Cov.cond_dec rfl (fun _ => ?_) (fun c => absurd (drop_lt g885) c)
                            refine Cov.skip ?_
                            refine Cov.seq ?_
                            refine Cov.block ?_
                            refine Cov.seq ?_
                            refine Cov.region rfl ?_
                            refine Cov.q .ro (.move rfl) rfl ?_
                            obtain ⟨c906, p907, h908⟩ := SlR.get (SlR.mono (HpLe.trans e43 e71) s33) (drop_idx g885)
                            obtain rfl := h908
                            refine Cov.q .ro (.idxR (SlR.mono (HpLe.trans e43 e71) s33) rfl rfl (drop_idx g885) sl27 ty9.sz) rfl ?_
                            refine Cov.q .ro (.load_rp p907 List.mem_cons_self rfl ty9 rfl) rfl ?_
                            refine Cov.q .ro (.assign rfl) rfl ?_
                            refine Cov.q .ro (.assign rfl) rfl ?_
                            refine Cov.region_end ?_
                            refine Cov.seq ?_
                            refine Cov.region rfl ?_
                            refine Cov.q .ro (.move rfl) rfl ?_
                            refine Cov.q .ro (.move rfl) rfl ?_
                            refine Cov.cutR 4 (β := Unit) (fun y => [(120, .bool (decide ((v886 = true) ∨ (x904 = x516))))]) [(15, _), (110, _), (65, _), (4, _), (5, _), (7, _), (63, _), (64, _), (10, _), (11, _), (12, _), (13, _), (108, _), (109, _), (16, _), (17, _)] (fun y => G70 :: Fs) (fun y => []) [_, _] (fun y => []) [_, _, _] (fun y => True) ⟨rfl, rfl, rfl, rfl, rfl, rfl, rfl, rfl, rfl, rfl, rfl, rfl, rfl, rfl, rfl, rfl, trivial⟩ [0, 1] rfl [0, 1, 2] rfl ?_ ?_
                            · rintro _ _
                              refine Cov.prune [(120, .bool (decide ((v886 = true) ∨ (x904 = x516)))), (15, _), (110, _), (65, _), (4, _), (5, _), (7, _), (63, _), (64, _), (10, _), (11, _), (12, _), (13, _), (108, _), (109, _), (16, _), (17, _)] ⟨rfl, rfl, rfl, rfl, rfl, rfl, rfl, rfl, rfl, rfl, rfl, rfl, rfl, rfl, rfl, rfl, rfl, trivial⟩ ?_
                              refine Cov.same (bl' := [_, _]) (sl' := [_, _, _]) (Fs' := G70 :: Fs) rfl rfl rfl ?_
                              refine Cov.q .ro (.assign rfl) rfl ?_
                              refine Cov.region_end ?_
                              refine Cov.seq ?_
                              refine Cov.region rfl ?_
                              refine Cov.q .ro (.move rfl) rfl ?_
                              refine Cov.q .ro (.move rfl) rfl ?_
                              refine Cov.q .ro (.leq_d rfl rfl) rfl ?_
                              refine Cov.q .ro (.move rfl) rfl ?_
                              refine Cov.cutR 4 (β := Unit) (fun y => [(128, .bool (decide ((¬ sLt x516 x904) ∧ (u521.2.1 < (i883 : Int)))))]) [(15, _), (110, _), (65, _), (4, _), (5, _), (7, _), (63, _), (64, _), (10, _), (11, _), (12, _), (13, _), (108, _), (109, _)] (fun y => G70 :: Fs) (fun y => []) [_, _] (fun y => []) [_, _, _] (fun y => True) ⟨rfl, rfl, rfl, rfl, rfl, rfl, rfl, rfl, rfl, rfl, rfl, rfl, rfl, rfl, trivial⟩ [0, 1] rfl [0, 1, 2] rfl ?_ ?_
                              · rintro _ _
                                refine Cov.prune [(128, .bool (decide ((¬ sLt x516 x904) ∧ (u521.2.1 < (i883 : Int))))), (15, _), (110, _), (65, _), (4, _), (5, _), (7, _), (63, _), (64, _), (10, _), (11, _), (12, _), (13, _), (108, _), (109, _)] ⟨rfl, rfl, rfl, rfl, rfl, rfl, rfl, rfl, rfl, rfl, rfl, rfl, rfl, rfl, rfl, trivial⟩ ?_
                                refine Cov.same (bl' := [_, _]) (sl' := [_, _, _]) (Fs' := G70 :: Fs) rfl rfl rfl ?_
                                refine Cov.region_end ?_
                                refine Cov.cond_dec rfl (fun c917 => ?_) (fun c917 => ?_)
                                · have r918 := ifT r903 c917; clear r903
                                  refine Cov.seq ?_
                                  refine Cov.region rfl ?_
                                  refine Cov.q .ro (.assign rfl) rfl ?_
                                  refine Cov.region_end ?_
                                  refine Cov.prune [(2, _)] ⟨rfl, trivial⟩ ?_
                                  cases r918
                                  refine Cov.drop 2 0 [] _ rfl rfl ?_
                                  refine Cov.drop 0 3 _ [] rfl rfl ?_
                                  refine Cov.retS (c := ⟨7, none⟩) (.inr ⟨_, rfl⟩) [.tmp 2] [_] rfl Try.func7 Try.results7 ⟨RV.tmp rfl, trivial⟩ (fun _ h => List.mem_cons_of_mem _ h) ⟨rfl, rfl, rfl⟩
                                · have r919 := ifF r903 c917; clear r903
                                  refine Cov.skip ?_
                                  refine Cov.inBlock ?_
                                  refine Cov.region rfl ?_
                                  refine Cov.q .ro (.addw rfl rfl) rfl ?_
                                  refine Cov.q .ro (.move rfl) rfl ?_
                                  refine Cov.region_end ?_
                                  refine Cov.prune _ ?_ (Cov.same rfl rfl rfl (hb888 ((i883 + 1), xs905, (decide ((v886 = true) ∨ (x904 = x516)))) ⟨(drop_succ g885), r919⟩ (Nat.lt_succ_self _)))
                                  exact ⟨rfl, (congrArg (fun z => some (Value.int .i64 z)) (idx_wrap (SlR.len (SlR.mono (HpLe.trans e43 e71) s33)) g885)), rfl, rfl, rfl, rfl, rfl, rfl, rfl, rfl, rfl, rfl, rfl, rfl, trivial⟩
                              · intro hb914
                                refine Cov.split 124 rfl (fun c913 => ?_) (fun c913 => ?_)
                                · refine Cov.g_on rfl ?_
                                  refine Cov.q .ro (.move rfl) rfl ?_
                                  refine Cov.g_on rfl ?_
                                  refine Cov.q .ro (.move rfl) rfl ?_
                                  refine Cov.g_on rfl ?_
                                  refine Cov.q .ro (.gtr rfl rfl) rfl ?_
                                  refine Cov.q .ro (.pick_t rfl rfl) rfl ?_
                                  refine Cov.prune _ ?_ (Cov.same rfl rfl rfl (hb914 () trivial))
                                  exact ⟨dand_t c913, rfl, rfl, rfl, rfl, rfl, rfl, rfl, rfl, rfl, rfl, rfl, rfl, rfl, rfl, trivial⟩
                                · refine Cov.g_off rfl rfl rfl ?_
                                  refine Cov.g_off rfl rfl rfl ?_
                                  refine Cov.g_off rfl rfl rfl ?_
                                  refine Cov.q .ro (.pick_f rfl rfl) rfl ?_
                                  refine Cov.prune _ ?_ (Cov.same rfl rfl rfl (hb914 () trivial))
                                  exact ⟨dand_f c913, rfl, rfl, rfl, rfl, rfl, rfl, rfl, rfl, rfl, rfl, rfl, rfl, rfl, rfl, trivial⟩
                            · intro hb910
                              refine Cov.split_b 116 rfl (fun c909 => ?_) (fun c909 => ?_)
                              · refine Cov.g_off rfl rfl rfl ?_
                                refine Cov.g_off rfl rfl rfl ?_
                                refine Cov.g_off rfl rfl rfl ?_
                                refine Cov.q .ro (.pick_t rfl rfl) rfl ?_
                                refine Cov.prune _ ?_ (Cov.same rfl rfl rfl (hb910 () trivial))
                                exact ⟨dor_t c909, rfl, rfl, rfl, rfl, rfl, rfl, rfl, rfl, rfl, rfl, rfl, rfl, rfl, rfl, rfl, rfl, trivial⟩
                              · refine Cov.g_on rfl ?_
                                refine Cov.q .ro (.move rfl) rfl ?_
                                refine Cov.g_on rfl ?_
                                refine Cov.q .ro (.move rfl) rfl ?_
                                refine Cov.g_on rfl ?_
                                refine Cov.q .ro (.eql_s rfl rfl) rfl ?_
                                refine Cov.q .ro (.pick_f rfl rfl) rfl ?_
                                refine Cov.prune _ ?_ (Cov.same rfl rfl rfl (hb910 () trivial))
                                exact ⟨dor_f (bne_of c909), rfl, rfl, rfl, rfl, rfl, rfl, rfl, rfl, rfl, rfl, rfl, rfl, rfl, rfl, rfl, rfl, trivial⟩
                    · intro hb548
                      refine Cov.split 96 rfl (fun c547 => ?_) (fun c547 => ?_)
                      · have r920 := ifT h550 c547
                        refine Cov.g_off rfl rfl rfl ?_
                        refine Cov.g_off rfl rfl rfl ?_
                        refine Cov.g_off rfl rfl rfl ?_
                        refine Cov.g_off rfl rfl rfl ?_
                        refine Cov.g_off rfl rfl rfl ?_
                        refine Cov.g_off rfl rfl rfl ?_
                        refine Cov.g_off rfl rfl rfl ?_
                        refine Cov.g_off rfl rfl rfl ?_
                        refine Cov.g_off rfl rfl rfl ?_
                        refine Cov.q .ro (.pick_t rfl rfl) rfl ?_
                        refine Cov.prune _ ?_ (Cov.same rfl rfl rfl (hb548 () trivial))
                        exact ⟨sval r920, rfl, rfl, rfl, rfl, rfl, rfl, rfl, rfl, rfl, rfl, trivial⟩
                      · have r921 := ifF h550 c547
                        refine Cov.g_on rfl ?_
                        refine Cov.q .ro (.move rfl) rfl ?_
                        refine Cov.g_on rfl ?_
                        refine Cov.q .ro (.fieldAddr 1 rfl fl29_1 ty27.sz rfl) rfl ?_
                        refine Cov.g_on rfl ?_
                        refine Cov.q .ro (.load_own 1 rfl rfl ty27 rfl) rfl ?_
                        refine Cov.g_on rfl ?_
                        refine Cov.q .ro (.move rfl) rfl ?_
                        refine Cov.g_on rfl ?_
                        obtain ⟨u922, hu922, r923⟩ := bind_some r921; clear r921
                        obtain ⟨c924, p925, h926⟩ := SlR.get (SlR.mono (HpLe.trans e43 e71) s33) hu922
                        obtain rfl := h926
                        refine Cov.q .ro (.idxR (SlR.mono (HpLe.trans e43 e71) s33) rfl rfl hu922 sl27 ty9.sz) rfl ?_
                        refine Cov.g_on rfl ?_
                        refine Cov.q .ro (.load_rp p925 List.mem_cons_self rfl ty9 rfl) rfl ?_
                        refine Cov.g_on rfl ?_
                        refine Cov.q .ro (.move rfl) rfl ?_
                        refine Cov.g_on rfl ?_
                        refine Cov.q .ro (.eql_s rfl rfl) rfl ?_
                        refine Cov.g_on rfl ?_
                        refine Cov.q .ro (.neq_b Try.underlying4 rfl rfl) rfl ?_
                        refine Cov.q .ro (.pick_f rfl rfl) rfl ?_
                        refine Cov.prune _ ?_ (Cov.same rfl rfl rfl (hb548 () trivial))
                        exact ⟨sval r923, rfl, rfl, rfl, rfl, rfl, rfl, rfl, rfl, rfl, rfl, trivial⟩
                  · intro hb539
                    refine Cov.split 89 rfl (fun c538 => ?_) (fun c538 => ?_)
                    · refine Cov.g_off rfl rfl rfl ?_
                      refine Cov.g_off rfl rfl rfl ?_
                      refine Cov.g_off rfl rfl rfl ?_
                      refine Cov.g_off rfl rfl rfl ?_
                      refine Cov.g_off rfl rfl rfl ?_
                      refine Cov.q .ro (.pick_t rfl rfl) rfl ?_
                      refine Cov.prune _ ?_ (Cov.same rfl rfl rfl (hb539 () trivial))
                      exact ⟨dor_t c538, rfl, rfl, rfl, rfl, rfl, rfl, rfl, rfl, rfl, rfl, trivial⟩
                    · refine Cov.g_on rfl ?_
                      refine Cov.q .ro (.move rfl) rfl ?_
                      refine Cov.g_on rfl ?_
                      refine Cov.q .ro (.fieldAddr 1 rfl fl29_1 ty27.sz rfl) rfl ?_
                      refine Cov.g_on rfl ?_
                      refine Cov.q .ro (.load_own 1 rfl rfl ty27 rfl) rfl ?_
                      refine Cov.g_on rfl ?_
                      refine Cov.q .ro (.len_sl rfl rfl sl27) rfl ?_
                      refine Cov.g_on rfl ?_
                      refine Cov.q .ro (.geq rfl rfl) rfl ?_
                      refine Cov.q .ro (.pick_f rfl rfl) rfl ?_
                      refine Cov.prune _ ?_ (Cov.same rfl rfl rfl (hb539 () trivial))
                      exact ⟨dor_f c538, rfl, rfl, rfl, rfl, rfl, rfl, rfl, rfl, rfl, rfl, trivial⟩
                · intro hb535
                  refine Cov.split 85 rfl (fun c534 => ?_) (fun c534 => ?_)
                  · refine Cov.g_off rfl rfl rfl ?_
                    refine Cov.g_off rfl rfl rfl ?_
                    refine Cov.q .ro (.pick_t rfl rfl) rfl ?_
                    refine Cov.prune _ ?_ (Cov.same rfl rfl rfl (hb535 () trivial))
                    exact ⟨dor_t c534, rfl, rfl, rfl, rfl, rfl, rfl, rfl, rfl, rfl, rfl, trivial⟩
                  · refine Cov.g_on rfl ?_
                    refine Cov.q .ro (.move rfl) rfl ?_
                    refine Cov.g_on rfl ?_
                    refine Cov.q .ro (.lss rfl rfl) rfl ?_
                    refine Cov.q .ro (.pick_f rfl rfl) rfl ?_
                    refine Cov.prune _ ?_ (Cov.same rfl rfl rfl (hb535 () trivial))
                    exact ⟨dor_f c534, rfl, rfl, rfl, rfl, rfl, rfl, rfl, rfl, rfl, rfl, trivial⟩
              · intro hb531
                refine Cov.split 79 rfl (fun c530 => ?_) (fun c530 => ?_)
                · refine Cov.g_off rfl rfl rfl ?_
                  refine Cov.g_off rfl rfl rfl ?_
                  refine Cov.g_off rfl rfl rfl ?_
                  refine Cov.g_off rfl rfl rfl ?_
                  refine Cov.q .ro (.pick_t rfl rfl) rfl ?_
                  refine Cov.prune _ ?_ (Cov.same rfl rfl rfl (hb531 () trivial))
                  exact ⟨dor_t c530, rfl, rfl, rfl, rfl, rfl, rfl, rfl, rfl, rfl, rfl, trivial⟩
                · refine Cov.g_on rfl ?_
                  refine Cov.q .ro (.move rfl) rfl ?_
                  refine Cov.g_on rfl ?_
                  refine Cov.q .ro (.len_sl rfl rfl sl22) rfl ?_
                  refine Cov.g_on rfl ?_
                  refine Cov.q .ro (.move rfl) rfl ?_
                  refine Cov.g_on rfl ?_
                  refine Cov.q .ro (.neq rfl rfl) rfl ?_
                  refine Cov.q .ro (.pick_f rfl rfl) rfl ?_
                  refine Cov.prune _ ?_ (Cov.same rfl rfl rfl (hb531 () trivial))
                  exact ⟨dor_f c530, rfl, rfl, rfl, rfl, rfl, rfl, rfl, rfl, rfl, rfl, trivial⟩
        · intro hb60
          refine Cov.split 53 rfl (fun c59 => ?_) (fun c59 => ?_)
          · refine Cov.g_off rfl rfl rfl ?_
            refine Cov.g_off rfl rfl rfl ?_
            refine Cov.g_off rfl rfl rfl ?_
            refine Cov.g_off rfl rfl rfl ?_
            refine Cov.q .ro (.pick_t rfl rfl) rfl ?_
            refine Cov.prune _ ?_ (Cov.same rfl rfl rfl (hb60 () trivial))
            exact ⟨dor_t c59, rfl, rfl, rfl, rfl, trivial⟩
          · refine Cov.g_on rfl ?_
            refine Cov.q .ro (.move rfl) rfl ?_
            refine Cov.g_on rfl ?_
            refine Cov.q .ro (.len_sl rfl rfl sl36) rfl ?_
            refine Cov.g_on rfl ?_
            refine Cov.q .ro (.move rfl) rfl ?_
            refine Cov.g_on rfl ?_
            refine Cov.q .ro (.neq rfl rfl) rfl ?_
            refine Cov.q .ro (.pick_f rfl rfl) rfl ?_
            refine Cov.prune _ ?_ (Cov.same rfl rfl rfl (hb60 () trivial))
            exact ⟨dor_f c59, rfl, rfl, rfl, rfl, trivial⟩
      · intro hb56
        refine Cov.split 49 rfl (fun c55 => ?_) (fun c55 => ?_)
        · refine Cov.g_off rfl rfl rfl ?_
          refine Cov.g_off rfl rfl rfl ?_
          refine Cov.q .ro (.pick_t rfl rfl) rfl ?_
          refine Cov.prune _ ?_ (Cov.same rfl rfl rfl (hb56 () trivial))
          exact ⟨dor_t c55, rfl, rfl, rfl, rfl, trivial⟩
        · refine Cov.g_on rfl ?_
          refine Cov.q .ro (.move rfl) rfl ?_
          refine Cov.g_on rfl ?_
          refine Cov.q .ro (.neq rfl rfl) rfl ?_
          refine Cov.q .ro (.pick_f rfl rfl) rfl ?_
          refine Cov.prune _ ?_ (Cov.same rfl rfl rfl (hb56 () trivial))
          exact ⟨dor_f c55, rfl, rfl, rfl, rfl, trivial⟩

end Go.Proofs.Ytdchjmophffphaa
