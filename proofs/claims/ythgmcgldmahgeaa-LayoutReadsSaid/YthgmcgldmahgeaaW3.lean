/- The walks. Printed by wip/lift/drive.py. -/
import Derived.Test.YthgmcgldmahgeaaW2
namespace Go.Proofs.Ythgmcgldmahgeaa
open Go.RowKit
set_option linter.unusedSimpArgs false
set_option linter.unusedVariables false
set_option synthInstance.maxSize 2000
set_option synthInstance.maxHeartbeats 400000

set_option maxHeartbeats 4000000 in
set_option maxRecDepth 100000 in
theorem ref13_Check_c {Fs : List Hp} {G : Hp} {x0_0 : Int} {a0_1 : Option Addr} {k0_1 : Nat} {x0_1 : List (Int × Int × Int)} {x1 : Int} {r : Int} (hG : G ∈ Fs) (s0_1 : SlR (Rep.pair (Rep.int .i64) (Rep.pair (Rep.int .i64) (Rep.int .i64))) G a0_1 k0_1 x0_1) (h : ref13_Check (x0_0, x0_1) x1 = some r) : RetS Try.prog 31 #[.agg #[.int .i64 x0_0, .slice a0_1 x0_1.length k0_1], .int .i64 x1] Fs [] [] (fun v bo so => v = .int .i64 r ∧ bo = [] ∧ so = []) := by
  unfold ref13_Check at h
  try dsimp only at h
  refine RetS.of (vs := [_, _]) Try.func31 rfl Try.ntmps31 [(0, _), (1, _)] ⟨rfl, rfl, trivial⟩ rfl hG fun w0 S0 hS0 B0 => ?_
  refine Cov.seq ?_
  refine Cov.region rfl ?_
  refine Cov.box [_, _] .ro rfl rfl rfl (fun b1 hb1 => ?_)
  refine Cov.q .ro (.assign rfl) rfl ?_
  refine Cov.region_end ?_
  refine Cov.seq ?_
  refine Cov.seq ?_
  refine Cov.region rfl ?_
  refine Cov.q .ro (.fieldAddr 0 rfl fl34_0 ty3.sz rfl) rfl ?_
  refine Cov.q .ro (.load_own 0 rfl rfl ty3 rfl) rfl ?_
  refine Cov.q .ro (.lss rfl rfl) rfl ?_
  refine Cov.q .ro (.move rfl) rfl ?_
  refine Cov.cutR 4 (β := Unit) (fun y => [(15, .bool (decide ((x0_0 < 1) ∨ (64 < x0_0))))]) [(1, _), (2, _)] (fun y => G :: Fs) (fun y => []) [_] (fun y => []) [] (fun y => True) ⟨rfl, rfl, trivial⟩ [0] rfl [] rfl ?_ ?_
  · rintro _ _
    refine Cov.prune [(15, .bool (decide ((x0_0 < 1) ∨ (64 < x0_0)))), (1, _), (2, _)] ⟨rfl, rfl, rfl, trivial⟩ ?_
    refine Cov.same (bl' := [_]) (sl' := []) (Fs' := G :: Fs) rfl rfl rfl ?_
    refine Cov.q .ro (.move rfl) rfl ?_
    refine Cov.cutR 5 (β := Unit) (fun y => [(21, .bool (decide (((x0_0 < 1) ∨ (64 < x0_0)) ∨ (256 < (x0_1.length : Int)))))]) [(1, _), (2, _)] (fun y => G :: Fs) (fun y => []) [_] (fun y => []) [] (fun y => True) ⟨rfl, rfl, trivial⟩ [0] rfl [] rfl ?_ ?_
    · rintro _ _
      refine Cov.prune [(21, .bool (decide (((x0_0 < 1) ∨ (64 < x0_0)) ∨ (256 < (x0_1.length : Int))))), (1, _), (2, _)] ⟨rfl, rfl, rfl, trivial⟩ ?_
      refine Cov.same (bl' := [_]) (sl' := []) (Fs' := G :: Fs) rfl rfl rfl ?_
      refine Cov.region_end ?_
      refine Cov.cond_dec rfl (fun c10 => ?_) (fun c10 => ?_)
      · have r11 := ifT h c10; clear h
        refine Cov.seq ?_
        refine Cov.region rfl ?_
        refine Cov.q .ro (.assign rfl) rfl ?_
        refine Cov.region_end ?_
        cases r11
        refine Cov.drop 1 0 [] _ rfl rfl ?_
        refine Cov.retS (c := ⟨31, none⟩) (.inr ⟨_, rfl⟩) [.tmp 4] [_] rfl Try.func31 Try.results31 ⟨RV.tmp rfl, trivial⟩ (fun _ h => List.mem_cons_of_mem _ h) ⟨rfl, rfl, rfl⟩
      · have r12 := ifF h c10; clear h
        refine Cov.skip ?_
        refine Cov.seq ?_
        refine Cov.region rfl ?_
        refine Cov.q .ro (.assign rfl) rfl ?_
        refine Cov.region_end ?_
        refine Cov.seq ?_
        refine Cov.seq ?_
        refine Cov.region rfl ?_
        refine Cov.q .ro (.fieldAddr 1 rfl fl34_1 ty32.sz rfl) rfl ?_
        refine Cov.q .ro (.load_own 0 rfl rfl ty32 rfl) rfl ?_
        refine Cov.q .ro (.len_sl rfl rfl sl32) rfl ?_
        refine Cov.q .ro (.move rfl) rfl ?_
        refine Cov.region_end ?_
        refine Cov.cutB (β := Int × Int) (fun y => [(5, .int .i64 y.1)]) [(1, _)] (fun y => G :: Fs) (fun y => [(b1, .cells #[.int .i64 y.2, .slice a0_1 x0_1.length k0_1] 34 (0, 0))]) [] (fun y => []) [] (fun y => (ref13_Check_J1 x1) y.1 y.2 = some r) ⟨rfl, trivial⟩ [] rfl [] rfl ?_ ?_
        · intro y hI
          obtain ⟨v82, v83⟩ := y
          have r85 := hI; clear hI
          try dsimp only at r85
          refine Cov.prune [(5, .int .i64 v82), (1, _)] ⟨rfl, rfl, trivial⟩ ?_
          refine Cov.same (bl' := [(b1, .cells #[.int .i64 v83, .slice a0_1 x0_1.length k0_1] 34 (0, 0))]) (sl' := []) (Fs' := G :: Fs) rfl rfl rfl ?_
          unfold ref13_Check_J1 at r85
          try dsimp only at r85
          refine Cov.seq ?_
          refine Cov.seq ?_
          refine Cov.region rfl ?_
          refine Cov.q .ro (.move rfl) rfl ?_
          refine Cov.q .ro (.move rfl) rfl ?_
          refine Cov.q .ro (.neq rfl rfl) rfl ?_
          refine Cov.region_end ?_
          refine Cov.cond_dec rfl (fun c88 => ?_) (fun c88 => ?_)
          · have r89 := ifT r85 c88; clear r85
            refine Cov.seq ?_
            refine Cov.region rfl ?_
            refine Cov.q .ro (.assign rfl) rfl ?_
            refine Cov.region_end ?_
            cases r89
            refine Cov.drop 1 0 [] _ rfl rfl ?_
            refine Cov.retS (c := ⟨31, none⟩) (.inr ⟨_, rfl⟩) [.tmp 4] [_] rfl Try.func31 Try.results31 ⟨RV.tmp rfl, trivial⟩ (fun _ h => List.mem_cons_of_mem _ h) ⟨rfl, rfl, rfl⟩
          · have r90 := ifF r85 c88; clear r85
            refine Cov.skip ?_
            refine Cov.seq ?_
            refine Cov.region rfl ?_
            refine Cov.q .ro (.assign rfl) rfl ?_
            refine Cov.region_end ?_
            cases r90
            refine Cov.drop 1 0 [] _ rfl rfl ?_
            refine Cov.retS (c := ⟨31, none⟩) (.inr ⟨_, rfl⟩) [.tmp 4] [_] rfl Try.func31 Try.results31 ⟨RV.tmp rfl, trivial⟩ (fun _ h => List.mem_cons_of_mem _ h) ⟨rfl, rfl, rfl⟩
        · intro hb91
          refine Cov.block ?_
          refine Cov.loop2 (α := Nat × (List (Int × Int × Int)) × Int) (fun y => [(5, .int .i64 y.2.2), (25, .int .i64 (y.1 : Int))]) [(1, _), (23, _), (24, _)] (fun y => []) (fun y => []) [_] (fun y => []) [] (fun y => List.drop y.1 x0_1 = y.2.1 ∧ ref13_Check_L2 (ref13_Check_J1 x1) x0_0 y.2.1 y.2.2 = some r) (fun y => y.2.1.length) (0, x0_1, 0) ⟨rfl, r12⟩ ⟨rfl, rfl, rfl, rfl, rfl, trivial⟩ rfl rfl rfl (fun y hI hb130 => ?_)
          obtain ⟨i125, w126, v128⟩ := y
          obtain ⟨g127, r129⟩ := hI
          try dsimp only at g127 r129
          refine Cov.prune [(5, .int .i64 v128), (25, .int .i64 (i125 : Int)), (1, _), (23, _), (24, _)] ⟨rfl, rfl, rfl, rfl, rfl, trivial⟩ ?_
          refine Cov.same (bl' := [_]) (sl' := []) (Fs' := G :: Fs) rfl rfl rfl ?_
          cases w126 with
          | nil =>
            rw [ref13_Check_L2] at r129; try dsimp only at r129
            refine Cov.seq ?_
            refine Cov.region rfl ?_
            refine Cov.q .ro (.lss rfl rfl) rfl ?_
            refine Cov.region_end ?_
            refine Cov.seq ?_
            refine Cov.cond_dec rfl (fun c => absurd c (drop_nil g127)) (fun _ => ?_)
            refine Cov.exit rfl ?_
            refine Cov.prune _ ?_ (Cov.same rfl rfl rfl (hb91 (v128, x0_0) r129))
            exact ⟨rfl, rfl, trivial⟩
          | cons x136 xs137 =>
            have r135 : ref13_Check_B2 (ref13_Check_J1 x1) x0_0 (ref13_Check_L2 (ref13_Check_J1 x1) x0_0 xs137) x136 v128 = some r := r129; clear r129; unfold ref13_Check_B2 at r135; try dsimp only at r135
            refine Cov.seq ?_
            refine Cov.region rfl ?_
            refine Cov.q .ro (.lss rfl rfl) rfl ?_
            refine Cov.region_end ?_
            refine Cov.seq ?_
            refine Cov.cond_dec rfl (fun _ => ?_) (fun c => absurd (drop_lt g127) c)
            refine Cov.skip ?_
            refine Cov.seq ?_
            refine Cov.block ?_
            refine Cov.seq ?_
            refine Cov.region rfl ?_
            obtain ⟨c138, p139, h140⟩ := SlR.get s0_1 (drop_idx g127)
            obtain ⟨_, _, rfl, rfl, _, _, rfl, rfl, rfl⟩ := h140
            refine Cov.q .ro (.idxR s0_1 rfl rfl (drop_idx g127) sl32 ty56.sz) rfl ?_
            refine Cov.q .ro (.load_rp_a [_, _, _] p139 List.mem_cons_self rfl ty56 rfl) rfl ?_
            refine Cov.alloc .ro ty56 rfl (fun b141 hb141 => ?_)
            refine Cov.store 0 [_, _, _] [_, _] .ro rfl rfl rfl ty56 rfl rfl rfl rfl ?_
            refine Cov.region_end ?_
            refine Cov.seq ?_
            refine Cov.seq ?_
            refine Cov.region rfl ?_
            refine Cov.q .ro (.fieldAddr 0 rfl fl56_0 ty3.sz rfl) rfl ?_
            refine Cov.q .ro (.load_own 0 rfl rfl ty3 rfl) rfl ?_
            refine Cov.q .ro (.move rfl) rfl ?_
            refine Cov.q .ro (.neq rfl rfl) rfl ?_
            refine Cov.q .ro (.move rfl) rfl ?_
            refine Cov.cutR 4 (β := Unit) (fun y => [(37, .bool (decide ((x136.1 ≠ v128) ∨ (x136.2.1 < 1))))]) [(5, _), (25, _), (1, _), (23, _), (24, _), (7, _)] (fun y => G :: Fs) (fun y => []) [_, _] (fun y => []) [] (fun y => True) ⟨rfl, rfl, rfl, rfl, rfl, rfl, trivial⟩ [0, 1] rfl [] rfl ?_ ?_
            · rintro _ _
              refine Cov.prune [(37, .bool (decide ((x136.1 ≠ v128) ∨ (x136.2.1 < 1)))), (5, _), (25, _), (1, _), (23, _), (24, _), (7, _)] ⟨rfl, rfl, rfl, rfl, rfl, rfl, rfl, trivial⟩ ?_
              refine Cov.same (bl' := [_, _]) (sl' := []) (Fs' := G :: Fs) rfl rfl rfl ?_
              refine Cov.q .ro (.move rfl) rfl ?_
              refine Cov.cutR 4 (β := Unit) (fun y => [(42, .bool (decide (((x136.1 ≠ v128) ∨ (x136.2.1 < 1)) ∨ (1024 < x136.2.1))))]) [(5, _), (25, _), (1, _), (23, _), (24, _), (7, _)] (fun y => G :: Fs) (fun y => []) [_, _] (fun y => []) [] (fun y => True) ⟨rfl, rfl, rfl, rfl, rfl, rfl, trivial⟩ [0, 1] rfl [] rfl ?_ ?_
              · rintro _ _
                refine Cov.prune [(42, .bool (decide (((x136.1 ≠ v128) ∨ (x136.2.1 < 1)) ∨ (1024 < x136.2.1)))), (5, _), (25, _), (1, _), (23, _), (24, _), (7, _)] ⟨rfl, rfl, rfl, rfl, rfl, rfl, rfl, trivial⟩ ?_
                refine Cov.same (bl' := [_, _]) (sl' := []) (Fs' := G :: Fs) rfl rfl rfl ?_
                refine Cov.q .ro (.move rfl) rfl ?_
                refine Cov.cutR 4 (β := Unit) (fun y => [(47, .bool (decide ((((x136.1 ≠ v128) ∨ (x136.2.1 < 1)) ∨ (1024 < x136.2.1)) ∨ (x136.2.2 < 0))))]) [(5, _), (25, _), (1, _), (23, _), (24, _), (7, _)] (fun y => G :: Fs) (fun y => []) [_, _] (fun y => []) [] (fun y => True) ⟨rfl, rfl, rfl, rfl, rfl, rfl, trivial⟩ [0, 1] rfl [] rfl ?_ ?_
                · rintro _ _
                  refine Cov.prune [(47, .bool (decide ((((x136.1 ≠ v128) ∨ (x136.2.1 < 1)) ∨ (1024 < x136.2.1)) ∨ (x136.2.2 < 0)))), (5, _), (25, _), (1, _), (23, _), (24, _), (7, _)] ⟨rfl, rfl, rfl, rfl, rfl, rfl, rfl, trivial⟩ ?_
                  refine Cov.same (bl' := [_, _]) (sl' := []) (Fs' := G :: Fs) rfl rfl rfl ?_
                  refine Cov.q .ro (.move rfl) rfl ?_
                  refine Cov.cutR 4 (β := Unit) (fun y => [(52, .bool (decide (((((x136.1 ≠ v128) ∨ (x136.2.1 < 1)) ∨ (1024 < x136.2.1)) ∨ (x136.2.2 < 0)) ∨ (1024 < x136.2.2))))]) [(5, _), (25, _), (1, _), (23, _), (24, _), (7, _)] (fun y => G :: Fs) (fun y => []) [_, _] (fun y => []) [] (fun y => True) ⟨rfl, rfl, rfl, rfl, rfl, rfl, trivial⟩ [0, 1] rfl [] rfl ?_ ?_
                  · rintro _ _
                    refine Cov.prune [(52, .bool (decide (((((x136.1 ≠ v128) ∨ (x136.2.1 < 1)) ∨ (1024 < x136.2.1)) ∨ (x136.2.2 < 0)) ∨ (1024 < x136.2.2)))), (5, _), (25, _), (1, _), (23, _), (24, _), (7, _)] ⟨rfl, rfl, rfl, rfl, rfl, rfl, rfl, trivial⟩ ?_
                    refine Cov.same (bl' := [_, _]) (sl' := []) (Fs' := G :: Fs) rfl rfl rfl ?_
                    refine Cov.region_end ?_
                    refine Cov.cond_dec rfl (fun c158 => ?_) (fun c158 => ?_)
                    · have r159 := ifT r135 c158; clear r135
                      refine Cov.seq ?_
                      refine Cov.region rfl ?_
                      refine Cov.q .ro (.assign rfl) rfl ?_
                      refine Cov.region_end ?_
                      cases r159
                      refine Cov.drop 2 0 [] _ rfl rfl ?_
                      refine Cov.retS (c := ⟨31, none⟩) (.inr ⟨_, rfl⟩) [.tmp 4] [_] rfl Try.func31 Try.results31 ⟨RV.tmp rfl, trivial⟩ (fun _ h => List.mem_cons_of_mem _ h) ⟨rfl, rfl, rfl⟩
                    · have r160 := ifF r135 c158; clear r135
                      refine Cov.skip ?_
                      refine Cov.region rfl ?_
                      refine Cov.q .ro (.move rfl) rfl ?_
                      refine Cov.q .ro (.fieldAddr 1 rfl fl56_1 ty3.sz rfl) rfl ?_
                      refine Cov.q .ro (.load_own 0 rfl rfl ty3 rfl) rfl ?_
                      refine Cov.q .ro (.addw rfl rfl) rfl ?_
                      refine Cov.q .ro (.assign rfl) rfl ?_
                      refine Cov.region_end ?_
                      refine Cov.inBlock ?_
                      refine Cov.region rfl ?_
                      refine Cov.q .ro (.addw rfl rfl) rfl ?_
                      refine Cov.q .ro (.move rfl) rfl ?_
                      refine Cov.region_end ?_
                      refine Cov.drop 1 0 [_] _ rfl rfl ?_
                      refine Cov.prune _ ?_ (Cov.same rfl rfl rfl (hb130 ((i125 + 1), xs137, (w64 (v128 + x136.2.1))) ⟨(drop_succ g127), r160⟩ (Nat.lt_succ_self _)))
                      exact ⟨rfl, (congrArg (fun z => some (Value.int .i64 z)) (idx_wrap (SlR.len s0_1) g127)), rfl, rfl, rfl, trivial⟩
                  · intro hb155
                    refine Cov.split 48 rfl (fun c154 => ?_) (fun c154 => ?_)
                    · refine Cov.g_off rfl rfl rfl ?_
                      refine Cov.g_off rfl rfl rfl ?_
                      refine Cov.g_off rfl rfl rfl ?_
                      refine Cov.q .ro (.pick_t rfl rfl) rfl ?_
                      refine Cov.prune _ ?_ (Cov.same rfl rfl rfl (hb155 () trivial))
                      exact ⟨dor_t c154, rfl, rfl, rfl, rfl, rfl, rfl, trivial⟩
                    · refine Cov.g_on rfl ?_
                      refine Cov.q .ro (.fieldAddr 2 rfl fl56_2 ty3.sz rfl) rfl ?_
                      refine Cov.g_on rfl ?_
                      refine Cov.q .ro (.load_own 0 rfl rfl ty3 rfl) rfl ?_
                      refine Cov.g_on rfl ?_
                      refine Cov.q .ro (.gtr rfl rfl) rfl ?_
                      refine Cov.q .ro (.pick_f rfl rfl) rfl ?_
                      refine Cov.prune _ ?_ (Cov.same rfl rfl rfl (hb155 () trivial))
                      exact ⟨dor_f c154, rfl, rfl, rfl, rfl, rfl, rfl, trivial⟩
                · intro hb151
                  refine Cov.split 43 rfl (fun c150 => ?_) (fun c150 => ?_)
                  · refine Cov.g_off rfl rfl rfl ?_
                    refine Cov.g_off rfl rfl rfl ?_
                    refine Cov.g_off rfl rfl rfl ?_
                    refine Cov.q .ro (.pick_t rfl rfl) rfl ?_
                    refine Cov.prune _ ?_ (Cov.same rfl rfl rfl (hb151 () trivial))
                    exact ⟨dor_t c150, rfl, rfl, rfl, rfl, rfl, rfl, trivial⟩
                  · refine Cov.g_on rfl ?_
                    refine Cov.q .ro (.fieldAddr 2 rfl fl56_2 ty3.sz rfl) rfl ?_
                    refine Cov.g_on rfl ?_
                    refine Cov.q .ro (.load_own 0 rfl rfl ty3 rfl) rfl ?_
                    refine Cov.g_on rfl ?_
                    refine Cov.q .ro (.lss rfl rfl) rfl ?_
                    refine Cov.q .ro (.pick_f rfl rfl) rfl ?_
                    refine Cov.prune _ ?_ (Cov.same rfl rfl rfl (hb151 () trivial))
                    exact ⟨dor_f c150, rfl, rfl, rfl, rfl, rfl, rfl, trivial⟩
              · intro hb147
                refine Cov.split 38 rfl (fun c146 => ?_) (fun c146 => ?_)
                · refine Cov.g_off rfl rfl rfl ?_
                  refine Cov.g_off rfl rfl rfl ?_
                  refine Cov.g_off rfl rfl rfl ?_
                  refine Cov.q .ro (.pick_t rfl rfl) rfl ?_
                  refine Cov.prune _ ?_ (Cov.same rfl rfl rfl (hb147 () trivial))
                  exact ⟨dor_t c146, rfl, rfl, rfl, rfl, rfl, rfl, trivial⟩
                · refine Cov.g_on rfl ?_
                  refine Cov.q .ro (.fieldAddr 1 rfl fl56_1 ty3.sz rfl) rfl ?_
                  refine Cov.g_on rfl ?_
                  refine Cov.q .ro (.load_own 0 rfl rfl ty3 rfl) rfl ?_
                  refine Cov.g_on rfl ?_
                  refine Cov.q .ro (.gtr rfl rfl) rfl ?_
                  refine Cov.q .ro (.pick_f rfl rfl) rfl ?_
                  refine Cov.prune _ ?_ (Cov.same rfl rfl rfl (hb147 () trivial))
                  exact ⟨dor_f c146, rfl, rfl, rfl, rfl, rfl, rfl, trivial⟩
            · intro hb143
              refine Cov.split 33 rfl (fun c142 => ?_) (fun c142 => ?_)
              · refine Cov.g_off rfl rfl rfl ?_
                refine Cov.g_off rfl rfl rfl ?_
                refine Cov.g_off rfl rfl rfl ?_
                refine Cov.q .ro (.pick_t rfl rfl) rfl ?_
                refine Cov.prune _ ?_ (Cov.same rfl rfl rfl (hb143 () trivial))
                exact ⟨dor_t c142, rfl, rfl, rfl, rfl, rfl, rfl, trivial⟩
              · refine Cov.g_on rfl ?_
                refine Cov.q .ro (.fieldAddr 1 rfl fl56_1 ty3.sz rfl) rfl ?_
                refine Cov.g_on rfl ?_
                refine Cov.q .ro (.load_own 0 rfl rfl ty3 rfl) rfl ?_
                refine Cov.g_on rfl ?_
                refine Cov.q .ro (.lss rfl rfl) rfl ?_
                refine Cov.q .ro (.pick_f rfl rfl) rfl ?_
                refine Cov.prune _ ?_ (Cov.same rfl rfl rfl (hb143 () trivial))
                exact ⟨dor_f c142, rfl, rfl, rfl, rfl, rfl, rfl, trivial⟩
    · intro hb7
      refine Cov.split 16 rfl (fun c6 => ?_) (fun c6 => ?_)
      · refine Cov.g_off rfl rfl rfl ?_
        refine Cov.g_off rfl rfl rfl ?_
        refine Cov.g_off rfl rfl rfl ?_
        refine Cov.g_off rfl rfl rfl ?_
        refine Cov.q .ro (.pick_t rfl rfl) rfl ?_
        refine Cov.prune _ ?_ (Cov.same rfl rfl rfl (hb7 () trivial))
        exact ⟨dor_t c6, rfl, rfl, trivial⟩
      · refine Cov.g_on rfl ?_
        refine Cov.q .ro (.fieldAddr 1 rfl fl34_1 ty32.sz rfl) rfl ?_
        refine Cov.g_on rfl ?_
        refine Cov.q .ro (.load_own 0 rfl rfl ty32 rfl) rfl ?_
        refine Cov.g_on rfl ?_
        refine Cov.q .ro (.len_sl rfl rfl sl32) rfl ?_
        refine Cov.g_on rfl ?_
        refine Cov.q .ro (.gtr rfl rfl) rfl ?_
        refine Cov.q .ro (.pick_f rfl rfl) rfl ?_
        refine Cov.prune _ ?_ (Cov.same rfl rfl rfl (hb7 () trivial))
        exact ⟨dor_f c6, rfl, rfl, trivial⟩
  · intro hb3
    refine Cov.split 11 rfl (fun c2 => ?_) (fun c2 => ?_)
    · refine Cov.g_off rfl rfl rfl ?_
      refine Cov.g_off rfl rfl rfl ?_
      refine Cov.g_off rfl rfl rfl ?_
      refine Cov.q .ro (.pick_t rfl rfl) rfl ?_
      refine Cov.prune _ ?_ (Cov.same rfl rfl rfl (hb3 () trivial))
      exact ⟨dor_t c2, rfl, rfl, trivial⟩
    · refine Cov.g_on rfl ?_
      refine Cov.q .ro (.fieldAddr 0 rfl fl34_0 ty3.sz rfl) rfl ?_
      refine Cov.g_on rfl ?_
      refine Cov.q .ro (.load_own 0 rfl rfl ty3 rfl) rfl ?_
      refine Cov.g_on rfl ?_
      refine Cov.q .ro (.gtr rfl rfl) rfl ?_
      refine Cov.q .ro (.pick_f rfl rfl) rfl ?_
      refine Cov.prune _ ?_ (Cov.same rfl rfl rfl (hb3 () trivial))
      exact ⟨dor_f c2, rfl, rfl, trivial⟩

set_option maxHeartbeats 4000000 in
set_option maxRecDepth 100000 in
theorem layout_Asked_c {Fs : List Hp} {G : Hp} {x0_0 : Int} {a0_1 : Option Addr} {k0_1 : Nat} {x0_1 : List (Int × Int × Int)} {x1 : Int} {x2 : Int} {r : ((List Int) × Int)} (hG : G ∈ Fs) (s0_1 : SlR (Rep.pair (Rep.int .i64) (Rep.pair (Rep.int .i64) (Rep.int .i64))) G a0_1 k0_1 x0_1) (h : layout_Asked (x0_0, x0_1) x1 x2 = some r) : RetS Try.prog 32 #[.agg #[.int .i64 x0_0, .slice a0_1 x0_1.length k0_1], .int .i64 x1, .int .i64 x2] Fs [] [] (fun v bo so => ∃ (oa0 : Option Addr) (ok0 : Nat) (oc0 : List Value), v = .tuple #[.slice oa0 r.1.length ok0, .int .i64 r.2] ∧ bo = [] ∧ so = [.s (.slice oa0 r.1.length ok0) 3 1 r.1.length oc0] ∧ OL (Rep.int .i64) G oc0 r.1) := by
  unfold layout_Asked at h
  try dsimp only at h
  refine RetS.of (vs := [_, _, _]) Try.func32 rfl Try.ntmps32 [(0, _), (1, _), (2, _)] ⟨rfl, rfl, rfl, trivial⟩ rfl hG fun w0 S0 hS0 B0 => ?_
  refine Cov.seq ?_
  refine Cov.region rfl ?_
  refine Cov.box [_, _] .ro rfl rfl rfl (fun b1 hb1 => ?_)
  refine Cov.q .ro (.assign rfl) rfl ?_
  refine Cov.q .ro (.assign rfl) rfl ?_
  refine Cov.region_end ?_
  refine Cov.seq ?_
  refine Cov.seq ?_
  refine Cov.region rfl ?_
  refine Cov.q .ro (.load_own_a 0 [_, _] rfl rfl ty34 rfl) rfl ?_
  refine Cov.q .ro (.move rfl) rfl ?_
  obtain ⟨u2, hu2, r3⟩ := bind_some h; clear h
  refine Cov.callS (b1 := []) (b2 := [_]) (s1 := []) [_, _] [] .ro rfl rfl Try.call27 rfl rfl (layout_Check_c (G := G) List.mem_cons_self s0_1 hu2) rfl (fun v5 bo so h4 => ?_)
  obtain ⟨rfl, rfl, rfl⟩ := h4
  refine Cov.same (bl' := [_]) (sl' := []) rfl rfl rfl ?_
  refine Cov.q .ro (.assign rfl) rfl ?_
  refine Cov.region_end ?_
  refine Cov.seq ?_
  refine Cov.region rfl ?_
  refine Cov.q .ro (.move rfl) rfl ?_
  refine Cov.q .ro (.neq rfl rfl) rfl ?_
  refine Cov.region_end ?_
  refine Cov.cond_dec rfl (fun c6 => ?_) (fun c6 => ?_)
  · have r7 := ifT r3 c6; clear r3
    refine Cov.seq ?_
    refine Cov.region rfl ?_
    refine Cov.q .ro (.move rfl) rfl ?_
    refine Cov.q .ro (.assign rfl) rfl ?_
    refine Cov.q .ro (.assign rfl) rfl ?_
    refine Cov.region_end ?_
    refine Cov.own_nil 3 1 ?_
    cases r7
    refine Cov.drop 1 0 [] _ rfl rfl ?_
    refine Cov.retS (c := ⟨32, none⟩) (.inr ⟨_, rfl⟩) [.tmp 6, .tmp 7] [_, _] rfl Try.func32 Try.results32 ⟨RV.tmp rfl, RV.tmp rfl, trivial⟩ (fun _ h => List.mem_cons_of_mem _ h) ⟨none, 0, [], rfl, rfl, rfl, (OL.nil (Rp' := (Rep.int .i64)))⟩
  · have r9 := ifF r3 c6; clear r3
    refine Cov.skip ?_
    refine Cov.seq ?_
    refine Cov.seq ?_
    refine Cov.region rfl ?_
    refine Cov.q .ro (.move rfl) rfl ?_
    refine Cov.q .ro (.lss rfl rfl) rfl ?_
    refine Cov.q .ro (.move rfl) rfl ?_
    refine Cov.cutR 6 (β := Unit) (fun y => [(26, .bool (decide ((x2 < 0) ∨ ((x0_1.length : Int) ≤ x2))))]) [(2, _), (3, _)] (fun y => G :: Fs) (fun y => []) [_] (fun y => []) [] (fun y => True) ⟨rfl, rfl, trivial⟩ [0] rfl [] rfl ?_ ?_
    · rintro _ _
      refine Cov.prune [(26, .bool (decide ((x2 < 0) ∨ ((x0_1.length : Int) ≤ x2)))), (2, _), (3, _)] ⟨rfl, rfl, rfl, trivial⟩ ?_
      refine Cov.same (bl' := [_]) (sl' := []) (Fs' := G :: Fs) rfl rfl rfl ?_
      refine Cov.region_end ?_
      refine Cov.cond_dec rfl (fun c14 => ?_) (fun c14 => ?_)
      · have r15 := ifT r9 c14; clear r9
        refine Cov.seq ?_
        refine Cov.region rfl ?_
        refine Cov.q .ro (.assign rfl) rfl ?_
        refine Cov.q .ro (.assign rfl) rfl ?_
        refine Cov.region_end ?_
        refine Cov.own_nil 3 1 ?_
        cases r15
        refine Cov.drop 1 0 [] _ rfl rfl ?_
        refine Cov.retS (c := ⟨32, none⟩) (.inr ⟨_, rfl⟩) [.tmp 6, .tmp 7] [_, _] rfl Try.func32 Try.results32 ⟨RV.tmp rfl, RV.tmp rfl, trivial⟩ (fun _ h => List.mem_cons_of_mem _ h) ⟨none, 0, [], rfl, rfl, rfl, (OL.nil (Rp' := (Rep.int .i64)))⟩
      · have r17 := ifF r9 c14; clear r9
        refine Cov.skip ?_
        refine Cov.seq ?_
        refine Cov.region rfl ?_
        refine Cov.q .ro (.fieldAddr 1 rfl fl34_1 ty32.sz rfl) rfl ?_
        refine Cov.q .ro (.load_own 0 rfl rfl ty32 rfl) rfl ?_
        refine Cov.q .ro (.move rfl) rfl ?_
        obtain ⟨u18, hu18, r19⟩ := bind_some r17; clear r17
        obtain ⟨c20, p21, h22⟩ := SlR.get s0_1 hu18
        obtain ⟨_, _, rfl, rfl, _, _, rfl, rfl, rfl⟩ := h22
        refine Cov.q .ro (.idxR s0_1 rfl rfl hu18 sl32 ty56.sz) rfl ?_
        refine Cov.q .ro (.load_rp_a [_, _, _] p21 List.mem_cons_self rfl ty56 rfl) rfl ?_
        refine Cov.alloc .ro ty56 rfl (fun b23 hb23 => ?_)
        refine Cov.store 0 [_, _, _] [_, _] .ro rfl rfl rfl ty56 rfl rfl rfl rfl ?_
        refine Cov.region_end ?_
        refine Cov.seq ?_
        refine Cov.region rfl ?_
        refine Cov.q .ro (.assign rfl) rfl ?_
        refine Cov.region_end ?_
        refine Cov.seq ?_
        refine Cov.seq ?_
        refine Cov.region rfl ?_
        refine Cov.q .ro (.load_own_a 1 [_, _] rfl rfl ty34 rfl) rfl ?_
        obtain ⟨u24, hu24, r25⟩ := bind_some r19; clear r19
        refine Cov.callS (b1 := []) (b2 := [_, _]) (s1 := []) [_] [] .ro rfl rfl Try.call29 rfl rfl (layout_Most_c (G := G) List.mem_cons_self s0_1 hu24) rfl (fun v27 bo so h26 => ?_)
        obtain ⟨rfl, rfl, rfl⟩ := h26
        refine Cov.same (bl' := [_, _]) (sl' := []) rfl rfl rfl ?_
        refine Cov.q .ro (.move rfl) rfl ?_
        refine Cov.region_end ?_
        refine Cov.block ?_
        refine Cov.own_nil 3 1 ?_
        refine Cov.loop2 (α := Nat × List Int × Option Addr × Nat × List Value × Int) (fun y => [(10, .slice y.2.2.1 y.2.1.length y.2.2.2.1), (34, .int .i64 y.2.2.2.2.2)]) [(9, _), (33, _)] (fun y => []) (fun y => []) [_, _] (fun y => [.s (.slice y.2.2.1 y.2.1.length y.2.2.2.1) 3 1 y.2.1.length y.2.2.2.2.1]) [] (fun y => OL (Rep.int .i64) G y.2.2.2.2.1 y.2.1 ∧ layout_Asked_L1 u24 u18.1 u18.2.1 y.1 y.2.1 y.2.2.2.2.2 = some r) (fun y => y.1) (big, ([] : List Int), none, 0, [], 0) ⟨(OL.nil (Rp' := (Rep.int .i64))), r25⟩ ⟨rfl, rfl, rfl, rfl, trivial⟩ rfl rfl rfl (fun y hI hb82 => ?_)
        obtain ⟨n72, v74, a75, k76, cs77, v80⟩ := y
        obtain ⟨o78, r81⟩ := hI
        try dsimp only at o78 r81
        refine Cov.prune [(10, .slice a75 v74.length k76), (34, .int .i64 v80), (9, _), (33, _)] ⟨rfl, rfl, rfl, rfl, trivial⟩ ?_
        refine Cov.same (bl' := [_, _]) (sl' := [.s (.slice a75 v74.length k76) 3 1 v74.length cs77]) (Fs' := G :: Fs) rfl rfl rfl ?_
        obtain ⟨m90, rfl⟩ : ∃ m, n72 = m + 1 := by cases n72 with | zero => exact absurd (show (none : Option _) = some _ from r81) (by simp) | succ m => exact ⟨m, rfl⟩
        have r89 : layout_Asked_B1 u24 u18.1 u18.2.1 (layout_Asked_L1 u24 u18.1 u18.2.1 m90) v74 v80 = some r := r81; clear r81; unfold layout_Asked_B1 at r89; try dsimp only at r89
        refine Cov.seq ?_
        refine Cov.region rfl ?_
        refine Cov.q .ro (.lss rfl rfl) rfl ?_
        refine Cov.region_end ?_
        refine Cov.seq ?_
        refine Cov.cond_dec rfl (fun c91 => ?_) (fun c91 => ?_)
        · have r92 := ifT r89 c91; clear r89
          refine Cov.skip ?_
          refine Cov.seq ?_
          refine Cov.block ?_
          refine Cov.seq ?_
          refine Cov.region rfl ?_
          refine Cov.q .ro (.move rfl) rfl ?_
          refine Cov.q .ro (.assign rfl) rfl ?_
          refine Cov.region_end ?_
          refine Cov.region rfl ?_
          refine Cov.q .ro (.move rfl) rfl ?_
          refine Cov.q .ro (.fieldAddr 0 rfl fl56_0 ty3.sz rfl) rfl ?_
          refine Cov.q .ro (.load_own 0 rfl rfl ty3 rfl) rfl ?_
          refine Cov.q .ro (.move rfl) rfl ?_
          refine Cov.q .ro (.fieldAddr 1 rfl fl56_1 ty3.sz rfl) rfl ?_
          refine Cov.q .ro (.load_own 0 rfl rfl ty3 rfl) rfl ?_
          refine Cov.q .ro (.subw rfl rfl) rfl ?_
          refine Cov.q .ro (.min2 rfl rfl) rfl ?_
          refine Cov.q .ro (.addw rfl rfl) rfl ?_
          refine Cov.lit [_] [(0, _)] .ro sl22 ty3 rfl rfl rfl rfl rfl rfl (fun b93 hb93 => ?_)
          have o94 : OL (Rep.int .i64) G [.int .i64 (w64 (u18.1 + (min v80 (w64 (u18.2.1 - 1)))))] ([(w64 (u18.1 + (min v80 (w64 (u18.2.1 - 1)))))] : List Int) := ((OL.cons rfl (Rep.intI .i64 (w64 (u18.1 + (min v80 (w64 (u18.2.1 - 1)))))) (OL.nil (Rp' := (Rep.int .i64)))) :)
          refine Cov.reval 46 (n' := ([(w64 (u18.1 + (min v80 (w64 (u18.2.1 - 1)))))] : List Int).length) rfl rfl ?_
          obtain ⟨u100, hu100, r101⟩ := bind_some r92; clear r92
          refine Cov.appO (Q := (Rep.int .i64)) 0 .ro sl22 ty3 rfl rfl rfl rfl rfl rfl o78 o94 rfl rfl rfl B0 hu100 rfl (fun a96 k97 cs98 o99 => ?_)
          refine Cov.q .ro (.assign rfl) rfl ?_
          refine Cov.region_end ?_
          refine Cov.prune [(10, _), (34, _), (9, _), (33, _)] ⟨rfl, rfl, rfl, rfl, trivial⟩ ?_
          refine Cov.inBlock ?_
          refine Cov.region rfl ?_
          refine Cov.q .ro (.addw rfl rfl) rfl ?_
          refine Cov.q .ro (.move rfl) rfl ?_
          refine Cov.region_end ?_
          refine Cov.prune _ ?_ (Cov.same rfl rfl rfl (hb82 (m90, u100, a96, k97, cs98, (w64 (v80 + 1))) ⟨o99, r101⟩ (Nat.lt_succ_self _)))
          exact ⟨rfl, rfl, rfl, rfl, trivial⟩
        · have r103 := ifF r89 c91; clear r89
          refine Cov.exit rfl ?_
          refine Cov.seq ?_
          refine Cov.region rfl ?_
          refine Cov.q .ro (.move rfl) rfl ?_
          refine Cov.q .ro (.assign rfl) rfl ?_
          refine Cov.q .ro (.assign rfl) rfl ?_
          refine Cov.region_end ?_
          cases r103
          refine Cov.drop 2 0 [] _ rfl rfl ?_
          refine Cov.retS (c := ⟨32, none⟩) (.inr ⟨_, rfl⟩) [.tmp 6, .tmp 7] [_, _] rfl Try.func32 Try.results32 ⟨RV.tmp rfl, RV.tmp rfl, trivial⟩ (fun _ h => List.mem_cons_of_mem _ h) ⟨a75, k76, cs77, rfl, rfl, rfl, o78⟩
    · intro hb11
      refine Cov.split 20 rfl (fun c10 => ?_) (fun c10 => ?_)
      · refine Cov.g_off rfl rfl rfl ?_
        refine Cov.g_off rfl rfl rfl ?_
        refine Cov.g_off rfl rfl rfl ?_
        refine Cov.g_off rfl rfl rfl ?_
        refine Cov.g_off rfl rfl rfl ?_
        refine Cov.q .ro (.pick_t rfl rfl) rfl ?_
        refine Cov.prune _ ?_ (Cov.same rfl rfl rfl (hb11 () trivial))
        exact ⟨dor_t c10, rfl, rfl, trivial⟩
      · refine Cov.g_on rfl ?_
        refine Cov.q .ro (.move rfl) rfl ?_
        refine Cov.g_on rfl ?_
        refine Cov.q .ro (.fieldAddr 1 rfl fl34_1 ty32.sz rfl) rfl ?_
        refine Cov.g_on rfl ?_
        refine Cov.q .ro (.load_own 0 rfl rfl ty32 rfl) rfl ?_
        refine Cov.g_on rfl ?_
        refine Cov.q .ro (.len_sl rfl rfl sl32) rfl ?_
        refine Cov.g_on rfl ?_
        refine Cov.q .ro (.geq rfl rfl) rfl ?_
        refine Cov.q .ro (.pick_f rfl rfl) rfl ?_
        refine Cov.prune _ ?_ (Cov.same rfl rfl rfl (hb11 () trivial))
        exact ⟨dor_f c10, rfl, rfl, trivial⟩

set_option maxHeartbeats 4000000 in
set_option maxRecDepth 100000 in
theorem ref13_Asked_c {Fs : List Hp} {G : Hp} {x0_0 : Int} {a0_1 : Option Addr} {k0_1 : Nat} {x0_1 : List (Int × Int × Int)} {x1 : Int} {x2 : Int} {r : ((List Int) × Int)} (hG : G ∈ Fs) (s0_1 : SlR (Rep.pair (Rep.int .i64) (Rep.pair (Rep.int .i64) (Rep.int .i64))) G a0_1 k0_1 x0_1) (h : ref13_Asked (x0_0, x0_1) x1 x2 = some r) : RetS Try.prog 33 #[.agg #[.int .i64 x0_0, .slice a0_1 x0_1.length k0_1], .int .i64 x1, .int .i64 x2] Fs [] [] (fun v bo so => ∃ (oa0 : Option Addr) (ok0 : Nat) (oc0 : List Value), v = .tuple #[.slice oa0 r.1.length ok0, .int .i64 r.2] ∧ bo = [] ∧ so = [.s (.slice oa0 r.1.length ok0) 3 1 r.1.length oc0] ∧ OL (Rep.int .i64) G oc0 r.1) := by
  unfold ref13_Asked at h
  try dsimp only at h
  refine RetS.of (vs := [_, _, _]) Try.func33 rfl Try.ntmps33 [(0, _), (1, _), (2, _)] ⟨rfl, rfl, rfl, trivial⟩ rfl hG fun w0 S0 hS0 B0 => ?_
  refine Cov.seq ?_
  refine Cov.region rfl ?_
  refine Cov.box [_, _] .ro rfl rfl rfl (fun b1 hb1 => ?_)
  refine Cov.q .ro (.assign rfl) rfl ?_
  refine Cov.q .ro (.assign rfl) rfl ?_
  refine Cov.region_end ?_
  refine Cov.seq ?_
  refine Cov.seq ?_
  refine Cov.region rfl ?_
  refine Cov.q .ro (.load_own_a 0 [_, _] rfl rfl ty34 rfl) rfl ?_
  refine Cov.q .ro (.move rfl) rfl ?_
  obtain ⟨u2, hu2, r3⟩ := bind_some h; clear h
  refine Cov.callS (b1 := []) (b2 := [_]) (s1 := []) [_, _] [] .ro rfl rfl Try.call31 rfl rfl (ref13_Check_c (G := G) List.mem_cons_self s0_1 hu2) rfl (fun v5 bo so h4 => ?_)
  obtain ⟨rfl, rfl, rfl⟩ := h4
  refine Cov.same (bl' := [_]) (sl' := []) rfl rfl rfl ?_
  refine Cov.q .ro (.assign rfl) rfl ?_
  refine Cov.region_end ?_
  refine Cov.seq ?_
  refine Cov.region rfl ?_
  refine Cov.q .ro (.move rfl) rfl ?_
  refine Cov.q .ro (.neq rfl rfl) rfl ?_
  refine Cov.region_end ?_
  refine Cov.cond_dec rfl (fun c6 => ?_) (fun c6 => ?_)
  · have r7 := ifT r3 c6; clear r3
    refine Cov.seq ?_
    refine Cov.region rfl ?_
    refine Cov.q .ro (.move rfl) rfl ?_
    refine Cov.q .ro (.assign rfl) rfl ?_
    refine Cov.q .ro (.assign rfl) rfl ?_
    refine Cov.region_end ?_
    refine Cov.own_nil 3 1 ?_
    cases r7
    refine Cov.drop 1 0 [] _ rfl rfl ?_
    refine Cov.retS (c := ⟨33, none⟩) (.inr ⟨_, rfl⟩) [.tmp 6, .tmp 7] [_, _] rfl Try.func33 Try.results33 ⟨RV.tmp rfl, RV.tmp rfl, trivial⟩ (fun _ h => List.mem_cons_of_mem _ h) ⟨none, 0, [], rfl, rfl, rfl, (OL.nil (Rp' := (Rep.int .i64)))⟩
  · have r9 := ifF r3 c6; clear r3
    refine Cov.skip ?_
    refine Cov.seq ?_
    refine Cov.seq ?_
    refine Cov.region rfl ?_
    refine Cov.q .ro (.move rfl) rfl ?_
    refine Cov.q .ro (.lss rfl rfl) rfl ?_
    refine Cov.q .ro (.move rfl) rfl ?_
    refine Cov.cutR 6 (β := Unit) (fun y => [(26, .bool (decide ((x2 < 0) ∨ ((x0_1.length : Int) ≤ x2))))]) [(2, _), (3, _)] (fun y => G :: Fs) (fun y => []) [_] (fun y => []) [] (fun y => True) ⟨rfl, rfl, trivial⟩ [0] rfl [] rfl ?_ ?_
    · rintro _ _
      refine Cov.prune [(26, .bool (decide ((x2 < 0) ∨ ((x0_1.length : Int) ≤ x2)))), (2, _), (3, _)] ⟨rfl, rfl, rfl, trivial⟩ ?_
      refine Cov.same (bl' := [_]) (sl' := []) (Fs' := G :: Fs) rfl rfl rfl ?_
      refine Cov.region_end ?_
      refine Cov.cond_dec rfl (fun c14 => ?_) (fun c14 => ?_)
      · have r15 := ifT r9 c14; clear r9
        refine Cov.seq ?_
        refine Cov.region rfl ?_
        refine Cov.q .ro (.assign rfl) rfl ?_
        refine Cov.q .ro (.assign rfl) rfl ?_
        refine Cov.region_end ?_
        refine Cov.own_nil 3 1 ?_
        cases r15
        refine Cov.drop 1 0 [] _ rfl rfl ?_
        refine Cov.retS (c := ⟨33, none⟩) (.inr ⟨_, rfl⟩) [.tmp 6, .tmp 7] [_, _] rfl Try.func33 Try.results33 ⟨RV.tmp rfl, RV.tmp rfl, trivial⟩ (fun _ h => List.mem_cons_of_mem _ h) ⟨none, 0, [], rfl, rfl, rfl, (OL.nil (Rp' := (Rep.int .i64)))⟩
      · have r17 := ifF r9 c14; clear r9
        refine Cov.skip ?_
        refine Cov.seq ?_
        refine Cov.region rfl ?_
        refine Cov.q .ro (.fieldAddr 1 rfl fl34_1 ty32.sz rfl) rfl ?_
        refine Cov.q .ro (.load_own 0 rfl rfl ty32 rfl) rfl ?_
        refine Cov.q .ro (.move rfl) rfl ?_
        obtain ⟨u18, hu18, r19⟩ := bind_some r17; clear r17
        obtain ⟨c20, p21, h22⟩ := SlR.get s0_1 hu18
        obtain ⟨_, _, rfl, rfl, _, _, rfl, rfl, rfl⟩ := h22
        refine Cov.q .ro (.idxR s0_1 rfl rfl hu18 sl32 ty56.sz) rfl ?_
        refine Cov.q .ro (.load_rp_a [_, _, _] p21 List.mem_cons_self rfl ty56 rfl) rfl ?_
        refine Cov.alloc .ro ty56 rfl (fun b23 hb23 => ?_)
        refine Cov.store 0 [_, _, _] [_, _] .ro rfl rfl rfl ty56 rfl rfl rfl rfl ?_
        refine Cov.region_end ?_
        refine Cov.seq ?_
        refine Cov.region rfl ?_
        refine Cov.q .ro (.assign rfl) rfl ?_
        refine Cov.region_end ?_
        refine Cov.seq ?_
        refine Cov.seq ?_
        refine Cov.region rfl ?_
        refine Cov.q .ro (.assign rfl) rfl ?_
        refine Cov.region_end ?_
        refine Cov.block ?_
        refine Cov.own_nil 3 1 ?_
        refine Cov.loop2 (α := Nat × List Int × Option Addr × Nat × List Value × Int) (fun y => [(10, .slice y.2.2.1 y.2.1.length y.2.2.2.1), (11, .int .i64 y.2.2.2.2.2)]) [(3, _), (9, _)] (fun y => []) (fun y => []) [_, _] (fun y => [.s (.slice y.2.2.1 y.2.1.length y.2.2.2.1) 3 1 y.2.1.length y.2.2.2.2.1]) [] (fun y => OL (Rep.int .i64) G y.2.2.2.2.1 y.2.1 ∧ ref13_Asked_L1 u18.1 u18.2.1 x0_0 x0_1 y.1 y.2.1 y.2.2.2.2.2 = some r) (fun y => y.1) (big, ([] : List Int), none, 0, [], 0) ⟨(OL.nil (Rp' := (Rep.int .i64))), r19⟩ ⟨rfl, rfl, rfl, rfl, trivial⟩ rfl rfl rfl (fun y hI hb86 => ?_)
        obtain ⟨n76, v78, a79, k80, cs81, v84⟩ := y
        obtain ⟨o82, r85⟩ := hI
        try dsimp only at o82 r85
        refine Cov.prune [(10, .slice a79 v78.length k80), (11, .int .i64 v84), (3, _), (9, _)] ⟨rfl, rfl, rfl, rfl, trivial⟩ ?_
        refine Cov.same (bl' := [_, _]) (sl' := [.s (.slice a79 v78.length k80) 3 1 v78.length cs81]) (Fs' := G :: Fs) rfl rfl rfl ?_
        obtain ⟨m93, rfl⟩ : ∃ m, n76 = m + 1 := by cases n76 with | zero => exact absurd (show (none : Option _) = some _ from r85) (by simp) | succ m => exact ⟨m, rfl⟩
        have r92 : ref13_Asked_B1 u18.1 u18.2.1 x0_0 x0_1 (ref13_Asked_L1 u18.1 u18.2.1 x0_0 x0_1 m93) v78 v84 = some r := r85; clear r85; unfold ref13_Asked_B1 at r92; try dsimp only at r92
        refine Cov.seq ?_
        refine Cov.seq ?_
        refine Cov.region rfl ?_
        refine Cov.q .ro (.move rfl) rfl ?_
        refine Cov.q .ro (.load_own_a 1 [_, _] rfl rfl ty34 rfl) rfl ?_
        obtain ⟨u94, hu94, r95⟩ := bind_some r92; clear r92
        refine Cov.callS (b1 := []) (b2 := [_, _]) (s1 := []) [_] [] .ro rfl rfl Try.call30 rfl rfl (ref13_Most_c (G := G) List.mem_cons_self s0_1 hu94) rfl (fun v97 bo so h96 => ?_)
        obtain ⟨rfl, rfl, rfl⟩ := h96
        refine Cov.same (bl' := [_, _]) (sl' := [_]) rfl rfl rfl ?_
        refine Cov.q .ro (.lss rfl rfl) rfl ?_
        refine Cov.region_end ?_
        refine Cov.cond_dec rfl (fun c98 => ?_) (fun c98 => ?_)
        · have r99 := ifT r95 c98; clear r95
          refine Cov.skip ?_
          refine Cov.seq ?_
          refine Cov.block ?_
          refine Cov.region rfl ?_
          refine Cov.q .ro (.move rfl) rfl ?_
          refine Cov.q .ro (.fieldAddr 0 rfl fl56_0 ty3.sz rfl) rfl ?_
          refine Cov.q .ro (.load_own 0 rfl rfl ty3 rfl) rfl ?_
          refine Cov.q .ro (.move rfl) rfl ?_
          refine Cov.q .ro (.fieldAddr 1 rfl fl56_1 ty3.sz rfl) rfl ?_
          refine Cov.q .ro (.load_own 0 rfl rfl ty3 rfl) rfl ?_
          refine Cov.q .ro (.subw rfl rfl) rfl ?_
          refine Cov.q .ro (.min2 rfl rfl) rfl ?_
          refine Cov.q .ro (.addw rfl rfl) rfl ?_
          refine Cov.lit [_] [(0, _)] .ro sl22 ty3 rfl rfl rfl rfl rfl rfl (fun b100 hb100 => ?_)
          have o101 : OL (Rep.int .i64) G [.int .i64 (w64 (u18.1 + (min v84 (w64 (u18.2.1 - 1)))))] ([(w64 (u18.1 + (min v84 (w64 (u18.2.1 - 1)))))] : List Int) := ((OL.cons rfl (Rep.intI .i64 (w64 (u18.1 + (min v84 (w64 (u18.2.1 - 1)))))) (OL.nil (Rp' := (Rep.int .i64)))) :)
          refine Cov.reval 47 (n' := ([(w64 (u18.1 + (min v84 (w64 (u18.2.1 - 1)))))] : List Int).length) rfl rfl ?_
          obtain ⟨u107, hu107, r108⟩ := bind_some r99; clear r99
          refine Cov.appO (Q := (Rep.int .i64)) 0 .ro sl22 ty3 rfl rfl rfl rfl rfl rfl o82 o101 rfl rfl rfl B0 hu107 rfl (fun a103 k104 cs105 o106 => ?_)
          refine Cov.q .ro (.assign rfl) rfl ?_
          refine Cov.region_end ?_
          refine Cov.prune [(10, _), (11, _), (3, _), (9, _)] ⟨rfl, rfl, rfl, rfl, trivial⟩ ?_
          refine Cov.inBlock ?_
          refine Cov.region rfl ?_
          refine Cov.q .ro (.move rfl) rfl ?_
          refine Cov.q .ro (.addw rfl rfl) rfl ?_
          refine Cov.q .ro (.assign rfl) rfl ?_
          refine Cov.region_end ?_
          refine Cov.prune _ ?_ (Cov.same rfl rfl rfl (hb86 (m93, u107, a103, k104, cs105, (w64 (v84 + 1))) ⟨o106, r108⟩ (Nat.lt_succ_self _)))
          exact ⟨rfl, rfl, rfl, rfl, trivial⟩
        · have r110 := ifF r95 c98; clear r95
          refine Cov.exit rfl ?_
          refine Cov.seq ?_
          refine Cov.region rfl ?_
          refine Cov.q .ro (.move rfl) rfl ?_
          refine Cov.q .ro (.assign rfl) rfl ?_
          refine Cov.q .ro (.assign rfl) rfl ?_
          refine Cov.region_end ?_
          cases r110
          refine Cov.drop 2 0 [] _ rfl rfl ?_
          refine Cov.retS (c := ⟨33, none⟩) (.inr ⟨_, rfl⟩) [.tmp 6, .tmp 7] [_, _] rfl Try.func33 Try.results33 ⟨RV.tmp rfl, RV.tmp rfl, trivial⟩ (fun _ h => List.mem_cons_of_mem _ h) ⟨a79, k80, cs81, rfl, rfl, rfl, o82⟩
    · intro hb11
      refine Cov.split 20 rfl (fun c10 => ?_) (fun c10 => ?_)
      · refine Cov.g_off rfl rfl rfl ?_
        refine Cov.g_off rfl rfl rfl ?_
        refine Cov.g_off rfl rfl rfl ?_
        refine Cov.g_off rfl rfl rfl ?_
        refine Cov.g_off rfl rfl rfl ?_
        refine Cov.q .ro (.pick_t rfl rfl) rfl ?_
        refine Cov.prune _ ?_ (Cov.same rfl rfl rfl (hb11 () trivial))
        exact ⟨dor_t c10, rfl, rfl, trivial⟩
      · refine Cov.g_on rfl ?_
        refine Cov.q .ro (.move rfl) rfl ?_
        refine Cov.g_on rfl ?_
        refine Cov.q .ro (.fieldAddr 1 rfl fl34_1 ty32.sz rfl) rfl ?_
        refine Cov.g_on rfl ?_
        refine Cov.q .ro (.load_own 0 rfl rfl ty32 rfl) rfl ?_
        refine Cov.g_on rfl ?_
        refine Cov.q .ro (.len_sl rfl rfl sl32) rfl ?_
        refine Cov.g_on rfl ?_
        refine Cov.q .ro (.geq rfl rfl) rfl ?_
        refine Cov.q .ro (.pick_f rfl rfl) rfl ?_
        refine Cov.prune _ ?_ (Cov.same rfl rfl rfl (hb11 () trivial))
        exact ⟨dor_f c10, rfl, rfl, trivial⟩

set_option maxHeartbeats 4000000 in
set_option maxRecDepth 100000 in
theorem ref13_Record_c {Fs : List Hp} {G : Hp} {x0_0 : Int} {x1_0 : Int} {a1_1 : Option Addr} {k1_1 : Nat} {x1_1 : List (Int × Int × Int)} {a2 : Option Addr} {k2 : Nat} {x2 : List (List Int)} {x3 : Int} {r : (ByteArray × Int)} (hG : G ∈ Fs) (s1_1 : SlR (Rep.pair (Rep.int .i64) (Rep.pair (Rep.int .i64) (Rep.int .i64))) G a1_1 k1_1 x1_1) (s2 : SlR (Rep.sl (Rep.int .i64)) G a2 k2 x2) (h : ref13_Record x0_0 (x1_0, x1_1) x2 x3 = some r) : RetS Try.prog 35 #[.agg #[.int .i64 x0_0], .agg #[.int .i64 x1_0, .slice a1_1 x1_1.length k1_1], .slice a2 x2.length k2, .int .i64 x3] Fs [] [] (fun v bo so => v = .tuple #[.string r.1, .int .i64 r.2] ∧ bo = [] ∧ so = []) := by
  unfold ref13_Record at h
  try dsimp only at h
  refine RetS.of (vs := [_, _, _, _]) Try.func35 rfl Try.ntmps35 [(0, _), (1, _), (2, _), (3, _)] ⟨rfl, rfl, rfl, rfl, trivial⟩ rfl hG fun w0 S0 hS0 B0 => ?_
  refine Cov.seq ?_
  refine Cov.region rfl ?_
  refine Cov.box [_] .ro rfl rfl rfl (fun b1 hb1 => ?_)
  refine Cov.box [_, _] .ro rfl rfl rfl (fun b2 hb2 => ?_)
  refine Cov.q .ro (.assign rfl) rfl ?_
  refine Cov.q .ro (.assign rfl) rfl ?_
  refine Cov.region_end ?_
  refine Cov.seq ?_
  refine Cov.seq ?_
  refine Cov.region rfl ?_
  refine Cov.q .ro (.load_own_a 0 [_, _] rfl rfl ty34 rfl) rfl ?_
  refine Cov.q .ro (.move rfl) rfl ?_
  refine Cov.q .ro (.len_sl rfl rfl sl26) rfl ?_
  obtain ⟨u3, hu3, r4⟩ := bind_some h; clear h
  refine Cov.callS (b1 := []) (b2 := [_, _]) (s1 := []) [_, _] [] .ro rfl rfl Try.call31 rfl rfl (ref13_Check_c (G := G) List.mem_cons_self s1_1 hu3) rfl (fun v6 bo so h5 => ?_)
  obtain ⟨rfl, rfl, rfl⟩ := h5
  refine Cov.same (bl' := [_, _]) (sl' := []) rfl rfl rfl ?_
  refine Cov.q .ro (.assign rfl) rfl ?_
  refine Cov.region_end ?_
  refine Cov.seq ?_
  refine Cov.region rfl ?_
  refine Cov.q .ro (.move rfl) rfl ?_
  refine Cov.q .ro (.neq rfl rfl) rfl ?_
  refine Cov.region_end ?_
  refine Cov.cond_dec rfl (fun c7 => ?_) (fun c7 => ?_)
  · have r8 := ifT r4 c7; clear r4
    refine Cov.seq ?_
    refine Cov.region rfl ?_
    refine Cov.q .ro (.move rfl) rfl ?_
    refine Cov.q .ro (.assign rfl) rfl ?_
    refine Cov.q .ro (.assign rfl) rfl ?_
    refine Cov.region_end ?_
    refine Cov.prune [(8, _), (9, _)] ⟨rfl, rfl, trivial⟩ ?_
    cases r8
    refine Cov.drop 2 0 [] _ rfl rfl ?_
    refine Cov.retS (c := ⟨35, none⟩) (.inr ⟨_, rfl⟩) [.tmp 8, .tmp 9] [_, _] rfl Try.func35 Try.results35 ⟨RV.tmp rfl, RV.tmp rfl, trivial⟩ (fun _ h => List.mem_cons_of_mem _ h) ⟨rfl, rfl, rfl⟩
  · have r9 := ifF r4 c7; clear r4
    refine Cov.skip ?_
    refine Cov.seq ?_
    refine Cov.seq ?_
    refine Cov.region rfl ?_
    refine Cov.q .ro (.move rfl) rfl ?_
    refine Cov.q .ro (.lss rfl rfl) rfl ?_
    refine Cov.q .ro (.move rfl) rfl ?_
    refine Cov.cutR 6 (β := Unit) (fun y => [(27, .bool (decide ((x3 < 0) ∨ ((x1_1.length : Int) ≤ x3))))]) [(2, _), (3, _), (4, _), (5, _)] (fun y => G :: Fs) (fun y => []) [_, _] (fun y => []) [] (fun y => True) ⟨rfl, rfl, rfl, rfl, trivial⟩ [0, 1] rfl [] rfl ?_ ?_
    · rintro _ _
      refine Cov.prune [(27, .bool (decide ((x3 < 0) ∨ ((x1_1.length : Int) ≤ x3)))), (2, _), (3, _), (4, _), (5, _)] ⟨rfl, rfl, rfl, rfl, rfl, trivial⟩ ?_
      refine Cov.same (bl' := [_, _]) (sl' := []) (Fs' := G :: Fs) rfl rfl rfl ?_
      refine Cov.region_end ?_
      refine Cov.cond_dec rfl (fun c14 => ?_) (fun c14 => ?_)
      · have r15 := ifT r9 c14; clear r9
        refine Cov.seq ?_
        refine Cov.region rfl ?_
        refine Cov.q .ro (.assign rfl) rfl ?_
        refine Cov.q .ro (.assign rfl) rfl ?_
        refine Cov.region_end ?_
        cases r15
        refine Cov.drop 2 0 [] _ rfl rfl ?_
        refine Cov.retS (c := ⟨35, none⟩) (.inr ⟨_, rfl⟩) [.tmp 8, .tmp 9] [_, _] rfl Try.func35 Try.results35 ⟨RV.tmp rfl, RV.tmp rfl, trivial⟩ (fun _ h => List.mem_cons_of_mem _ h) ⟨rfl, rfl, rfl⟩
      · have r16 := ifF r9 c14; clear r9
        refine Cov.skip ?_
        refine Cov.seq ?_
        refine Cov.region rfl ?_
        refine Cov.q .ro (.fieldAddr 1 rfl fl34_1 ty32.sz rfl) rfl ?_
        refine Cov.q .ro (.load_own 0 rfl rfl ty32 rfl) rfl ?_
        refine Cov.q .ro (.move rfl) rfl ?_
        obtain ⟨u17, hu17, r18⟩ := bind_some r16; clear r16
        obtain ⟨c19, p20, h21⟩ := SlR.get s1_1 hu17
        obtain ⟨_, _, rfl, rfl, _, _, rfl, rfl, rfl⟩ := h21
        refine Cov.q .ro (.idxR s1_1 rfl rfl hu17 sl32 ty56.sz) rfl ?_
        refine Cov.q .ro (.load_rp_a [_, _, _] p20 List.mem_cons_self rfl ty56 rfl) rfl ?_
        refine Cov.alloc .ro ty56 rfl (fun b22 hb22 => ?_)
        refine Cov.store 0 [_, _, _] [_, _, _] .ro rfl rfl rfl ty56 rfl rfl rfl rfl ?_
        refine Cov.region_end ?_
        refine Cov.seq ?_
        refine Cov.drawL (.q 0 (.q 1 (.q 2 (.q 3 (.q 4 (.q 5 (.q 6 (.q 7 (.q 8 (.q 9 (.q 10 (.q 11 (.q 12 (.q 13 (.e 14 1 (.q 15 (.q 16 (.q 17 (.q 18 .nil))))))))))))))))))) [_, _, _] (by kernel_rfl) (by kernel_rfl) (pick_mem [0, 1, 2] rfl) ?_
        refine Cov.dq (.load_own_a 2 [_] rfl rfl ty24 rfl) rfl ?_
        refine Cov.dq (.fieldAddr 0 rfl fl34_0 ty3.sz rfl) rfl ?_
        refine Cov.dq (.load_own 1 rfl rfl ty3 rfl) rfl ?_
        refine Cov.dq (.fieldAddr 2 rfl fl56_2 ty3.sz rfl) rfl ?_
        refine Cov.dq (.load_own 0 rfl rfl ty3 rfl) rfl ?_
        refine Cov.dq (.move rfl) rfl ?_
        refine Cov.dq (.fieldAddr 0 rfl fl56_0 ty3.sz rfl) rfl ?_
        refine Cov.dq (.load_own 0 rfl rfl ty3 rfl) rfl ?_
        refine Cov.dq (.fieldAddr 0 rfl fl56_0 ty3.sz rfl) rfl ?_
        refine Cov.dq (.load_own 0 rfl rfl ty3 rfl) rfl ?_
        refine Cov.dq (.fieldAddr 1 rfl fl56_1 ty3.sz rfl) rfl ?_
        refine Cov.dq (.load_own 0 rfl rfl ty3 rfl) rfl ?_
        refine Cov.dq (.addw rfl rfl) rfl ?_
        obtain ⟨u23, hu23, r24⟩ := bind_some r18; clear r18
        obtain ⟨a25, k26, h27, s28⟩ := SlR.sub s2 hu23
        refine Cov.dq (.sliceR s2 rfl hu23 sl26 ty22.sz (fun h => .yes' rfl h) (fun h => .yes' rfl h) h27) rfl ?_
        obtain ⟨u29, hu29, r30⟩ := bind_some r24; clear r24
        refine Cov.callS (b1 := []) (b2 := [_, _, _]) (s1 := []) [_, _, _, _] [] .d1 rfl rfl Try.call24 rfl rfl (ref13_Decode_c (G := G) List.mem_cons_self s28 hu29) rfl (fun v32 bo so h31 => ?_)
        obtain ⟨rfl, rfl, rfl⟩ := h31
        refine Cov.same (bl' := [_, _, _]) (sl' := []) rfl rfl rfl ?_
        refine Cov.clsL (HpLe.refl _) (pick_mem [0, 1, 2] rfl) ?_
        refine Cov.dq (.extract rfl rfl) rfl ?_
        refine Cov.dq (.extract rfl rfl) rfl ?_
        refine Cov.dq (.assign rfl) rfl ?_
        refine Cov.dq (.assign rfl) rfl ?_
        refine Cov.draw_end ?_
        refine Cov.prune [(8, _), (9, _)] ⟨rfl, rfl, trivial⟩ ?_
        cases r30
        refine Cov.drop 3 0 [] _ rfl rfl ?_
        refine Cov.retS (c := ⟨35, none⟩) (.inr ⟨_, rfl⟩) [.tmp 8, .tmp 9] [_, _] rfl Try.func35 Try.results35 ⟨RV.tmp rfl, RV.tmp rfl, trivial⟩ (fun _ h => List.mem_cons_of_mem _ h) ⟨rfl, rfl, rfl⟩
    · intro hb11
      refine Cov.split 21 rfl (fun c10 => ?_) (fun c10 => ?_)
      · refine Cov.g_off rfl rfl rfl ?_
        refine Cov.g_off rfl rfl rfl ?_
        refine Cov.g_off rfl rfl rfl ?_
        refine Cov.g_off rfl rfl rfl ?_
        refine Cov.g_off rfl rfl rfl ?_
        refine Cov.q .ro (.pick_t rfl rfl) rfl ?_
        refine Cov.prune _ ?_ (Cov.same rfl rfl rfl (hb11 () trivial))
        exact ⟨dor_t c10, rfl, rfl, rfl, rfl, trivial⟩
      · refine Cov.g_on rfl ?_
        refine Cov.q .ro (.move rfl) rfl ?_
        refine Cov.g_on rfl ?_
        refine Cov.q .ro (.fieldAddr 1 rfl fl34_1 ty32.sz rfl) rfl ?_
        refine Cov.g_on rfl ?_
        refine Cov.q .ro (.load_own 0 rfl rfl ty32 rfl) rfl ?_
        refine Cov.g_on rfl ?_
        refine Cov.q .ro (.len_sl rfl rfl sl32) rfl ?_
        refine Cov.g_on rfl ?_
        refine Cov.q .ro (.geq rfl rfl) rfl ?_
        refine Cov.q .ro (.pick_f rfl rfl) rfl ?_
        refine Cov.prune _ ?_ (Cov.same rfl rfl rfl (hb11 () trivial))
        exact ⟨dor_f c10, rfl, rfl, rfl, rfl, trivial⟩

end Go.Proofs.Ythgmcgldmahgeaa
