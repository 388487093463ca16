/- The walks. Printed by wip/lift/drive.py. -/
import Derived.Test.YtdchjmophffphaaW1
namespace Go.Proofs.Ytdchjmophffphaa
open Go.RowKit
set_option linter.unusedSimpArgs false
set_option linter.unusedVariables false

set_option maxHeartbeats 4000000 in
theorem ref21_ascend_c {Fs : List Hp} {G : Hp} {a0 : Option Addr} {k0 : Nat} {x0 : List ByteArray} {r : Bool} (hG : G ∈ Fs) (s0 : SlR Rep.str G a0 k0 x0) (h : ref21_ascend x0 = some r) : RetS Try.prog 36 #[.slice a0 x0.length k0] Fs [] [] (fun v bo so => v = .bool r ∧ bo = [] ∧ so = []) := by
  unfold ref21_ascend at h
  try dsimp only at h
  refine RetS.of (vs := [_]) Try.func36 rfl Try.ntmps36 [(0, _)] ⟨rfl, trivial⟩ rfl hG fun w0 S0 hS0 B0 => ?_
  refine Cov.seq ?_
  refine Cov.region rfl ?_
  refine Cov.q .ro (.assign rfl) rfl ?_
  refine Cov.region_end ?_
  refine Cov.seq ?_
  refine Cov.seq ?_
  refine Cov.region rfl ?_
  refine Cov.q .ro (.move rfl) rfl ?_
  refine Cov.q .ro (.len_sl rfl rfl sl27) rfl ?_
  refine Cov.q .ro (.move rfl) rfl ?_
  refine Cov.region_end ?_
  refine Cov.block ?_
  refine Cov.loop2 (α := Nat × List ByteArray) (fun y => [(7, .int .i64 (y.1 : Int))]) [(0, _), (5, _), (6, _)] (fun y => []) (fun y => []) [] (fun y => []) [] (fun y => List.drop y.1 x0 = y.2 ∧ ref21_ascend_L1 x0 y.2 y.1  = some r) (fun y => y.2.length) (0, x0) ⟨rfl, h⟩ ⟨rfl, rfl, rfl, rfl, trivial⟩ rfl rfl rfl (fun y hI hb70 => ?_)
  obtain ⟨i66, w67⟩ := y
  obtain ⟨g68, r69⟩ := hI
  try dsimp only at g68 r69
  refine Cov.prune [(7, .int .i64 (i66 : Int)), (0, _), (5, _), (6, _)] ⟨rfl, rfl, rfl, rfl, trivial⟩ ?_
  refine Cov.same (bl' := []) (sl' := []) (Fs' := G :: Fs) rfl rfl rfl ?_
  cases w67 with
  | nil =>
    rw [ref21_ascend_L1] at r69; try dsimp only at r69
    refine Cov.seq ?_
    refine Cov.region rfl ?_
    refine Cov.q .ro (.lss rfl rfl) rfl ?_
    refine Cov.region_end ?_
    refine Cov.seq ?_
    refine Cov.cond_dec rfl (fun c => absurd c (drop_nil g68)) (fun _ => ?_)
    refine Cov.exit rfl ?_
    refine Cov.seq ?_
    refine Cov.region rfl ?_
    refine Cov.q .ro (.assign rfl) rfl ?_
    refine Cov.region_end ?_
    cases r69
    refine Cov.retS (c := ⟨36, none⟩) (.inr ⟨_, rfl⟩) [.tmp 2] [_] rfl Try.func36 Try.results36 ⟨RV.tmp rfl, trivial⟩ (fun _ h => List.mem_cons_of_mem _ h) ⟨rfl, rfl, rfl⟩
  | cons x74 xs75 =>
    have r73 : ref21_ascend_B1 x0 (ref21_ascend_L1 x0 xs75 (i66 + 1)) x74 i66  = some r := r69; clear r69; unfold ref21_ascend_B1 at r73; try dsimp only at r73
    refine Cov.seq ?_
    refine Cov.region rfl ?_
    refine Cov.q .ro (.lss rfl rfl) rfl ?_
    refine Cov.region_end ?_
    refine Cov.seq ?_
    refine Cov.cond_dec rfl (fun _ => ?_) (fun c => absurd (drop_lt g68) c)
    refine Cov.skip ?_
    refine Cov.seq ?_
    refine Cov.block ?_
    refine Cov.seq ?_
    refine Cov.region rfl ?_
    refine Cov.q .ro (.move rfl) rfl ?_
    obtain ⟨c76, p77, h78⟩ := SlR.get s0 (drop_idx g68)
    obtain rfl := h78
    refine Cov.q .ro (.idxR s0 rfl rfl (drop_idx g68) sl27 ty9.sz) rfl ?_
    refine Cov.q .ro (.load_rp p77 List.mem_cons_self rfl ty9 rfl) rfl ?_
    refine Cov.q .ro (.assign rfl) rfl ?_
    refine Cov.q .ro (.assign rfl) rfl ?_
    refine Cov.region_end ?_
    refine Cov.seq ?_
    refine Cov.region rfl ?_
    refine Cov.q .ro (.move rfl) rfl ?_
    obtain ⟨u79, hu79, r80⟩ := bind_some r73; clear r73
    refine Cov.callS (b1 := []) (b2 := []) (s1 := []) [_] [] .ro rfl rfl Try.call39 rfl rfl (ref20_Key_c (G := G) List.mem_cons_self  hu79) rfl (fun v82 bo so h81 => ?_)
    obtain ⟨rfl, rfl, rfl⟩ := h81
    refine Cov.same (bl' := []) (sl' := []) rfl rfl rfl ?_
    refine Cov.q .ro (.not rfl) rfl ?_
    refine Cov.q .ro (.move rfl) rfl ?_
    obtain ⟨u104, h105, r106⟩ := bind_some r80; clear r80
    refine Cov.cutR 12 (β := Unit) (fun y => [(27, .bool u104)]) [(7, _), (0, _), (5, _), (6, _)] (fun y => G :: Fs) (fun y => []) [] (fun y => []) [] (fun y => True) ⟨rfl, rfl, rfl, rfl, trivial⟩ [] rfl [] rfl ?_ ?_
    · rintro _ _
      refine Cov.prune [(27, .bool u104), (7, _), (0, _), (5, _), (6, _)] ⟨rfl, rfl, rfl, rfl, rfl, trivial⟩ ?_
      refine Cov.same (bl' := []) (sl' := []) (Fs' := G :: Fs) rfl rfl rfl ?_
      refine Cov.region_end ?_
      refine Cov.cond rfl (fun c109 => ?_) (fun c109 => ?_)
      · have r110 := ifT r106 c109; clear r106
        refine Cov.seq ?_
        refine Cov.region rfl ?_
        refine Cov.q .ro (.assign rfl) rfl ?_
        refine Cov.region_end ?_
        cases r110
        refine Cov.retS (c := ⟨36, none⟩) (.inr ⟨_, rfl⟩) [.tmp 2] [_] rfl Try.func36 Try.results36 ⟨RV.tmp rfl, trivial⟩ (fun _ h => List.mem_cons_of_mem _ h) ⟨rfl, rfl, rfl⟩
      · have r111 := ifBF r106 c109; clear r106
        refine Cov.skip ?_
        refine Cov.inBlock ?_
        refine Cov.region rfl ?_
        refine Cov.q .ro (.addw rfl rfl) rfl ?_
        refine Cov.q .ro (.move rfl) rfl ?_
        refine Cov.region_end ?_
        refine Cov.prune _ ?_ (Cov.same rfl rfl rfl (hb70 ((i66 + 1), xs75) ⟨(drop_succ g68), r111⟩ (Nat.lt_succ_self _)))
        exact ⟨(congrArg (fun z => some (Value.int .i64 z)) (idx_wrap (SlR.len s0) g68)), rfl, rfl, rfl, trivial⟩
    · intro hb103
      refine Cov.split_b 15 rfl (fun c102 => ?_) (fun c102 => ?_)
      · have r112 := ifT h105 c102
        refine Cov.g_off rfl rfl rfl ?_
        refine Cov.g_off rfl rfl rfl ?_
        refine Cov.g_off rfl rfl rfl ?_
        refine Cov.gu_off rfl rfl ?_
        refine Cov.gu_off rfl rfl ?_
        refine Cov.gu_off rfl rfl ?_
        refine Cov.gu_off rfl rfl ?_
        refine Cov.gu_off rfl rfl ?_
        refine Cov.gu_off rfl rfl ?_
        refine Cov.gu_off rfl rfl ?_
        refine Cov.g_off rfl rfl rfl ?_
        refine Cov.q .ro (.pick_t rfl rfl) rfl ?_
        refine Cov.prune _ ?_ (Cov.same rfl rfl rfl (hb103 () trivial))
        exact ⟨sval r112, rfl, rfl, rfl, rfl, trivial⟩
      · have r113 := ifBF h105 c102
        refine Cov.g_on rfl ?_
        refine Cov.q .ro (.move rfl) rfl ?_
        refine Cov.g_on rfl ?_
        refine Cov.q .ro (.gtr rfl rfl) rfl ?_
        refine Cov.g_on rfl ?_
        refine Cov.q .ro (.move rfl) rfl ?_
        obtain ⟨u121, h122, r123⟩ := bind_some r113; clear r113
        refine Cov.cutR 8 (β := Unit) (fun y => [(26, .bool u121)]) [(7, _), (0, _), (5, _), (6, _), (15, _), (16, _), (17, _)] (fun y => G :: Fs) (fun y => []) [] (fun y => []) [] (fun y => True) ⟨rfl, rfl, rfl, rfl, rfl, rfl, rfl, trivial⟩ [] rfl [] rfl ?_ ?_
        · rintro _ _
          refine Cov.prune [(26, .bool u121), (7, _), (0, _), (5, _), (6, _), (15, _), (16, _), (17, _)] ⟨rfl, rfl, rfl, rfl, rfl, rfl, rfl, rfl, trivial⟩ ?_
          refine Cov.same (bl' := []) (sl' := []) (Fs' := G :: Fs) rfl rfl rfl ?_
          refine Cov.q .ro (.pick_f rfl rfl) rfl ?_
          refine Cov.prune _ ?_ (Cov.same rfl rfl rfl (hb103 () trivial))
          exact ⟨sval r123, rfl, rfl, rfl, rfl, trivial⟩
        · intro hb120
          refine Cov.split 18 rfl (fun c119 => ?_) (fun c119 => ?_)
          · have r126 := ifT h122 c119
            refine Cov.g_on rfl ?_
            refine Cov.q .ro (.move rfl) rfl ?_
            refine Cov.g_on rfl ?_
            refine Cov.q .ro (.move rfl) rfl ?_
            refine Cov.g_on rfl ?_
            refine Cov.q .ro (.move rfl) rfl ?_
            refine Cov.g_on rfl ?_
            refine Cov.q .ro (.subw rfl rfl) rfl ?_
            refine Cov.g_on rfl ?_
            obtain ⟨u127, hu127, r128⟩ := bind_some r126; clear r126
            obtain ⟨c129, p130, h131⟩ := SlR.get s0 hu127
            obtain rfl := h131
            refine Cov.q .ro (.idxR s0 rfl rfl hu127 sl27 ty9.sz) rfl ?_
            refine Cov.g_on rfl ?_
            refine Cov.q .ro (.load_rp p130 List.mem_cons_self rfl ty9 rfl) rfl ?_
            refine Cov.g_on rfl ?_
            refine Cov.q .ro (.leq_d rfl rfl) rfl ?_
            refine Cov.g_on rfl ?_
            refine Cov.q .ro (.pick_t rfl rfl) rfl ?_
            refine Cov.prune _ ?_ (Cov.same rfl rfl rfl (hb120 () trivial))
            exact ⟨sval r128, rfl, rfl, rfl, rfl, rfl, rfl, rfl, trivial⟩
          · have r132 := ifF h122 c119
            refine Cov.g_off rfl rfl rfl ?_
            refine Cov.g_off rfl rfl rfl ?_
            refine Cov.g_off rfl rfl rfl ?_
            refine Cov.g_off rfl rfl rfl ?_
            refine Cov.g_off rfl rfl rfl ?_
            refine Cov.g_off rfl rfl rfl ?_
            refine Cov.g_off rfl rfl rfl ?_
            refine Cov.g_on rfl ?_
            refine Cov.q .ro (.pick_f rfl rfl) rfl ?_
            refine Cov.prune _ ?_ (Cov.same rfl rfl rfl (hb120 () trivial))
            exact ⟨sval r132, rfl, rfl, rfl, rfl, rfl, rfl, rfl, trivial⟩

set_option maxHeartbeats 4000000 in
theorem ref21_Check_c {Fs : List Hp} {G : Hp} {x0_0 : Int} {a0_1 : Option Addr} {k0_1 : Nat} {x0_1 : List ByteArray} {r : Int} (hG : G ∈ Fs) (s0_1 : SlR Rep.str G a0_1 k0_1 x0_1) (h : ref21_Check (x0_0, x0_1) = some r) : RetS Try.prog 19 #[.agg #[.int .i64 x0_0, .slice a0_1 x0_1.length k0_1]] Fs [] [] (fun v bo so => v = .int .i64 r ∧ bo = [] ∧ so = []) := by
  unfold ref21_Check at h
  try dsimp only at h
  refine RetS.of (vs := [_]) Try.func19 rfl Try.ntmps19 [(0, _)] ⟨rfl, trivial⟩ rfl hG fun w0 S0 hS0 B0 => ?_
  refine Cov.seq ?_
  refine Cov.region rfl ?_
  refine Cov.box [_, _] .ro rfl rfl rfl (fun b1 hb1 => ?_)
  refine Cov.q .ro (.assign rfl) rfl ?_
  refine Cov.region_end ?_
  refine Cov.seq ?_
  refine Cov.seq ?_
  refine Cov.region rfl ?_
  refine Cov.q .ro (.fieldAddr 0 rfl fl29_0 ty3.sz rfl) rfl ?_
  refine Cov.q .ro (.load_own 0 rfl rfl ty3 rfl) rfl ?_
  refine Cov.q .ro (.lss rfl rfl) rfl ?_
  refine Cov.q .ro (.move rfl) rfl ?_
  refine Cov.cutR 4 (β := Unit) (fun y => [(10, .bool (decide ((x0_0 < 2) ∨ (8 < x0_0))))]) [(1, _)] (fun y => G :: Fs) (fun y => []) [_] (fun y => []) [] (fun y => True) ⟨rfl, trivial⟩ [0] rfl [] rfl ?_ ?_
  · rintro _ _
    refine Cov.prune [(10, .bool (decide ((x0_0 < 2) ∨ (8 < x0_0)))), (1, _)] ⟨rfl, rfl, trivial⟩ ?_
    refine Cov.same (bl' := [_]) (sl' := []) (Fs' := G :: Fs) rfl rfl rfl ?_
    refine Cov.q .ro (.move rfl) rfl ?_
    refine Cov.cutR 5 (β := Unit) (fun y => [(16, .bool (decide (((x0_0 < 2) ∨ (8 < x0_0)) ∨ ((x0_1.length : Int) < 1))))]) [(1, _)] (fun y => G :: Fs) (fun y => []) [_] (fun y => []) [] (fun y => True) ⟨rfl, trivial⟩ [0] rfl [] rfl ?_ ?_
    · rintro _ _
      refine Cov.prune [(16, .bool (decide (((x0_0 < 2) ∨ (8 < x0_0)) ∨ ((x0_1.length : Int) < 1)))), (1, _)] ⟨rfl, rfl, trivial⟩ ?_
      refine Cov.same (bl' := [_]) (sl' := []) (Fs' := G :: Fs) rfl rfl rfl ?_
      refine Cov.q .ro (.move rfl) rfl ?_
      refine Cov.cutR 5 (β := Unit) (fun y => [(22, .bool (decide ((((x0_0 < 2) ∨ (8 < x0_0)) ∨ ((x0_1.length : Int) < 1)) ∨ (256 < (x0_1.length : Int)))))]) [(1, _)] (fun y => G :: Fs) (fun y => []) [_] (fun y => []) [] (fun y => True) ⟨rfl, trivial⟩ [0] rfl [] rfl ?_ ?_
      · rintro _ _
        refine Cov.prune [(22, .bool (decide ((((x0_0 < 2) ∨ (8 < x0_0)) ∨ ((x0_1.length : Int) < 1)) ∨ (256 < (x0_1.length : Int))))), (1, _)] ⟨rfl, rfl, trivial⟩ ?_
        refine Cov.same (bl' := [_]) (sl' := []) (Fs' := G :: Fs) rfl rfl rfl ?_
        refine Cov.q .ro (.move rfl) rfl ?_
        obtain ⟨u20, h21, r22⟩ := bind_some h; clear h
        refine Cov.cutR 5 (β := Unit) (fun y => [(28, .bool u20)]) [] (fun y => G :: Fs) (fun y => []) [_] (fun y => []) [] (fun y => True) trivial [0] rfl [] rfl ?_ ?_
        · rintro _ _
          refine Cov.prune [(28, .bool u20)] ⟨rfl, trivial⟩ ?_
          refine Cov.same (bl' := [_]) (sl' := []) (Fs' := G :: Fs) rfl rfl rfl ?_
          refine Cov.region_end ?_
          refine Cov.cond rfl (fun c25 => ?_) (fun c25 => ?_)
          · have r26 := ifT r22 c25; clear r22
            refine Cov.seq ?_
            refine Cov.region rfl ?_
            refine Cov.q .ro (.assign rfl) rfl ?_
            refine Cov.region_end ?_
            cases r26
            refine Cov.drop 1 0 [] _ rfl rfl ?_
            refine Cov.retS (c := ⟨19, none⟩) (.inr ⟨_, rfl⟩) [.tmp 2] [_] rfl Try.func19 Try.results19 ⟨RV.tmp rfl, trivial⟩ (fun _ h => List.mem_cons_of_mem _ h) ⟨rfl, rfl, rfl⟩
          · have r27 := ifBF r22 c25; clear r22
            refine Cov.skip ?_
            refine Cov.seq ?_
            refine Cov.region rfl ?_
            refine Cov.q .ro (.assign rfl) rfl ?_
            refine Cov.region_end ?_
            cases r27
            refine Cov.drop 1 0 [] _ rfl rfl ?_
            refine Cov.retS (c := ⟨19, none⟩) (.inr ⟨_, rfl⟩) [.tmp 2] [_] rfl Try.func19 Try.results19 ⟨RV.tmp rfl, trivial⟩ (fun _ h => List.mem_cons_of_mem _ h) ⟨rfl, rfl, rfl⟩
        · intro hb19
          refine Cov.split 23 rfl (fun c18 => ?_) (fun c18 => ?_)
          · have r28 := ifT h21 c18
            refine Cov.g_off rfl rfl rfl ?_
            refine Cov.g_off rfl rfl rfl ?_
            refine Cov.g_off rfl rfl rfl ?_
            refine Cov.g_off rfl rfl rfl ?_
            refine Cov.q .ro (.pick_t rfl rfl) rfl ?_
            refine Cov.prune _ ?_ (Cov.same rfl rfl rfl (hb19 () trivial))
            exact ⟨sval r28, trivial⟩
          · have r29 := ifF h21 c18
            refine Cov.g_on rfl ?_
            refine Cov.q .ro (.fieldAddr 1 rfl fl29_1 ty27.sz rfl) rfl ?_
            refine Cov.g_on rfl ?_
            refine Cov.q .ro (.load_own 0 rfl rfl ty27 rfl) rfl ?_
            refine Cov.g_on rfl ?_
            obtain ⟨u30, hu30, r31⟩ := bind_some r29; clear r29
            refine Cov.callS (b1 := []) (b2 := [_]) (s1 := []) [_] [] .ro rfl rfl Try.call36 rfl rfl (ref21_ascend_c (G := G) List.mem_cons_self s0_1 hu30) rfl (fun v33 bo so h32 => ?_)
            obtain ⟨rfl, rfl, rfl⟩ := h32
            refine Cov.same (bl' := [_]) (sl' := []) rfl rfl rfl ?_
            refine Cov.g_on rfl ?_
            refine Cov.q .ro (.not rfl) rfl ?_
            refine Cov.q .ro (.pick_f rfl rfl) rfl ?_
            refine Cov.prune _ ?_ (Cov.same rfl rfl rfl (hb19 () trivial))
            exact ⟨sval r31, trivial⟩
      · intro hb11
        refine Cov.split 17 rfl (fun c10 => ?_) (fun c10 => ?_)
        · refine Cov.g_off rfl rfl rfl ?_
          refine Cov.g_off rfl rfl rfl ?_
          refine Cov.g_off rfl rfl rfl ?_
          refine Cov.g_off rfl rfl rfl ?_
          refine Cov.q .ro (.pick_t rfl rfl) rfl ?_
          refine Cov.prune _ ?_ (Cov.same rfl rfl rfl (hb11 () trivial))
          exact ⟨dor_t c10, rfl, trivial⟩
        · refine Cov.g_on rfl ?_
          refine Cov.q .ro (.fieldAddr 1 rfl fl29_1 ty27.sz rfl) rfl ?_
          refine Cov.g_on rfl ?_
          refine Cov.q .ro (.load_own 0 rfl rfl ty27 rfl) rfl ?_
          refine Cov.g_on rfl ?_
          refine Cov.q .ro (.len_sl rfl rfl sl27) rfl ?_
          refine Cov.g_on rfl ?_
          refine Cov.q .ro (.gtr rfl rfl) rfl ?_
          refine Cov.q .ro (.pick_f rfl rfl) rfl ?_
          refine Cov.prune _ ?_ (Cov.same rfl rfl rfl (hb11 () trivial))
          exact ⟨dor_f c10, rfl, trivial⟩
    · intro hb7
      refine Cov.split 11 rfl (fun c6 => ?_) (fun c6 => ?_)
      · refine Cov.g_off rfl rfl rfl ?_
        refine Cov.g_off rfl rfl rfl ?_
        refine Cov.g_off rfl rfl rfl ?_
        refine Cov.g_off rfl rfl rfl ?_
        refine Cov.q .ro (.pick_t rfl rfl) rfl ?_
        refine Cov.prune _ ?_ (Cov.same rfl rfl rfl (hb7 () trivial))
        exact ⟨dor_t c6, rfl, trivial⟩
      · refine Cov.g_on rfl ?_
        refine Cov.q .ro (.fieldAddr 1 rfl fl29_1 ty27.sz rfl) rfl ?_
        refine Cov.g_on rfl ?_
        refine Cov.q .ro (.load_own 0 rfl rfl ty27 rfl) rfl ?_
        refine Cov.g_on rfl ?_
        refine Cov.q .ro (.len_sl rfl rfl sl27) rfl ?_
        refine Cov.g_on rfl ?_
        refine Cov.q .ro (.lss rfl rfl) rfl ?_
        refine Cov.q .ro (.pick_f rfl rfl) rfl ?_
        refine Cov.prune _ ?_ (Cov.same rfl rfl rfl (hb7 () trivial))
        exact ⟨dor_f c6, rfl, trivial⟩
  · intro hb3
    refine Cov.split 6 rfl (fun c2 => ?_) (fun c2 => ?_)
    · refine Cov.g_off rfl rfl rfl ?_
      refine Cov.g_off rfl rfl rfl ?_
      refine Cov.g_off rfl rfl rfl ?_
      refine Cov.q .ro (.pick_t rfl rfl) rfl ?_
      refine Cov.prune _ ?_ (Cov.same rfl rfl rfl (hb3 () trivial))
      exact ⟨dor_t c2, rfl, trivial⟩
    · refine Cov.g_on rfl ?_
      refine Cov.q .ro (.fieldAddr 0 rfl fl29_0 ty3.sz rfl) rfl ?_
      refine Cov.g_on rfl ?_
      refine Cov.q .ro (.load_own 0 rfl rfl ty3 rfl) rfl ?_
      refine Cov.g_on rfl ?_
      refine Cov.q .ro (.gtr rfl rfl) rfl ?_
      refine Cov.q .ro (.pick_f rfl rfl) rfl ?_
      refine Cov.prune _ ?_ (Cov.same rfl rfl rfl (hb3 () trivial))
      exact ⟨dor_f c2, rfl, trivial⟩

set_option maxHeartbeats 4000000 in
theorem ref21_Levels_c {Fs : List Hp} {G : Hp} {x0_0 : Int} {a0_1 : Option Addr} {k0_1 : Nat} {x0_1 : List ByteArray} {r : ((List (List ByteArray)) × Int)} (hG : G ∈ Fs) (s0_1 : SlR Rep.str G a0_1 k0_1 x0_1) (h : ref21_Levels (x0_0, x0_1) = some r) : RetW Try.prog 17 #[.agg #[.int .i64 x0_0, .slice a0_1 x0_1.length k0_1]] Fs [] [] (fun v bo so G => ∃ (oa0 : Option Addr) (ok0 : Nat) (oc0 : List Value), v = .tuple #[.slice oa0 r.1.length ok0, .int .i64 r.2] ∧ bo = [] ∧ so = [.s (.slice oa0 r.1.length ok0) 27 1 r.1.length oc0] ∧ OL (Rep.sl Rep.str) G oc0 r.1) := by
  unfold ref21_Levels at h
  try dsimp only at h
  refine RetW.of (vs := [_]) Try.func17 rfl Try.ntmps17 [(0, _)] ⟨rfl, trivial⟩ rfl hG fun w0 S0 hS0 B0 => ?_
  refine Cov.seq ?_
  refine Cov.region rfl ?_
  refine Cov.box [_, _] .ro rfl rfl rfl (fun b1 hb1 => ?_)
  refine Cov.q .ro (.assign rfl) rfl ?_
  refine Cov.q .ro (.assign rfl) rfl ?_
  refine Cov.region_end ?_
  refine Cov.seq ?_
  refine Cov.seq ?_
  refine Cov.region rfl ?_
  refine Cov.q .ro (.load_own_a 0 [_, _] rfl rfl ty29 rfl) rfl ?_
  obtain ⟨u2, hu2, r3⟩ := bind_some h; clear h
  refine Cov.callS (b1 := []) (b2 := [_]) (s1 := []) [_] [] .ro rfl rfl Try.call19 rfl rfl (ref21_Check_c (G := G) List.mem_cons_self s0_1 hu2) rfl (fun v5 bo so h4 => ?_)
  obtain ⟨rfl, rfl, rfl⟩ := h4
  refine Cov.same (bl' := [_]) (sl' := []) rfl rfl rfl ?_
  refine Cov.q .ro (.assign rfl) rfl ?_
  refine Cov.region_end ?_
  refine Cov.seq ?_
  refine Cov.region rfl ?_
  refine Cov.q .ro (.move rfl) rfl ?_
  refine Cov.q .ro (.neq rfl rfl) rfl ?_
  refine Cov.region_end ?_
  refine Cov.cond_dec rfl (fun c6 => ?_) (fun c6 => ?_)
  · have r7 := ifT r3 c6; clear r3
    refine Cov.seq ?_
    refine Cov.region rfl ?_
    refine Cov.q .ro (.move rfl) rfl ?_
    refine Cov.q .ro (.assign rfl) rfl ?_
    refine Cov.q .ro (.assign rfl) rfl ?_
    refine Cov.region_end ?_
    refine Cov.own_nil 27 1 ?_
    cases r7
    refine Cov.drop 1 0 [] _ rfl rfl ?_
    refine Cov.retW (c := ⟨17, none⟩) (.inr ⟨_, rfl⟩) [.tmp 2, .tmp 3] [_, _] rfl Try.func17 Try.results17 ⟨RV.tmp rfl, RV.tmp rfl, trivial⟩ (fun _ h => List.mem_cons_of_mem _ h) List.mem_cons_self B0 (by subst hS0; simp [blks]) (fun G' hg => ⟨none, 0, [], rfl, rfl, rfl, (OL.mono hg (OL.nil (Rp' := (Rep.sl Rep.str))))⟩)
  · have r9 := ifF r3 c6; clear r3
    refine Cov.skip ?_
    refine Cov.seq ?_
    refine Cov.region rfl ?_
    refine Cov.q .ro (.fieldAddr 1 rfl fl29_1 ty27.sz rfl) rfl ?_
    refine Cov.q .ro (.load_own 0 rfl rfl ty27 rfl) rfl ?_
    refine Cov.own_nil 9 1 ?_
    obtain ⟨u15, hu15, r16⟩ := bind_some r9; clear r9
    refine Cov.appR (Q := Rep.str) 0 .ro sl27 ty9 rfl rfl rfl rfl rfl (OL.nil (Rp' := Rep.str)) rfl rfl s0_1 rfl List.mem_cons_self hu15 rfl (fun a11 k12 cs13 o14 => ?_)
    refine Cov.q .ro (.assign rfl) rfl ?_
    refine Cov.region_end ?_
    refine Cov.seq ?_
    refine Cov.region rfl ?_
    refine Cov.q .ro (.move rfl) rfl ?_
    refine Cov.freezeR 0 rfl rfl o14 [] rfl B0 (fun G18 e19 B20 s21 => ?_)
    refine Cov.lit [_] [(0, _)] .ro sl36 ty27 rfl rfl rfl rfl rfl rfl (fun b23 hb23 => ?_)
    have o24 : OL (Rep.sl Rep.str) G18 [.slice a11 u15.length k12] ([u15] : List (List ByteArray)) := ((OL.cons rfl (Rep.slI s21) (OL.nil (Rp' := (Rep.sl Rep.str)))) :)
    refine Cov.reval 18 (n' := ([u15] : List (List ByteArray)).length) rfl rfl ?_
    refine Cov.q .ro (.assign rfl) rfl ?_
    refine Cov.region_end ?_
    refine Cov.prune [(1, _), (5, _), (6, _)] ⟨rfl, rfl, rfl, trivial⟩ ?_
    refine Cov.seq ?_
    refine Cov.block ?_
    refine Cov.loop2 (α := Nat × Hp × List ByteArray × Option Addr × Nat × List (List ByteArray) × Option Addr × Nat × List Value × Int) (fun y => [(5, .slice y.2.2.2.1 y.2.2.1.length y.2.2.2.2.1), (6, .slice y.2.2.2.2.2.2.1 y.2.2.2.2.2.1.length y.2.2.2.2.2.2.2.1)]) [(1, _)] (fun y => [y.2.1]) (fun y => [(b1, .cells #[.int .i64 y.2.2.2.2.2.2.2.2.2, .slice a0_1 x0_1.length k0_1] 29 (0, 0))]) [] (fun y => [.s (.slice y.2.2.2.2.2.2.1 y.2.2.2.2.2.1.length y.2.2.2.2.2.2.2.1) 27 1 y.2.2.2.2.2.1.length y.2.2.2.2.2.2.2.2.1]) [] (fun y => HpLe G18 y.2.1 ∧ Bd w0 S0 Fs y.2.1 ∧ SlR Rep.str y.2.1 y.2.2.2.1 y.2.2.2.2.1 y.2.2.1 ∧ OL (Rep.sl Rep.str) y.2.1 y.2.2.2.2.2.2.2.2.1 y.2.2.2.2.2.1 ∧ ref21_Levels_L3 y.1 y.2.2.1 y.2.2.2.2.2.1 y.2.2.2.2.2.2.2.2.2 = some r) (fun y => y.1) (big, G18, u15, a11, k12, ([u15] : List (List ByteArray)), (some ⟨b23, 0, none⟩), 1, [.slice a11 u15.length k12], x0_0) ⟨(HpLe.refl _), B20, s21, o24, r16⟩ ⟨rfl, rfl, rfl, trivial⟩ rfl rfl rfl (fun y hI hb248 => ?_)
    obtain ⟨n230, G232, v236, a237, k238, v240, a241, k242, cs243, v246⟩ := y
    obtain ⟨e233, B234, s239, o244, r247⟩ := hI
    try dsimp only at e233 B234 s239 o244 r247
    refine Cov.prune [(5, .slice a237 v236.length k238), (6, .slice a241 v240.length k242), (1, _)] ⟨rfl, rfl, rfl, trivial⟩ ?_
    refine Cov.same (bl' := [(b1, .cells #[.int .i64 v246, .slice a0_1 x0_1.length k0_1] 29 (0, 0))]) (sl' := [.s (.slice a241 v240.length k242) 27 1 v240.length cs243]) (Fs' := G232 :: Fs) rfl rfl rfl ?_
    obtain ⟨m251, rfl⟩ : ∃ m, n230 = m + 1 := by cases n230 with | zero => exact absurd (show (none : Option _) = some _ from r247) (by simp) | succ m => exact ⟨m, rfl⟩
    have r250 : ref21_Levels_B3 (ref21_Levels_L3 m251) v236 v240 v246 = some r := r247; clear r247; unfold ref21_Levels_B3 at r250; try dsimp only at r250
    refine Cov.seq ?_
    refine Cov.seq ?_
    refine Cov.region rfl ?_
    refine Cov.q .ro (.move rfl) rfl ?_
    refine Cov.q .ro (.len_sl rfl rfl sl27) rfl ?_
    refine Cov.q .ro (.fieldAddr 0 rfl fl29_0 ty3.sz rfl) rfl ?_
    refine Cov.q .ro (.load_own 0 rfl rfl ty3 rfl) rfl ?_
    refine Cov.q .ro (.gtr rfl rfl) rfl ?_
    refine Cov.region_end ?_
    refine Cov.cond_dec rfl (fun c252 => ?_) (fun c252 => ?_)
    · have r253 := ifT r250 c252; clear r250
      refine Cov.skip ?_
      refine Cov.block ?_
      refine Cov.seq ?_
      refine Cov.region rfl ?_
      refine Cov.q .ro (.assign rfl) rfl ?_
      refine Cov.region_end ?_
      refine Cov.seq ?_
      refine Cov.seq ?_
      refine Cov.region rfl ?_
      refine Cov.q .ro (.assign rfl) rfl ?_
      refine Cov.region_end ?_
      refine Cov.cutB (β := List ByteArray × Option Addr × Nat × List Value × Int) (fun y => [(7, .slice y.2.1 y.1.length y.2.2.1)]) [(6, _), (1, _)] (fun y => G232 :: Fs) (fun y => [(b1, .cells #[.int .i64 y.2.2.2.2, .slice a0_1 x0_1.length k0_1] 29 (0, 0))]) [] (fun y => [.s (.slice y.2.1 y.1.length y.2.2.1) 9 1 y.1.length y.2.2.2.1]) [_] (fun y => OL Rep.str G232 y.2.2.2.1 y.1 ∧ (ref21_Levels_J1 (ref21_Levels_L3 m251) v240) y.1 y.2.2.2.2 = some r) ⟨rfl, rfl, trivial⟩ [] rfl [0] rfl ?_ ?_
      · intro y hI
        obtain ⟨v336, a337, k338, cs339, v342⟩ := y
        obtain ⟨o340, r344⟩ := hI
        try dsimp only at o340 r344
        refine Cov.prune [(7, .slice a337 v336.length k338), (6, _), (1, _)] ⟨rfl, rfl, rfl, trivial⟩ ?_
        refine Cov.same (bl' := [(b1, .cells #[.int .i64 v342, .slice a0_1 x0_1.length k0_1] 29 (0, 0))]) (sl' := [.s (.slice a337 v336.length k338) 9 1 v336.length cs339, _]) (Fs' := G232 :: Fs) rfl rfl rfl ?_
        unfold ref21_Levels_J1 at r344
        try dsimp only at r344
        refine Cov.seq ?_
        refine Cov.region rfl ?_
        refine Cov.q .ro (.move rfl) rfl ?_
        refine Cov.q .ro (.move rfl) rfl ?_
        refine Cov.freezeR 0 rfl rfl o340 [_] rfl B234 (fun G347 e348 B349 s350 => ?_)
        refine Cov.lit [_] [(0, _)] .ro sl36 ty27 rfl rfl rfl rfl rfl rfl (fun b352 hb352 => ?_)
        have o353 : OL (Rep.sl Rep.str) G347 [.slice a337 v336.length k338] ([v336] : List (List ByteArray)) := ((OL.cons rfl (Rep.slI s350) (OL.nil (Rp' := (Rep.sl Rep.str)))) :)
        refine Cov.reval 41 (n' := ([v336] : List (List ByteArray)).length) rfl rfl ?_
        obtain ⟨u359, hu359, r360⟩ := bind_some r344; clear r344
        refine Cov.appO (Q := (Rep.sl Rep.str)) 0 .ro sl36 ty27 rfl rfl rfl rfl rfl rfl (OL.mono e348 o244) o353 rfl rfl rfl B349 hu359 rfl (fun a355 k356 cs357 o358 => ?_)
        refine Cov.q .ro (.assign rfl) rfl ?_
        refine Cov.region_end ?_
        refine Cov.region rfl ?_
        refine Cov.q .ro (.move rfl) rfl ?_
        refine Cov.q .ro (.assign rfl) rfl ?_
        refine Cov.region_end ?_
        refine Cov.inBlock ?_
        refine Cov.prune _ ?_ (Cov.same rfl rfl rfl (hb248 (m251, G347, v336, a337, k338, u359, a355, k356, cs357, v342) ⟨(HpLe.trans e233 e348), B349, s350, o358, r360⟩ (Nat.lt_succ_self _)))
        exact ⟨rfl, rfl, rfl, trivial⟩
      · intro hb362
        refine Cov.block ?_
        refine Cov.own_nil 9 1 ?_
        refine Cov.loop2 (α := Nat × List ByteArray × Option Addr × Nat × List Value × Int) (fun y => [(7, .slice y.2.2.1 y.2.1.length y.2.2.2.1), (8, .int .i64 y.2.2.2.2.2)]) [(5, _), (6, _), (1, _)] (fun y => []) (fun y => []) [_] (fun y => [.s (.slice y.2.2.1 y.2.1.length y.2.2.2.1) 9 1 y.2.1.length y.2.2.2.2.1]) [_] (fun y => OL Rep.str G232 y.2.2.2.2.1 y.2.1 ∧ ref21_Levels_L2 (ref21_Levels_J1 (ref21_Levels_L3 m251) v240) v236 v246 y.1 y.2.1 y.2.2.2.2.2 = some r) (fun y => y.1) (big, ([] : List ByteArray), none, 0, [], 0) ⟨(OL.nil (Rp' := Rep.str)), r253⟩ ⟨rfl, rfl, rfl, rfl, rfl, trivial⟩ rfl rfl rfl (fun y hI hb421 => ?_)
        obtain ⟨n411, v413, a414, k415, cs416, v419⟩ := y
        obtain ⟨o417, r420⟩ := hI
        try dsimp only at o417 r420
        refine Cov.prune [(7, .slice a414 v413.length k415), (8, .int .i64 v419), (5, _), (6, _), (1, _)] ⟨rfl, rfl, rfl, rfl, rfl, trivial⟩ ?_
        refine Cov.same (bl' := [_]) (sl' := [.s (.slice a414 v413.length k415) 9 1 v413.length cs416, _]) (Fs' := G232 :: Fs) rfl rfl rfl ?_
        obtain ⟨m427, rfl⟩ : ∃ m, n411 = m + 1 := by cases n411 with | zero => exact absurd (show (none : Option _) = some _ from r420) (by simp) | succ m => exact ⟨m, rfl⟩
        have r426 : ref21_Levels_B2 (ref21_Levels_J1 (ref21_Levels_L3 m251) v240) v236 v246 (ref21_Levels_L2 (ref21_Levels_J1 (ref21_Levels_L3 m251) v240) v236 v246 m427) v413 v419 = some r := r420; clear r420; unfold ref21_Levels_B2 at r426; try dsimp only at r426
        refine Cov.seq ?_
        refine Cov.seq ?_
        refine Cov.region rfl ?_
        refine Cov.q .ro (.move rfl) rfl ?_
        refine Cov.q .ro (.move rfl) rfl ?_
        refine Cov.q .ro (.len_sl rfl rfl sl27) rfl ?_
        refine Cov.q .ro (.lss rfl rfl) rfl ?_
        refine Cov.region_end ?_
        refine Cov.cond_dec rfl (fun c428 => ?_) (fun c428 => ?_)
        · have r429 := ifT r426 c428; clear r426
          refine Cov.skip ?_
          refine Cov.seq ?_
          refine Cov.block ?_
          refine Cov.region rfl ?_
          refine Cov.q .ro (.move rfl) rfl ?_
          refine Cov.q .ro (.move rfl) rfl ?_
          refine Cov.q .ro (.move rfl) rfl ?_
          obtain ⟨u430, hu430, r431⟩ := bind_some r429; clear r429
          obtain ⟨c432, p433, h434⟩ := SlR.get s239 hu430
          obtain rfl := h434
          refine Cov.q .ro (.idxR s239 rfl rfl hu430 sl27 ty9.sz) rfl ?_
          refine Cov.q .ro (.load_rp p433 List.mem_cons_self rfl ty9 rfl) rfl ?_
          refine Cov.lit [_] [(0, _)] .ro sl27 ty9 rfl rfl rfl rfl rfl rfl (fun b435 hb435 => ?_)
          have o436 : OL Rep.str G232 [.string u430] ([u430] : List ByteArray) := ((OL.cons rfl (Rep.strI u430) (OL.nil (Rp' := Rep.str))) :)
          refine Cov.reval 37 (n' := ([u430] : List ByteArray).length) rfl rfl ?_
          obtain ⟨u442, hu442, r443⟩ := bind_some r431; clear r431
          refine Cov.appO (Q := Rep.str) 0 .ro sl27 ty9 rfl rfl rfl rfl rfl rfl o417 o436 rfl rfl rfl B234 hu442 rfl (fun a438 k439 cs440 o441 => ?_)
          refine Cov.q .ro (.assign rfl) rfl ?_
          refine Cov.region_end ?_
          refine Cov.inBlock ?_
          refine Cov.region rfl ?_
          refine Cov.q .ro (.move rfl) rfl ?_
          refine Cov.q .ro (.fieldAddr 0 rfl fl29_0 ty3.sz rfl) rfl ?_
          refine Cov.q .ro (.load_own 0 rfl rfl ty3 rfl) rfl ?_
          refine Cov.q .ro (.addw rfl rfl) rfl ?_
          refine Cov.q .ro (.assign rfl) rfl ?_
          refine Cov.region_end ?_
          refine Cov.prune [(7, _), (8, _), (5, _), (6, _), (1, _)] ⟨rfl, rfl, rfl, rfl, rfl, trivial⟩ ?_
          refine Cov.prune _ ?_ (Cov.same rfl rfl rfl (hb421 (m427, u442, a438, k439, cs440, (w64 (v419 + v246))) ⟨o441, r443⟩ (Nat.lt_succ_self _)))
          exact ⟨rfl, rfl, rfl, rfl, rfl, trivial⟩
        · have r445 := ifF r426 c428; clear r426
          refine Cov.exit rfl ?_
          refine Cov.prune _ ?_ (Cov.same rfl rfl rfl (hb362 (v413, a414, k415, cs416, v246) ⟨o417, r445⟩))
          exact ⟨rfl, rfl, rfl, trivial⟩
    · have r446 := ifF r250 c252; clear r250
      refine Cov.exit rfl ?_
      refine Cov.seq ?_
      refine Cov.region rfl ?_
      refine Cov.q .ro (.move rfl) rfl ?_
      refine Cov.q .ro (.assign rfl) rfl ?_
      refine Cov.q .ro (.assign rfl) rfl ?_
      refine Cov.region_end ?_
      cases r446
      refine Cov.drop 1 0 [] _ rfl rfl ?_
      refine Cov.retW (c := ⟨17, none⟩) (.inr ⟨_, rfl⟩) [.tmp 2, .tmp 3] [_, _] rfl Try.func17 Try.results17 ⟨RV.tmp rfl, RV.tmp rfl, trivial⟩ (fun _ h => List.mem_cons_of_mem _ h) List.mem_cons_self B234 (by subst hS0; simp [blks]) (fun G' hg => ⟨a241, k242, cs243, rfl, rfl, rfl, (OL.mono hg o244)⟩)

set_option maxHeartbeats 4000000 in
theorem ref21_last_c {Fs : List Hp} {G : Hp} {a0 : Option Addr} {k0 : Nat} {x0 : List ByteArray} {x1 : ByteArray} {r : Int} (hG : G ∈ Fs) (s0 : SlR Rep.str G a0 k0 x0) (h : ref21_last x0 x1 = some r) : RetS Try.prog 40 #[.slice a0 x0.length k0, .string x1] Fs [] [] (fun v bo so => v = .int .i64 r ∧ bo = [] ∧ so = []) := by
  unfold ref21_last at h
  try dsimp only at h
  refine RetS.of (vs := [_, _]) Try.func40 rfl Try.ntmps40 [(0, _), (1, _)] ⟨rfl, rfl, trivial⟩ rfl hG fun w0 S0 hS0 B0 => ?_
  refine Cov.seq ?_
  refine Cov.region rfl ?_
  refine Cov.q .ro (.assign rfl) rfl ?_
  refine Cov.region_end ?_
  refine Cov.seq ?_
  refine Cov.region rfl ?_
  refine Cov.q .ro (.assign rfl) rfl ?_
  refine Cov.region_end ?_
  refine Cov.seq ?_
  refine Cov.seq ?_
  refine Cov.region rfl ?_
  refine Cov.q .ro (.move rfl) rfl ?_
  refine Cov.q .ro (.len_sl rfl rfl sl27) rfl ?_
  refine Cov.q .ro (.move rfl) rfl ?_
  refine Cov.region_end ?_
  refine Cov.block ?_
  refine Cov.loop2 (α := Nat × List ByteArray × Int) (fun y => [(5, .int .i64 y.2.2), (10, .int .i64 (y.1 : Int))]) [(1, _), (8, _), (9, _)] (fun y => []) (fun y => []) [] (fun y => []) [] (fun y => List.drop y.1 x0 = y.2.1 ∧ ref21_last_L1 x1 y.2.1 y.1 y.2.2 = some r) (fun y => y.2.1.length) (0, x0, 0) ⟨rfl, h⟩ ⟨rfl, rfl, rfl, rfl, rfl, trivial⟩ rfl rfl rfl (fun y hI hb21 => ?_)
  obtain ⟨i16, w17, v19⟩ := y
  obtain ⟨g18, r20⟩ := hI
  try dsimp only at g18 r20
  refine Cov.prune [(5, .int .i64 v19), (10, .int .i64 (i16 : Int)), (1, _), (8, _), (9, _)] ⟨rfl, rfl, rfl, rfl, rfl, trivial⟩ ?_
  refine Cov.same (bl' := []) (sl' := []) (Fs' := G :: Fs) rfl rfl rfl ?_
  cases w17 with
  | nil =>
    rw [ref21_last_L1] at r20; try dsimp only at r20
    refine Cov.seq ?_
    refine Cov.region rfl ?_
    refine Cov.q .ro (.lss rfl rfl) rfl ?_
    refine Cov.region_end ?_
    refine Cov.seq ?_
    refine Cov.cond_dec rfl (fun c => absurd c (drop_nil g18)) (fun _ => ?_)
    refine Cov.exit rfl ?_
    refine Cov.seq ?_
    refine Cov.region rfl ?_
    refine Cov.q .ro (.move rfl) rfl ?_
    refine Cov.q .ro (.assign rfl) rfl ?_
    refine Cov.region_end ?_
    cases r20
    refine Cov.retS (c := ⟨40, none⟩) (.inr ⟨_, rfl⟩) [.tmp 4] [_] rfl Try.func40 Try.results40 ⟨RV.tmp rfl, trivial⟩ (fun _ h => List.mem_cons_of_mem _ h) ⟨rfl, rfl, rfl⟩
  | cons x26 xs27 =>
    have r25 : ref21_last_B1 x1 (ref21_last_L1 x1 xs27 (i16 + 1)) x26 i16 v19 = some r := r20; clear r20; unfold ref21_last_B1 at r25; try dsimp only at r25
    refine Cov.seq ?_
    refine Cov.region rfl ?_
    refine Cov.q .ro (.lss rfl rfl) rfl ?_
    refine Cov.region_end ?_
    refine Cov.seq ?_
    refine Cov.cond_dec rfl (fun _ => ?_) (fun c => absurd (drop_lt g18) c)
    refine Cov.skip ?_
    refine Cov.seq ?_
    refine Cov.block ?_
    refine Cov.seq ?_
    refine Cov.region rfl ?_
    refine Cov.q .ro (.move rfl) rfl ?_
    obtain ⟨c28, p29, h30⟩ := SlR.get s0 (drop_idx g18)
    obtain rfl := h30
    refine Cov.q .ro (.idxR s0 rfl rfl (drop_idx g18) sl27 ty9.sz) rfl ?_
    refine Cov.q .ro (.load_rp p29 List.mem_cons_self rfl ty9 rfl) rfl ?_
    refine Cov.q .ro (.assign rfl) rfl ?_
    refine Cov.q .ro (.assign rfl) rfl ?_
    refine Cov.region_end ?_
    refine Cov.seq ?_
    refine Cov.region rfl ?_
    refine Cov.q .ro (.move rfl) rfl ?_
    refine Cov.q .ro (.move rfl) rfl ?_
    refine Cov.q .ro (.leq_d rfl rfl) rfl ?_
    refine Cov.region_end ?_
    refine Cov.cond_dec rfl (fun c31 => ?_) (fun c31 => ?_)
    · have r32 := ifT r25 c31; clear r25
      refine Cov.region rfl ?_
      refine Cov.q .ro (.move rfl) rfl ?_
      refine Cov.q .ro (.assign rfl) rfl ?_
      refine Cov.region_end ?_
      refine Cov.inBlock ?_
      refine Cov.region rfl ?_
      refine Cov.q .ro (.addw rfl rfl) rfl ?_
      refine Cov.q .ro (.move rfl) rfl ?_
      refine Cov.region_end ?_
      refine Cov.prune _ ?_ (Cov.same rfl rfl rfl (hb21 ((i16 + 1), xs27, (i16 : Int)) ⟨(drop_succ g18), r32⟩ (Nat.lt_succ_self _)))
      exact ⟨rfl, (congrArg (fun z => some (Value.int .i64 z)) (idx_wrap (SlR.len s0) g18)), rfl, rfl, rfl, trivial⟩
    · have r33 := ifF r25 c31; clear r25
      refine Cov.skip ?_
      refine Cov.inBlock ?_
      refine Cov.region rfl ?_
      refine Cov.q .ro (.addw rfl rfl) rfl ?_
      refine Cov.q .ro (.move rfl) rfl ?_
      refine Cov.region_end ?_
      refine Cov.prune _ ?_ (Cov.same rfl rfl rfl (hb21 ((i16 + 1), xs27, v19) ⟨(drop_succ g18), r33⟩ (Nat.lt_succ_self _)))
      exact ⟨rfl, (congrArg (fun z => some (Value.int .i64 z)) (idx_wrap (SlR.len s0) g18)), rfl, rfl, rfl, trivial⟩

set_option maxHeartbeats 4000000 in
theorem ref21_Probe_c {Fs : List Hp} {G : Hp} {x0_0 : Int} {a0_1 : Option Addr} {k0_1 : Nat} {x0_1 : List ByteArray} {x1 : ByteArray} {r : ((List Int) × Int × Bool × Int)} (hG : G ∈ Fs) (s0_1 : SlR Rep.str G a0_1 k0_1 x0_1) (h : ref21_Probe (x0_0, x0_1) x1 = some r) : RetS Try.prog 21 #[.agg #[.int .i64 x0_0, .slice a0_1 x0_1.length k0_1], .string x1] Fs [] [] (fun v bo so => ∃ (oa0 : Option Addr) (ok0 : Nat) (oc0 : List Value), v = .tuple #[.slice oa0 r.1.length ok0, .int .i64 r.2.1, .bool r.2.2.1, .int .i64 r.2.2.2] ∧ bo = [] ∧ so = [.s (.slice oa0 r.1.length ok0) 3 1 r.1.length oc0] ∧ OL (Rep.int .i64) G oc0 r.1) := by
  unfold ref21_Probe at h
  try dsimp only at h
  refine RetS.of (vs := [_, _]) Try.func21 rfl Try.ntmps21 [(0, _), (1, _)] ⟨rfl, rfl, trivial⟩ rfl hG fun w0 S0 hS0 B0 => ?_
  refine Cov.seq ?_
  refine Cov.region rfl ?_
  refine Cov.box [_, _] .ro rfl rfl rfl (fun b1 hb1 => ?_)
  refine Cov.q .ro (.assign rfl) rfl ?_
  refine Cov.q .ro (.assign rfl) rfl ?_
  refine Cov.q .ro (.assign rfl) rfl ?_
  refine Cov.q .ro (.assign rfl) rfl ?_
  refine Cov.region_end ?_
  refine Cov.seq ?_
  refine Cov.region rfl ?_
  refine Cov.q .ro (.load_own_a 0 [_, _] rfl rfl ty29 rfl) rfl ?_
  obtain ⟨u2, hu2, r3⟩ := bind_some h; clear h
  refine Cov.callW (b1 := []) (b2 := [_]) (s1 := []) [_] [] .ro rfl rfl Try.call17 rfl rfl (ref21_Levels_c (G := G) List.mem_cons_self s0_1 hu2) rfl B0 (fun v5 bo so G6 e7 B8 h4 => ?_)
  obtain ⟨a11, k12, cs13, rfl, rfl, rfl, o14⟩ := h4
  refine Cov.same (bl' := [_]) (sl' := [_]) rfl rfl rfl ?_
  refine Cov.q .ro (.move rfl) rfl ?_
  refine Cov.q .ro (.extract rfl rfl) rfl ?_
  refine Cov.q .ro (.extract rfl rfl) rfl ?_
  refine Cov.q .ro (.assign rfl) rfl ?_
  refine Cov.q .ro (.assign rfl) rfl ?_
  refine Cov.region_end ?_
  refine Cov.seq ?_
  refine Cov.seq ?_
  refine Cov.region rfl ?_
  refine Cov.q .ro (.move rfl) rfl ?_
  refine Cov.q .ro (.neq rfl rfl) rfl ?_
  refine Cov.region_end ?_
  refine Cov.cond_dec rfl (fun c15 => ?_) (fun c15 => ?_)
  · have r16 := ifT r3 c15; clear r3
    refine Cov.seq ?_
    refine Cov.region rfl ?_
    refine Cov.q .ro (.move rfl) rfl ?_
    refine Cov.q .ro (.assign rfl) rfl ?_
    refine Cov.q .ro (.assign rfl) rfl ?_
    refine Cov.q .ro (.assign rfl) rfl ?_
    refine Cov.q .ro (.assign rfl) rfl ?_
    refine Cov.region_end ?_
    refine Cov.prune [(4, _), (5, _), (6, _), (7, _)] ⟨rfl, rfl, rfl, rfl, trivial⟩ ?_
    refine Cov.own_nil 3 1 ?_
    cases r16
    refine Cov.drop 1 0 [] _ rfl rfl ?_
    refine Cov.pullS 1 rfl [_, _] rfl ?_
    refine Cov.drop 0 1 _ [_] rfl rfl ?_
    refine Cov.retS (c := ⟨21, none⟩) (.inr ⟨_, rfl⟩) [.tmp 4, .tmp 5, .tmp 6, .tmp 7] [_, _, _, _] rfl Try.func21 Try.results21 ⟨RV.tmp rfl, RV.tmp rfl, RV.tmp rfl, RV.tmp rfl, trivial⟩ (fun _ h => List.mem_cons_of_mem _ h) ⟨none, 0, [], rfl, rfl, rfl, (OL.nil (Rp' := (Rep.int .i64)))⟩
  · have r18 := ifF r3 c15; clear r3
    refine Cov.skip ?_
    refine Cov.seq ?_
    refine Cov.seq ?_
    refine Cov.region rfl ?_
    refine Cov.q .ro (.move rfl) rfl ?_
    obtain ⟨u19, hu19, r20⟩ := bind_some r18; clear r18
    refine Cov.callS (b1 := []) (b2 := [_]) (s1 := []) [_] [] .ro rfl rfl Try.call39 rfl rfl (ref20_Key_c (G := G6) List.mem_cons_self  hu19) rfl (fun v22 bo so h21 => ?_)
    obtain ⟨rfl, rfl, rfl⟩ := h21
    refine Cov.same (bl' := [_]) (sl' := [_]) rfl rfl rfl ?_
    refine Cov.q .ro (.not rfl) rfl ?_
    refine Cov.region_end ?_
    refine Cov.prune [(1, _), (2, _), (8, _), (24, _)] ⟨rfl, rfl, rfl, rfl, trivial⟩ ?_
    refine Cov.cond rfl (fun c23 => ?_) (fun c23 => ?_)
    · have r24 := ifT r20 c23; clear r20
      refine Cov.seq ?_
      refine Cov.region rfl ?_
      refine Cov.q .ro (.assign rfl) rfl ?_
      refine Cov.q .ro (.assign rfl) rfl ?_
      refine Cov.q .ro (.assign rfl) rfl ?_
      refine Cov.q .ro (.assign rfl) rfl ?_
      refine Cov.region_end ?_
      refine Cov.own_nil 3 1 ?_
      cases r24
      refine Cov.drop 1 0 [] _ rfl rfl ?_
      refine Cov.pullS 1 rfl [_, _] rfl ?_
      refine Cov.drop 0 1 _ [_] rfl rfl ?_
      refine Cov.retS (c := ⟨21, none⟩) (.inr ⟨_, rfl⟩) [.tmp 4, .tmp 5, .tmp 6, .tmp 7] [_, _, _, _] rfl Try.func21 Try.results21 ⟨RV.tmp rfl, RV.tmp rfl, RV.tmp rfl, RV.tmp rfl, trivial⟩ (fun _ h => List.mem_cons_of_mem _ h) ⟨none, 0, [], rfl, rfl, rfl, (OL.nil (Rp' := (Rep.int .i64)))⟩
    · have r26 := ifBF r20 c23; clear r20
      refine Cov.skip ?_
      refine Cov.seq ?_
      refine Cov.region rfl ?_
      refine Cov.q .ro (.assign rfl) rfl ?_
      refine Cov.region_end ?_
      refine Cov.seq ?_
      refine Cov.region rfl ?_
      refine Cov.q .ro (.assign rfl) rfl ?_
      refine Cov.region_end ?_
      refine Cov.seq ?_
      refine Cov.seq ?_
      refine Cov.region rfl ?_
      refine Cov.q .ro (.move rfl) rfl ?_
      refine Cov.q .ro (.len_sl rfl rfl sl36) rfl ?_
      refine Cov.q .ro (.subw rfl rfl) rfl ?_
      refine Cov.q .ro (.assign rfl) rfl ?_
      refine Cov.region_end ?_
      refine Cov.cutB (β := List Int × Option Addr × Nat × List Value × Int × Int) (fun y => [(10, .slice y.2.1 y.1.length y.2.2.1), (11, .int .i64 y.2.2.2.2.1)]) [(1, _), (2, _)] (fun y => G6 :: Fs) (fun y => [(b1, .cells #[.int .i64 y.2.2.2.2.2, .slice a0_1 x0_1.length k0_1] 29 (0, 0))]) [] (fun y => [.s (.slice y.2.1 y.1.length y.2.2.1) 3 1 y.1.length y.2.2.2.1]) [_] (fun y => OL (Rep.int .i64) G6 y.2.2.2.1 y.1 ∧ (ref21_Probe_J1 x1 x0_1) y.1 y.2.2.2.2.1 y.2.2.2.2.2 = some r) ⟨rfl, rfl, trivial⟩ [] rfl [0] rfl ?_ ?_
      · intro y hI
        obtain ⟨v151, a152, k153, cs154, v157, v158⟩ := y
        obtain ⟨o155, r160⟩ := hI
        try dsimp only at o155 r160
        refine Cov.prune [(10, .slice a152 v151.length k153), (11, .int .i64 v157), (1, _), (2, _)] ⟨rfl, rfl, rfl, rfl, trivial⟩ ?_
        refine Cov.same (bl' := [(b1, .cells #[.int .i64 v158, .slice a0_1 x0_1.length k0_1] 29 (0, 0))]) (sl' := [.s (.slice a152 v151.length k153) 3 1 v151.length cs154, _]) (Fs' := G6 :: Fs) rfl rfl rfl ?_
        unfold ref21_Probe_J1 at r160
        try dsimp only at r160
        refine Cov.seq ?_
        refine Cov.drawL (.q 0 (.q 1 (.q 2 (.q 3 (.q 4 (.q 5 (.q 6 (.q 7 (.q 8 (.q 9 (.q 10 (.q 11 (.q 12 .nil))))))))))))) [_] (by kernel_rfl) (by kernel_rfl) (pick_mem [0] rfl) ?_
        refine Cov.dq (.move rfl) rfl ?_
        refine Cov.dq (.move rfl) rfl ?_
        refine Cov.dq (.fieldAddr 1 rfl fl29_1 ty27.sz rfl) rfl ?_
        refine Cov.dq (.load_own 0 rfl rfl ty27 rfl) rfl ?_
        refine Cov.dq (.move rfl) rfl ?_
        obtain ⟨u164, hu164, r165⟩ := bind_some r160; clear r160
        obtain ⟨c166, p167, h168⟩ := SlR.get (SlR.mono e7 s0_1) hu164
        obtain rfl := h168
        refine Cov.dq (.idxR (SlR.mono e7 s0_1) rfl rfl hu164 sl27 ty9.sz) rfl ?_
        refine Cov.dq (.load_rp p167 List.mem_cons_self rfl ty9 rfl) rfl ?_
        refine Cov.dq (.move rfl) rfl ?_
        refine Cov.dq (.eql_s rfl rfl) rfl ?_
        refine Cov.dq (.assign rfl) rfl ?_
        refine Cov.dq (.assign rfl) rfl ?_
        refine Cov.dq (.assign rfl) rfl ?_
        refine Cov.dq (.assign rfl) rfl ?_
        refine Cov.draw_end ?_
        refine Cov.prune [(4, _), (5, _), (6, _), (7, _)] ⟨rfl, rfl, rfl, rfl, trivial⟩ ?_
        cases r165
        refine Cov.drop 1 0 [] _ rfl rfl ?_
        refine Cov.pullS 1 rfl [_, _] rfl ?_
        refine Cov.drop 0 1 _ [_] rfl rfl ?_
        refine Cov.retS (c := ⟨21, none⟩) (.inr ⟨_, rfl⟩) [.tmp 4, .tmp 5, .tmp 6, .tmp 7] [_, _, _, _] rfl Try.func21 Try.results21 ⟨RV.tmp rfl, RV.tmp rfl, RV.tmp rfl, RV.tmp rfl, trivial⟩ (fun _ h => List.mem_cons_of_mem _ h) ⟨a152, k153, cs154, rfl, rfl, rfl, o155⟩
      · intro hb169
        refine Cov.block ?_
        refine Cov.own_nil 3 1 ?_
        refine Cov.loop2 (α := Nat × List Int × Option Addr × Nat × List Value × Int × Int) (fun y => [(10, .slice y.2.2.1 y.2.1.length y.2.2.2.1), (11, .int .i64 y.2.2.2.2.2.1), (12, .int .i64 y.2.2.2.2.2.2)]) [(1, _), (2, _), (8, _)] (fun y => []) (fun y => []) [_] (fun y => [.s (.slice y.2.2.1 y.2.1.length y.2.2.2.1) 3 1 y.2.1.length y.2.2.2.2.1]) [_] (fun y => OL (Rep.int .i64) G6 y.2.2.2.2.1 y.2.1 ∧ ref21_Probe_L2 (ref21_Probe_J1 x1 x0_1) x1 x0_0 u2.1 y.1 y.2.1 y.2.2.2.2.2.1 y.2.2.2.2.2.2 = some r) (fun y => y.1) (big, ([] : List Int), none, 0, [], 0, (w64 ((u2.1.length : Int) - 1))) ⟨(OL.nil (Rp' := (Rep.int .i64))), r26⟩ ⟨rfl, rfl, rfl, rfl, rfl, rfl, trivial⟩ rfl rfl rfl (fun y hI hb257 => ?_)
        obtain ⟨n246, v248, a249, k250, cs251, v254, v255⟩ := y
        obtain ⟨o252, r256⟩ := hI
        try dsimp only at o252 r256
        refine Cov.prune [(10, .slice a249 v248.length k250), (11, .int .i64 v254), (12, .int .i64 v255), (1, _), (2, _), (8, _)] ⟨rfl, rfl, rfl, rfl, rfl, rfl, trivial⟩ ?_
        refine Cov.same (bl' := [_]) (sl' := [.s (.slice a249 v248.length k250) 3 1 v248.length cs251, _]) (Fs' := G6 :: Fs) rfl rfl rfl ?_
        obtain ⟨m263, rfl⟩ : ∃ m, n246 = m + 1 := by cases n246 with | zero => exact absurd (show (none : Option _) = some _ from r256) (by simp) | succ m => exact ⟨m, rfl⟩
        have r262 : ref21_Probe_B2 (ref21_Probe_J1 x1 x0_1) x1 x0_0 u2.1 (ref21_Probe_L2 (ref21_Probe_J1 x1 x0_1) x1 x0_0 u2.1 m263) v248 v254 v255 = some r := r256; clear r256; unfold ref21_Probe_B2 at r262; try dsimp only at r262
        refine Cov.seq ?_
        refine Cov.seq ?_
        refine Cov.region rfl ?_
        refine Cov.q .ro (.move rfl) rfl ?_
        refine Cov.q .ro (.geq rfl rfl) rfl ?_
        refine Cov.region_end ?_
        refine Cov.cond_dec rfl (fun c264 => ?_) (fun c264 => ?_)
        · have r265 := ifT r262 c264; clear r262
          refine Cov.skip ?_
          refine Cov.seq ?_
          refine Cov.block ?_
          refine Cov.seq ?_
          refine Cov.region rfl ?_
          refine Cov.q .ro (.move rfl) rfl ?_
          refine Cov.q .ro (.move rfl) rfl ?_
          refine Cov.lit [_] [(0, _)] .ro sl22 ty3 rfl rfl rfl rfl rfl rfl (fun b266 hb266 => ?_)
          have o267 : OL (Rep.int .i64) G6 [.int .i64 v254] ([v254] : List Int) := ((OL.cons rfl (Rep.intI .i64 v254) (OL.nil (Rp' := (Rep.int .i64)))) :)
          refine Cov.reval 34 (n' := ([v254] : List Int).length) rfl rfl ?_
          obtain ⟨u273, hu273, r274⟩ := bind_some r265; clear r265
          refine Cov.appO (Q := (Rep.int .i64)) 0 .ro sl22 ty3 rfl rfl rfl rfl rfl rfl o252 o267 rfl rfl rfl B8 hu273 rfl (fun a269 k270 cs271 o272 => ?_)
          refine Cov.q .ro (.assign rfl) rfl ?_
          refine Cov.region_end ?_
          refine Cov.seq ?_
          refine Cov.region rfl ?_
          refine Cov.q .ro (.move rfl) rfl ?_
          refine Cov.q .ro (.move rfl) rfl ?_
          obtain ⟨u276, hu276, r277⟩ := bind_some r274; clear r274
          obtain ⟨c278, p279, h280⟩ := OL.get o14 hu276
          obtain ⟨a281, k282, rfl, s283⟩ := h280
          refine Cov.q .ro (.idxO 1 rfl rfl rfl hu276 sl36 ty27.sz) rfl ?_
          refine Cov.q .ro (.loadO 1 0 rfl hu276 p279 rfl (.inl ⟨rfl, rfl⟩) ty27 rfl) rfl ?_
          refine Cov.q .ro (.assign rfl) rfl ?_
          refine Cov.region_end ?_
          refine Cov.drawL (.q 0 (.q 1 (.q 2 (.q 3 (.q 4 (.q 5 (.q 6 (.q 7 (.q 8 (.q 9 (.q 10 (.q 11 (.q 12 (.q 13 (.q 14 (.q 15 (.q 16 (.q 17 (.q 18 (.e 19 1 (.q 20 (.q 21 .nil)))))))))))))))))))))) [_] (by kernel_rfl) (by kernel_rfl) (pick_mem [0] rfl) ?_
          refine Cov.dq (.move rfl) rfl ?_
          refine Cov.dq (.fieldAddr 0 rfl fl29_0 ty3.sz rfl) rfl ?_
          refine Cov.dq (.load_own 0 rfl rfl ty3 rfl) rfl ?_
          refine Cov.dq (.mulw rfl rfl) rfl ?_
          refine Cov.dq (.move rfl) rfl ?_
          refine Cov.dq (.move rfl) rfl ?_
          refine Cov.dq (.fieldAddr 0 rfl fl29_0 ty3.sz rfl) rfl ?_
          refine Cov.dq (.load_own 0 rfl rfl ty3 rfl) rfl ?_
          refine Cov.dq (.mulw rfl rfl) rfl ?_
          refine Cov.dq (.move rfl) rfl ?_
          refine Cov.dq (.len_sl rfl rfl sl27) rfl ?_
          refine Cov.dq (.move rfl) rfl ?_
          refine Cov.dq (.addw rfl rfl) rfl ?_
          refine Cov.dq (.fieldAddr 0 rfl fl29_0 ty3.sz rfl) rfl ?_
          refine Cov.dq (.load_own 0 rfl rfl ty3 rfl) rfl ?_
          refine Cov.dq (.mulw rfl rfl) rfl ?_
          refine Cov.dq (.min2 rfl rfl) rfl ?_
          obtain ⟨u284, hu284, r285⟩ := bind_some r277; clear r277
          obtain ⟨a286, k287, h288, s289⟩ := SlR.sub s283 hu284
          refine Cov.dq (.sliceR s283 rfl hu284 sl27 ty9.sz (fun h => .yes' rfl h) (fun h => .yes' rfl h) h288) rfl ?_
          refine Cov.dq (.move rfl) rfl ?_
          obtain ⟨u290, hu290, r291⟩ := bind_some r285; clear r285
          refine Cov.callS (b1 := []) (b2 := [_]) (s1 := []) [_, _] [] .d1 rfl rfl Try.call40 rfl rfl (ref21_last_c (G := G6) List.mem_cons_self s289 hu290) rfl (fun v293 bo so h292 => ?_)
          obtain ⟨rfl, rfl, rfl⟩ := h292
          refine Cov.same (bl' := [_]) (sl' := [_, _]) rfl rfl rfl ?_
          refine Cov.clsL (HpLe.refl _) (pick_mem [0] rfl) ?_
          refine Cov.dq (.addw rfl rfl) rfl ?_
          refine Cov.dq (.assign rfl) rfl ?_
          refine Cov.draw_end ?_
          refine Cov.prune [(10, _), (11, _), (12, _), (1, _), (2, _), (8, _)] ⟨rfl, rfl, rfl, rfl, rfl, rfl, trivial⟩ ?_
          refine Cov.inBlock ?_
          refine Cov.region rfl ?_
          refine Cov.q .ro (.move rfl) rfl ?_
          refine Cov.q .ro (.subw rfl rfl) rfl ?_
          refine Cov.q .ro (.assign rfl) rfl ?_
          refine Cov.region_end ?_
          refine Cov.prune _ ?_ (Cov.same rfl rfl rfl (hb257 (m263, u273, a269, k270, cs271, (w64 ((w64 (v254 * x0_0)) + u290)), (w64 (v255 - 1))) ⟨o272, r291⟩ (Nat.lt_succ_self _)))
          exact ⟨rfl, rfl, rfl, rfl, rfl, rfl, trivial⟩
        · have r294 := ifF r262 c264; clear r262
          refine Cov.exit rfl ?_
          refine Cov.prune _ ?_ (Cov.same rfl rfl rfl (hb169 (v248, a249, k250, cs251, v254, x0_0) ⟨o252, r294⟩))
          exact ⟨rfl, rfl, rfl, rfl, trivial⟩

set_option maxHeartbeats 4000000 in
theorem ref21_Range_c {Fs : List Hp} {G : Hp} {x0_0 : Int} {a0_1 : Option Addr} {k0_1 : Nat} {x0_1 : List ByteArray} {x1 : ByteArray} {x2 : Int} {r : ((List Int) × Int × Int)} (hG : G ∈ Fs) (s0_1 : SlR Rep.str G a0_1 k0_1 x0_1) (h : ref21_Range (x0_0, x0_1) x1 x2 = some r) : RetS Try.prog 24 #[.agg #[.int .i64 x0_0, .slice a0_1 x0_1.length k0_1], .string x1, .int .i64 x2] Fs [] [] (fun v bo so => ∃ (oa0 : Option Addr) (ok0 : Nat) (oc0 : List Value), v = .tuple #[.slice oa0 r.1.length ok0, .int .i64 r.2.1, .int .i64 r.2.2] ∧ bo = [] ∧ so = [.s (.slice oa0 r.1.length ok0) 3 1 r.1.length oc0] ∧ OL (Rep.int .i64) G oc0 r.1) := by
  unfold ref21_Range at h
  try dsimp only at h
  refine RetS.of (vs := [_, _, _]) Try.func24 rfl Try.ntmps24 [(0, _), (1, _), (2, _)] ⟨rfl, rfl, rfl, trivial⟩ rfl hG fun w0 S0 hS0 B0 => ?_
  refine Cov.seq ?_
  refine Cov.region rfl ?_
  refine Cov.box [_, _] .ro rfl rfl rfl (fun b1 hb1 => ?_)
  refine Cov.q .ro (.assign rfl) rfl ?_
  refine Cov.q .ro (.assign rfl) rfl ?_
  refine Cov.q .ro (.assign rfl) rfl ?_
  refine Cov.region_end ?_
  refine Cov.seq ?_
  refine Cov.seq ?_
  refine Cov.region rfl ?_
  refine Cov.q .ro (.load_own_a 0 [_, _] rfl rfl ty29 rfl) rfl ?_
  obtain ⟨u2, hu2, r3⟩ := bind_some h; clear h
  refine Cov.callS (b1 := []) (b2 := [_]) (s1 := []) [_] [] .ro rfl rfl Try.call19 rfl rfl (ref21_Check_c (G := G) List.mem_cons_self s0_1 hu2) rfl (fun v5 bo so h4 => ?_)
  obtain ⟨rfl, rfl, rfl⟩ := h4
  refine Cov.same (bl' := [_]) (sl' := []) rfl rfl rfl ?_
  refine Cov.q .ro (.assign rfl) rfl ?_
  refine Cov.region_end ?_
  refine Cov.seq ?_
  refine Cov.region rfl ?_
  refine Cov.q .ro (.move rfl) rfl ?_
  refine Cov.q .ro (.neq rfl rfl) rfl ?_
  refine Cov.region_end ?_
  refine Cov.cond_dec rfl (fun c6 => ?_) (fun c6 => ?_)
  · have r7 := ifT r3 c6; clear r3
    refine Cov.seq ?_
    refine Cov.region rfl ?_
    refine Cov.q .ro (.move rfl) rfl ?_
    refine Cov.q .ro (.assign rfl) rfl ?_
    refine Cov.q .ro (.assign rfl) rfl ?_
    refine Cov.q .ro (.assign rfl) rfl ?_
    refine Cov.region_end ?_
    refine Cov.own_nil 3 1 ?_
    cases r7
    refine Cov.drop 1 0 [] _ rfl rfl ?_
    refine Cov.retS (c := ⟨24, none⟩) (.inr ⟨_, rfl⟩) [.tmp 6, .tmp 7, .tmp 8] [_, _, _] rfl Try.func24 Try.results24 ⟨RV.tmp rfl, RV.tmp rfl, RV.tmp rfl, trivial⟩ (fun _ h => List.mem_cons_of_mem _ h) ⟨none, 0, [], rfl, rfl, rfl, (OL.nil (Rp' := (Rep.int .i64)))⟩
  · have r9 := ifF r3 c6; clear r3
    refine Cov.skip ?_
    refine Cov.seq ?_
    refine Cov.seq ?_
    refine Cov.region rfl ?_
    refine Cov.q .ro (.move rfl) rfl ?_
    obtain ⟨u10, hu10, r11⟩ := bind_some r9; clear r9
    refine Cov.callS (b1 := []) (b2 := [_]) (s1 := []) [_] [] .ro rfl rfl Try.call39 rfl rfl (ref20_Key_c (G := G) List.mem_cons_self  hu10) rfl (fun v13 bo so h12 => ?_)
    obtain ⟨rfl, rfl, rfl⟩ := h12
    refine Cov.same (bl' := [_]) (sl' := []) rfl rfl rfl ?_
    refine Cov.q .ro (.not rfl) rfl ?_
    refine Cov.q .ro (.move rfl) rfl ?_
    refine Cov.cutR 3 (β := Unit) (fun y => [(29, .bool (decide (((!u10) = true) ∨ (x2 < 1))))]) [(1, _), (2, _), (3, _)] (fun y => G :: Fs) (fun y => []) [_] (fun y => []) [] (fun y => True) ⟨rfl, rfl, rfl, trivial⟩ [0] rfl [] rfl ?_ ?_
    · rintro _ _
      refine Cov.prune [(29, .bool (decide (((!u10) = true) ∨ (x2 < 1)))), (1, _), (2, _), (3, _)] ⟨rfl, rfl, rfl, rfl, trivial⟩ ?_
      refine Cov.same (bl' := [_]) (sl' := []) (Fs' := G :: Fs) rfl rfl rfl ?_
      refine Cov.q .ro (.move rfl) rfl ?_
      refine Cov.cutR 3 (β := Unit) (fun y => [(33, .bool (decide ((((!u10) = true) ∨ (x2 < 1)) ∨ (64 < x2))))]) [(1, _), (2, _), (3, _)] (fun y => G :: Fs) (fun y => []) [_] (fun y => []) [] (fun y => True) ⟨rfl, rfl, rfl, trivial⟩ [0] rfl [] rfl ?_ ?_
      · rintro _ _
        refine Cov.prune [(33, .bool (decide ((((!u10) = true) ∨ (x2 < 1)) ∨ (64 < x2)))), (1, _), (2, _), (3, _)] ⟨rfl, rfl, rfl, rfl, trivial⟩ ?_
        refine Cov.same (bl' := [_]) (sl' := []) (Fs' := G :: Fs) rfl rfl rfl ?_
        refine Cov.region_end ?_
        refine Cov.cond_dec rfl (fun c22 => ?_) (fun c22 => ?_)
        · have r23 := ifT r11 c22; clear r11
          refine Cov.seq ?_
          refine Cov.region rfl ?_
          refine Cov.q .ro (.assign rfl) rfl ?_
          refine Cov.q .ro (.assign rfl) rfl ?_
          refine Cov.q .ro (.assign rfl) rfl ?_
          refine Cov.region_end ?_
          refine Cov.own_nil 3 1 ?_
          cases r23
          refine Cov.drop 1 0 [] _ rfl rfl ?_
          refine Cov.retS (c := ⟨24, none⟩) (.inr ⟨_, rfl⟩) [.tmp 6, .tmp 7, .tmp 8] [_, _, _] rfl Try.func24 Try.results24 ⟨RV.tmp rfl, RV.tmp rfl, RV.tmp rfl, trivial⟩ (fun _ h => List.mem_cons_of_mem _ h) ⟨none, 0, [], rfl, rfl, rfl, (OL.nil (Rp' := (Rep.int .i64)))⟩
        · have r25 := ifF r11 c22; clear r11
          refine Cov.skip ?_
          refine Cov.seq ?_
          refine Cov.region rfl ?_
          refine Cov.q .ro (.load_own_a 0 [_, _] rfl rfl ty29 rfl) rfl ?_
          refine Cov.q .ro (.move rfl) rfl ?_
          obtain ⟨u26, hu26, r27⟩ := bind_some r25; clear r25
          refine Cov.callS (b1 := []) (b2 := [_]) (s1 := []) [_, _] [] .ro rfl rfl Try.call21 rfl rfl (ref21_Probe_c (G := G) List.mem_cons_self s0_1 hu26) rfl (fun v29 bo so h28 => ?_)
          obtain ⟨a31, k32, cs33, rfl, rfl, rfl, o34⟩ := h28
          refine Cov.same (bl' := [_]) (sl' := [_]) rfl rfl rfl ?_
          refine Cov.q .ro (.move rfl) rfl ?_
          refine Cov.q .ro (.extract rfl rfl) rfl ?_
          refine Cov.q .ro (.extract rfl rfl) rfl ?_
          refine Cov.q .ro (.extract rfl rfl) rfl ?_
          refine Cov.q .ro (.extract rfl rfl) rfl ?_
          refine Cov.q .ro (.assign rfl) rfl ?_
          refine Cov.q .ro (.assign rfl) rfl ?_
          refine Cov.q .ro (.assign rfl) rfl ?_
          refine Cov.q .ro (.assign rfl) rfl ?_
          refine Cov.region_end ?_
          refine Cov.seq ?_
          refine Cov.region rfl ?_
          refine Cov.q .ro (.fieldAddr 1 rfl fl29_1 ty27.sz rfl) rfl ?_
          refine Cov.q .ro (.load_own 0 rfl rfl ty27 rfl) rfl ?_
          refine Cov.q .ro (.len_sl rfl rfl sl27) rfl ?_
          refine Cov.q .ro (.subw rfl rfl) rfl ?_
          refine Cov.q .ro (.fieldAddr 0 rfl fl29_0 ty3.sz rfl) rfl ?_
          refine Cov.q .ro (.load_own 0 rfl rfl ty3 rfl) rfl ?_
          obtain ⟨u35, hu35, r36⟩ := bind_some r27; clear r27
          refine Cov.q .ro (.quow rfl rfl (nz_some hu35)) rfl ?_
          refine Cov.q .ro (.assign rfl) rfl ?_
          refine Cov.region_end ?_
          refine Cov.prune [(1, _), (2, _), (3, _), (11, _), (14, _)] ⟨rfl, rfl, rfl, rfl, rfl, trivial⟩ ?_
          refine Cov.seq ?_
          refine Cov.region rfl ?_
          refine Cov.q .ro (.assign rfl) rfl ?_
          refine Cov.region_end ?_
          refine Cov.seq ?_
          refine Cov.seq ?_
          refine Cov.region rfl ?_
          refine Cov.q .ro (.assign rfl) rfl ?_
          refine Cov.region_end ?_
          refine Cov.cutB (β := List Int × Option Addr × Nat × List Value × Int) (fun y => [(15, .slice y.2.1 y.1.length y.2.2.1)]) [(1, _), (3, _), (11, _)] (fun y => G :: Fs) (fun y => [(b1, .cells #[.int .i64 y.2.2.2.2, .slice a0_1 x0_1.length k0_1] 29 (0, 0))]) [] (fun y => [.s (.slice y.2.1 y.1.length y.2.2.1) 3 1 y.1.length y.2.2.2.1]) [_] (fun y => OL (Rep.int .i64) G y.2.2.2.1 y.1 ∧ (ref21_Range_J1 x1 u26.2.1 x0_1) y.1 y.2.2.2.2 = some r) ⟨rfl, rfl, rfl, trivial⟩ [] rfl [0] rfl ?_ ?_
          · intro y hI
            obtain ⟨v113, a114, k115, cs116, v119⟩ := y
            obtain ⟨o117, r121⟩ := hI
            try dsimp only at o117 r121
            refine Cov.prune [(15, .slice a114 v113.length k115), (1, _), (3, _), (11, _)] ⟨rfl, rfl, rfl, rfl, trivial⟩ ?_
            refine Cov.same (bl' := [(b1, .cells #[.int .i64 v119, .slice a0_1 x0_1.length k0_1] 29 (0, 0))]) (sl' := [.s (.slice a114 v113.length k115) 3 1 v113.length cs116, _]) (Fs' := G :: Fs) rfl rfl rfl ?_
            unfold ref21_Range_J1 at r121
            try dsimp only at r121
            refine Cov.seq ?_
            refine Cov.region rfl ?_
            refine Cov.q .ro (.move rfl) rfl ?_
            refine Cov.q .ro (.assign rfl) rfl ?_
            refine Cov.region_end ?_
            refine Cov.seq ?_
            refine Cov.seq ?_
            refine Cov.region rfl ?_
            refine Cov.q .ro (.fieldAddr 1 rfl fl29_1 ty27.sz rfl) rfl ?_
            refine Cov.q .ro (.load_own 0 rfl rfl ty27 rfl) rfl ?_
            refine Cov.q .ro (.move rfl) rfl ?_
            obtain ⟨u126, hu126, r127⟩ := bind_some r121; clear r121
            obtain ⟨c128, p129, h130⟩ := SlR.get s0_1 hu126
            obtain rfl := h130
            refine Cov.q .ro (.idxR s0_1 rfl rfl hu126 sl27 ty9.sz) rfl ?_
            refine Cov.q .ro (.load_rp p129 List.mem_cons_self rfl ty9 rfl) rfl ?_
            refine Cov.q .ro (.move rfl) rfl ?_
            refine Cov.q .ro (.lss_d rfl rfl) rfl ?_
            refine Cov.region_end ?_
            refine Cov.cond_dec rfl (fun c131 => ?_) (fun c131 => ?_)
            · have r132 := ifT r127 c131; clear r127
              refine Cov.region rfl ?_
              refine Cov.q .ro (.move rfl) rfl ?_
              refine Cov.q .ro (.addw rfl rfl) rfl ?_
              refine Cov.q .ro (.assign rfl) rfl ?_
              refine Cov.region_end ?_
              refine Cov.prune [(15, _), (17, _)] ⟨rfl, rfl, trivial⟩ ?_
              refine Cov.seq ?_
              refine Cov.region rfl ?_
              refine Cov.q .ro (.move rfl) rfl ?_
              refine Cov.q .ro (.move rfl) rfl ?_
              refine Cov.q .ro (.assign rfl) rfl ?_
              refine Cov.q .ro (.assign rfl) rfl ?_
              refine Cov.q .ro (.assign rfl) rfl ?_
              refine Cov.region_end ?_
              cases r132
              refine Cov.drop 1 0 [] _ rfl rfl ?_
              refine Cov.pullS 1 rfl [_, _] rfl ?_
              refine Cov.drop 0 1 _ [_] rfl rfl ?_
              refine Cov.retS (c := ⟨24, none⟩) (.inr ⟨_, rfl⟩) [.tmp 6, .tmp 7, .tmp 8] [_, _, _] rfl Try.func24 Try.results24 ⟨RV.tmp rfl, RV.tmp rfl, RV.tmp rfl, trivial⟩ (fun _ h => List.mem_cons_of_mem _ h) ⟨a114, k115, cs116, rfl, rfl, rfl, o117⟩
            · have r133 := ifF r127 c131; clear r127
              refine Cov.skip ?_
              refine Cov.seq ?_
              refine Cov.region rfl ?_
              refine Cov.q .ro (.move rfl) rfl ?_
              refine Cov.q .ro (.move rfl) rfl ?_
              refine Cov.q .ro (.assign rfl) rfl ?_
              refine Cov.q .ro (.assign rfl) rfl ?_
              refine Cov.q .ro (.assign rfl) rfl ?_
              refine Cov.region_end ?_
              refine Cov.prune [(6, _), (7, _), (8, _)] ⟨rfl, rfl, rfl, trivial⟩ ?_
              cases r133
              refine Cov.drop 1 0 [] _ rfl rfl ?_
              refine Cov.pullS 1 rfl [_, _] rfl ?_
              refine Cov.drop 0 1 _ [_] rfl rfl ?_
              refine Cov.retS (c := ⟨24, none⟩) (.inr ⟨_, rfl⟩) [.tmp 6, .tmp 7, .tmp 8] [_, _, _] rfl Try.func24 Try.results24 ⟨RV.tmp rfl, RV.tmp rfl, RV.tmp rfl, trivial⟩ (fun _ h => List.mem_cons_of_mem _ h) ⟨a114, k115, cs116, rfl, rfl, rfl, o117⟩
          · intro hb134
            refine Cov.block ?_
            refine Cov.own_nil 3 1 ?_
            refine Cov.loop2 (α := Nat × List Int × Option Addr × Nat × List Value × Int) (fun y => [(15, .slice y.2.2.1 y.2.1.length y.2.2.2.1), (16, .int .i64 y.2.2.2.2.2)]) [(1, _), (2, _), (3, _), (11, _), (14, _)] (fun y => []) (fun y => []) [_] (fun y => [.s (.slice y.2.2.1 y.2.1.length y.2.2.2.1) 3 1 y.2.1.length y.2.2.2.2.1]) [_] (fun y => OL (Rep.int .i64) G y.2.2.2.2.1 y.2.1 ∧ ref21_Range_L2 (ref21_Range_J1 x1 u26.2.1 x0_1) x2 u26.2.1 (w64 (Int.tdiv (w64 ((x0_1.length : Int) - 1)) x0_0)) x0_0 y.1 y.2.1 y.2.2.2.2.2 = some r) (fun y => y.1) (big, ([] : List Int), none, 0, [], 0) ⟨(OL.nil (Rp' := (Rep.int .i64))), r36⟩ ⟨rfl, rfl, rfl, rfl, rfl, rfl, rfl, trivial⟩ rfl rfl rfl (fun y hI hb187 => ?_)
            obtain ⟨n177, v179, a180, k181, cs182, v185⟩ := y
            obtain ⟨o183, r186⟩ := hI
            try dsimp only at o183 r186
            refine Cov.prune [(15, .slice a180 v179.length k181), (16, .int .i64 v185), (1, _), (2, _), (3, _), (11, _), (14, _)] ⟨rfl, rfl, rfl, rfl, rfl, rfl, rfl, trivial⟩ ?_
            refine Cov.same (bl' := [_]) (sl' := [.s (.slice a180 v179.length k181) 3 1 v179.length cs182, _]) (Fs' := G :: Fs) rfl rfl rfl ?_
            obtain ⟨m196, rfl⟩ : ∃ m, n177 = m + 1 := by cases n177 with | zero => exact absurd (show (none : Option _) = some _ from r186) (by simp) | succ m => exact ⟨m, rfl⟩
            have r195 : ref21_Range_B2 (ref21_Range_J1 x1 u26.2.1 x0_1) x2 u26.2.1 (w64 (Int.tdiv (w64 ((x0_1.length : Int) - 1)) x0_0)) x0_0 (ref21_Range_L2 (ref21_Range_J1 x1 u26.2.1 x0_1) x2 u26.2.1 (w64 (Int.tdiv (w64 ((x0_1.length : Int) - 1)) x0_0)) x0_0 m196) v179 v185 = some r := r186; clear r186; unfold ref21_Range_B2 at r195; try dsimp only at r195
            refine Cov.seq ?_
            refine Cov.seq ?_
            refine Cov.region rfl ?_
            refine Cov.q .ro (.move rfl) rfl ?_
            refine Cov.q .ro (.move rfl) rfl ?_
            refine Cov.q .ro (.lss rfl rfl) rfl ?_
            refine Cov.region_end ?_
            refine Cov.cond_dec rfl (fun c197 => ?_) (fun c197 => ?_)
            · have r198 := ifT r195 c197; clear r195
              refine Cov.skip ?_
              refine Cov.seq ?_
              refine Cov.block ?_
              refine Cov.region rfl ?_
              refine Cov.q .ro (.move rfl) rfl ?_
              refine Cov.q .ro (.move rfl) rfl ?_
              refine Cov.q .ro (.fieldAddr 0 rfl fl29_0 ty3.sz rfl) rfl ?_
              refine Cov.q .ro (.load_own 0 rfl rfl ty3 rfl) rfl ?_
              obtain ⟨u199, hu199, r200⟩ := bind_some r198; clear r198
              refine Cov.q .ro (.quow rfl rfl (nz_some hu199)) rfl ?_
              refine Cov.q .ro (.move rfl) rfl ?_
              refine Cov.q .ro (.addw rfl rfl) rfl ?_
              refine Cov.q .ro (.move rfl) rfl ?_
              refine Cov.q .ro (.min2 rfl rfl) rfl ?_
              refine Cov.lit [_] [(0, _)] .ro sl22 ty3 rfl rfl rfl rfl rfl rfl (fun b201 hb201 => ?_)
              have o202 : OL (Rep.int .i64) G [.int .i64 (min (w64 ((w64 (Int.tdiv u26.2.1 x0_0)) + v185)) (w64 (Int.tdiv (w64 ((x0_1.length : Int) - 1)) x0_0)))] ([(min (w64 ((w64 (Int.tdiv u26.2.1 x0_0)) + v185)) (w64 (Int.tdiv (w64 ((x0_1.length : Int) - 1)) x0_0)))] : List Int) := ((OL.cons rfl (Rep.intI .i64 (min (w64 ((w64 (Int.tdiv u26.2.1 x0_0)) + v185)) (w64 (Int.tdiv (w64 ((x0_1.length : Int) - 1)) x0_0)))) (OL.nil (Rp' := (Rep.int .i64)))) :)
              refine Cov.reval 63 (n' := ([(min (w64 ((w64 (Int.tdiv u26.2.1 x0_0)) + v185)) (w64 (Int.tdiv (w64 ((x0_1.length : Int) - 1)) x0_0)))] : List Int).length) rfl rfl ?_
              obtain ⟨u208, hu208, r209⟩ := bind_some r200; clear r200
              refine Cov.appO (Q := (Rep.int .i64)) 0 .ro sl22 ty3 rfl rfl rfl rfl rfl rfl o183 o202 rfl rfl rfl B0 hu208 rfl (fun a204 k205 cs206 o207 => ?_)
              refine Cov.q .ro (.assign rfl) rfl ?_
              refine Cov.region_end ?_
              refine Cov.prune [(15, _), (16, _), (1, _), (2, _), (3, _), (11, _), (14, _)] ⟨rfl, rfl, rfl, rfl, rfl, rfl, rfl, trivial⟩ ?_
              refine Cov.inBlock ?_
              refine Cov.region rfl ?_
              refine Cov.q .ro (.move rfl) rfl ?_
              refine Cov.q .ro (.addw rfl rfl) rfl ?_
              refine Cov.q .ro (.assign rfl) rfl ?_
              refine Cov.region_end ?_
              refine Cov.prune _ ?_ (Cov.same rfl rfl rfl (hb187 (m196, u208, a204, k205, cs206, (w64 (v185 + 1))) ⟨o207, r209⟩ (Nat.lt_succ_self _)))
              exact ⟨rfl, rfl, rfl, rfl, rfl, rfl, rfl, trivial⟩
            · have r211 := ifF r195 c197; clear r195
              refine Cov.exit rfl ?_
              refine Cov.prune _ ?_ (Cov.same rfl rfl rfl (hb134 (v179, a180, k181, cs182, x0_0) ⟨o183, r211⟩))
              exact ⟨rfl, rfl, rfl, rfl, trivial⟩
      · intro hb19
        refine Cov.split 30 rfl (fun c18 => ?_) (fun c18 => ?_)
        · refine Cov.g_off rfl rfl rfl ?_
          refine Cov.g_off rfl rfl rfl ?_
          refine Cov.q .ro (.pick_t rfl rfl) rfl ?_
          refine Cov.prune _ ?_ (Cov.same rfl rfl rfl (hb19 () trivial))
          exact ⟨dor_t c18, rfl, rfl, rfl, trivial⟩
        · refine Cov.g_on rfl ?_
          refine Cov.q .ro (.move rfl) rfl ?_
          refine Cov.g_on rfl ?_
          refine Cov.q .ro (.gtr rfl rfl) rfl ?_
          refine Cov.q .ro (.pick_f rfl rfl) rfl ?_
          refine Cov.prune _ ?_ (Cov.same rfl rfl rfl (hb19 () trivial))
          exact ⟨dor_f c18, rfl, rfl, rfl, trivial⟩
    · intro hb15
      refine Cov.split_b 26 rfl (fun c14 => ?_) (fun c14 => ?_)
      · refine Cov.g_off rfl rfl rfl ?_
        refine Cov.g_off rfl rfl rfl ?_
        refine Cov.q .ro (.pick_t rfl rfl) rfl ?_
        refine Cov.prune _ ?_ (Cov.same rfl rfl rfl (hb15 () trivial))
        exact ⟨dor_t c14, rfl, rfl, rfl, trivial⟩
      · refine Cov.g_on rfl ?_
        refine Cov.q .ro (.move rfl) rfl ?_
        refine Cov.g_on rfl ?_
        refine Cov.q .ro (.lss rfl rfl) rfl ?_
        refine Cov.q .ro (.pick_f rfl rfl) rfl ?_
        refine Cov.prune _ ?_ (Cov.same rfl rfl rfl (hb15 () trivial))
        exact ⟨dor_f (bne_of c14), rfl, rfl, rfl, trivial⟩

set_option maxHeartbeats 4000000 in
theorem fence_Next_c {Fs : List Hp} {G : Hp} {x0 : Int} {x1 : Int} {a2 : Option Addr} {k2 : Nat} {x2 : List ByteArray} {x3 : ByteArray} {r : (Int × Int)} (hG : G ∈ Fs) (s2 : SlR Rep.str G a2 k2 x2) (h : fence_Next x0 x1 x2 x3 = some r) : RetS Try.prog 25 #[.int .i64 x0, .int .i64 x1, .slice a2 x2.length k2, .string x3] Fs [] [] (fun v bo so => v = .tuple #[.int .i64 r.1, .int .i64 r.2] ∧ bo = [] ∧ so = []) := by
  unfold fence_Next at h
  try dsimp only at h
  refine RetS.of (vs := [_, _, _, _]) Try.func25 rfl Try.ntmps25 [(0, _), (1, _), (2, _), (3, _)] ⟨rfl, rfl, rfl, rfl, trivial⟩ rfl hG fun w0 S0 hS0 B0 => ?_
  refine Cov.seq ?_
  refine Cov.region rfl ?_
  refine Cov.q .ro (.assign rfl) rfl ?_
  refine Cov.q .ro (.assign rfl) rfl ?_
  refine Cov.region_end ?_
  refine Cov.seq ?_
  refine Cov.seq ?_
  refine Cov.region rfl ?_
  refine Cov.q .ro (.move rfl) rfl ?_
  obtain ⟨u1, hu1, r2⟩ := bind_some h; clear h
  refine Cov.callS (b1 := []) (b2 := []) (s1 := []) [_] [] .ro rfl rfl Try.call34 rfl rfl (fence_sized_c (G := G) List.mem_cons_self  hu1) rfl (fun v4 bo so h3 => ?_)
  obtain ⟨rfl, rfl, rfl⟩ := h3
  refine Cov.same (bl' := []) (sl' := []) rfl rfl rfl ?_
  refine Cov.q .ro (.not rfl) rfl ?_
  refine Cov.q .ro (.move rfl) rfl ?_
  refine Cov.cutR 3 (β := Unit) (fun y => [(16, .bool (decide (((!u1) = true) ∨ (x1 < 0))))]) [(0, _), (1, _), (2, _), (3, _)] (fun y => G :: Fs) (fun y => []) [] (fun y => []) [] (fun y => True) ⟨rfl, rfl, rfl, rfl, trivial⟩ [] rfl [] rfl ?_ ?_
  · rintro _ _
    refine Cov.prune [(16, .bool (decide (((!u1) = true) ∨ (x1 < 0)))), (0, _), (1, _), (2, _), (3, _)] ⟨rfl, rfl, rfl, rfl, rfl, trivial⟩ ?_
    refine Cov.same (bl' := []) (sl' := []) (Fs' := G :: Fs) rfl rfl rfl ?_
    refine Cov.q .ro (.move rfl) rfl ?_
    refine Cov.cutR 3 (β := Unit) (fun y => [(20, .bool (decide ((((!u1) = true) ∨ (x1 < 0)) ∨ (256 < x1))))]) [(0, _), (1, _), (2, _), (3, _)] (fun y => G :: Fs) (fun y => []) [] (fun y => []) [] (fun y => True) ⟨rfl, rfl, rfl, rfl, trivial⟩ [] rfl [] rfl ?_ ?_
    · rintro _ _
      refine Cov.prune [(20, .bool (decide ((((!u1) = true) ∨ (x1 < 0)) ∨ (256 < x1)))), (0, _), (1, _), (2, _), (3, _)] ⟨rfl, rfl, rfl, rfl, rfl, trivial⟩ ?_
      refine Cov.same (bl' := []) (sl' := []) (Fs' := G :: Fs) rfl rfl rfl ?_
      refine Cov.q .ro (.move rfl) rfl ?_
      obtain ⟨u19, h20, r21⟩ := bind_some r2; clear r2
      refine Cov.cutR 4 (β := Unit) (fun y => [(25, .bool u19)]) [(0, _), (1, _), (2, _), (3, _)] (fun y => G :: Fs) (fun y => []) [] (fun y => []) [] (fun y => True) ⟨rfl, rfl, rfl, rfl, trivial⟩ [] rfl [] rfl ?_ ?_
      · rintro _ _
        refine Cov.prune [(25, .bool u19), (0, _), (1, _), (2, _), (3, _)] ⟨rfl, rfl, rfl, rfl, rfl, trivial⟩ ?_
        refine Cov.same (bl' := []) (sl' := []) (Fs' := G :: Fs) rfl rfl rfl ?_
        refine Cov.region_end ?_
        refine Cov.cond rfl (fun c24 => ?_) (fun c24 => ?_)
        · have r25 := ifT r21 c24; clear r21
          refine Cov.seq ?_
          refine Cov.region rfl ?_
          refine Cov.q .ro (.assign rfl) rfl ?_
          refine Cov.q .ro (.assign rfl) rfl ?_
          refine Cov.region_end ?_
          cases r25
          refine Cov.retS (c := ⟨25, none⟩) (.inr ⟨_, rfl⟩) [.tmp 8, .tmp 9] [_, _] rfl Try.func25 Try.results25 ⟨RV.tmp rfl, RV.tmp rfl, trivial⟩ (fun _ h => List.mem_cons_of_mem _ h) ⟨rfl, rfl, rfl⟩
        · have r26 := ifBF r21 c24; clear r21
          refine Cov.skip ?_
          refine Cov.seq ?_
          refine Cov.seq ?_
          refine Cov.region rfl ?_
          refine Cov.q .ro (.move rfl) rfl ?_
          refine Cov.q .ro (.len_sl rfl rfl sl27) rfl ?_
          refine Cov.q .ro (.lss rfl rfl) rfl ?_
          refine Cov.q .ro (.move rfl) rfl ?_
          refine Cov.cutR 5 (β := Unit) (fun y => [(34, .bool (decide (((x2.length : Int) < 1) ∨ (x0 < (x2.length : Int)))))]) [(0, _), (1, _), (2, _), (3, _)] (fun y => G :: Fs) (fun y => []) [] (fun y => []) [] (fun y => True) ⟨rfl, rfl, rfl, rfl, trivial⟩ [] rfl [] rfl ?_ ?_
          · rintro _ _
            refine Cov.prune [(34, .bool (decide (((x2.length : Int) < 1) ∨ (x0 < (x2.length : Int))))), (0, _), (1, _), (2, _), (3, _)] ⟨rfl, rfl, rfl, rfl, rfl, trivial⟩ ?_
            refine Cov.same (bl' := []) (sl' := []) (Fs' := G :: Fs) rfl rfl rfl ?_
            refine Cov.q .ro (.move rfl) rfl ?_
            obtain ⟨u37, h38, r39⟩ := bind_some r26; clear r26
            refine Cov.cutR 4 (β := Unit) (fun y => [(39, .bool u37)]) [(0, _), (1, _), (2, _), (3, _)] (fun y => G :: Fs) (fun y => []) [] (fun y => []) [] (fun y => True) ⟨rfl, rfl, rfl, rfl, trivial⟩ [] rfl [] rfl ?_ ?_
            · rintro _ _
              refine Cov.prune [(39, .bool u37), (0, _), (1, _), (2, _), (3, _)] ⟨rfl, rfl, rfl, rfl, rfl, trivial⟩ ?_
              refine Cov.same (bl' := []) (sl' := []) (Fs' := G :: Fs) rfl rfl rfl ?_
              refine Cov.region_end ?_
              refine Cov.cond rfl (fun c42 => ?_) (fun c42 => ?_)
              · have r43 := ifT r39 c42; clear r39
                refine Cov.seq ?_
                refine Cov.region rfl ?_
                refine Cov.q .ro (.assign rfl) rfl ?_
                refine Cov.q .ro (.assign rfl) rfl ?_
                refine Cov.region_end ?_
                cases r43
                refine Cov.retS (c := ⟨25, none⟩) (.inr ⟨_, rfl⟩) [.tmp 8, .tmp 9] [_, _] rfl Try.func25 Try.results25 ⟨RV.tmp rfl, RV.tmp rfl, trivial⟩ (fun _ h => List.mem_cons_of_mem _ h) ⟨rfl, rfl, rfl⟩
              · have r44 := ifBF r39 c42; clear r39
                refine Cov.skip ?_
                refine Cov.seq ?_
                refine Cov.region rfl ?_
                refine Cov.q .ro (.move rfl) rfl ?_
                refine Cov.q .ro (.move rfl) rfl ?_
                refine Cov.q .ro (.mulw rfl rfl) rfl ?_
                refine Cov.q .ro (.move rfl) rfl ?_
                refine Cov.q .ro (.move rfl) rfl ?_
                obtain ⟨u45, hu45, r46⟩ := bind_some r44; clear r44
                refine Cov.callS (b1 := []) (b2 := []) (s1 := []) [_, _] [] .ro rfl rfl Try.call32 rfl rfl (fence_last_c (G := G) List.mem_cons_self s2 hu45) rfl (fun v48 bo so h47 => ?_)
                obtain ⟨rfl, rfl, rfl⟩ := h47
                refine Cov.same (bl' := []) (sl' := []) rfl rfl rfl ?_
                refine Cov.q .ro (.addw rfl rfl) rfl ?_
                refine Cov.q .ro (.assign rfl) rfl ?_
                refine Cov.q .ro (.assign rfl) rfl ?_
                refine Cov.region_end ?_
                cases r46
                refine Cov.retS (c := ⟨25, none⟩) (.inr ⟨_, rfl⟩) [.tmp 8, .tmp 9] [_, _] rfl Try.func25 Try.results25 ⟨RV.tmp rfl, RV.tmp rfl, trivial⟩ (fun _ h => List.mem_cons_of_mem _ h) ⟨rfl, rfl, rfl⟩
            · intro hb36
              refine Cov.split 35 rfl (fun c35 => ?_) (fun c35 => ?_)
              · have r49 := ifT h38 c35
                refine Cov.g_off rfl rfl rfl ?_
                refine Cov.g_off rfl rfl rfl ?_
                refine Cov.g_off rfl rfl rfl ?_
                refine Cov.q .ro (.pick_t rfl rfl) rfl ?_
                refine Cov.prune _ ?_ (Cov.same rfl rfl rfl (hb36 () trivial))
                exact ⟨sval r49, rfl, rfl, rfl, rfl, trivial⟩
              · have r50 := ifF h38 c35
                refine Cov.g_on rfl ?_
                refine Cov.q .ro (.move rfl) rfl ?_
                refine Cov.g_on rfl ?_
                obtain ⟨u51, hu51, r52⟩ := bind_some r50; clear r50
                refine Cov.callS (b1 := []) (b2 := []) (s1 := []) [_] [] .ro rfl rfl Try.call35 rfl rfl (fence_ascend_c (G := G) List.mem_cons_self s2 hu51) rfl (fun v54 bo so h53 => ?_)
                obtain ⟨rfl, rfl, rfl⟩ := h53
                refine Cov.same (bl' := []) (sl' := []) rfl rfl rfl ?_
                refine Cov.g_on rfl ?_
                refine Cov.q .ro (.not rfl) rfl ?_
                refine Cov.q .ro (.pick_f rfl rfl) rfl ?_
                refine Cov.prune _ ?_ (Cov.same rfl rfl rfl (hb36 () trivial))
                exact ⟨sval r52, rfl, rfl, rfl, rfl, trivial⟩
          · intro hb28
            refine Cov.split 29 rfl (fun c27 => ?_) (fun c27 => ?_)
            · refine Cov.g_off rfl rfl rfl ?_
              refine Cov.g_off rfl rfl rfl ?_
              refine Cov.g_off rfl rfl rfl ?_
              refine Cov.g_off rfl rfl rfl ?_
              refine Cov.q .ro (.pick_t rfl rfl) rfl ?_
              refine Cov.prune _ ?_ (Cov.same rfl rfl rfl (hb28 () trivial))
              exact ⟨dor_t c27, rfl, rfl, rfl, rfl, trivial⟩
            · refine Cov.g_on rfl ?_
              refine Cov.q .ro (.move rfl) rfl ?_
              refine Cov.g_on rfl ?_
              refine Cov.q .ro (.len_sl rfl rfl sl27) rfl ?_
              refine Cov.g_on rfl ?_
              refine Cov.q .ro (.move rfl) rfl ?_
              refine Cov.g_on rfl ?_
              refine Cov.q .ro (.gtr rfl rfl) rfl ?_
              refine Cov.q .ro (.pick_f rfl rfl) rfl ?_
              refine Cov.prune _ ?_ (Cov.same rfl rfl rfl (hb28 () trivial))
              exact ⟨dor_f c27, rfl, rfl, rfl, rfl, trivial⟩
      · intro hb18
        refine Cov.split 21 rfl (fun c17 => ?_) (fun c17 => ?_)
        · have r55 := ifT h20 c17
          refine Cov.g_off rfl rfl rfl ?_
          refine Cov.g_off rfl rfl rfl ?_
          refine Cov.g_off rfl rfl rfl ?_
          refine Cov.q .ro (.pick_t rfl rfl) rfl ?_
          refine Cov.prune _ ?_ (Cov.same rfl rfl rfl (hb18 () trivial))
          exact ⟨sval r55, rfl, rfl, rfl, rfl, trivial⟩
        · have r56 := ifF h20 c17
          refine Cov.g_on rfl ?_
          refine Cov.q .ro (.move rfl) rfl ?_
          refine Cov.g_on rfl ?_
          obtain ⟨u57, hu57, r58⟩ := bind_some r56; clear r56
          refine Cov.callS (b1 := []) (b2 := []) (s1 := []) [_] [] .ro rfl rfl Try.call30 rfl rfl (fence_proper_c (G := G) List.mem_cons_self  hu57) rfl (fun v60 bo so h59 => ?_)
          obtain ⟨rfl, rfl, rfl⟩ := h59
          refine Cov.same (bl' := []) (sl' := []) rfl rfl rfl ?_
          refine Cov.g_on rfl ?_
          refine Cov.q .ro (.not rfl) rfl ?_
          refine Cov.q .ro (.pick_f rfl rfl) rfl ?_
          refine Cov.prune _ ?_ (Cov.same rfl rfl rfl (hb18 () trivial))
          exact ⟨sval r58, rfl, rfl, rfl, rfl, trivial⟩
    · intro hb10
      refine Cov.split 17 rfl (fun c9 => ?_) (fun c9 => ?_)
      · refine Cov.g_off rfl rfl rfl ?_
        refine Cov.g_off rfl rfl rfl ?_
        refine Cov.q .ro (.pick_t rfl rfl) rfl ?_
        refine Cov.prune _ ?_ (Cov.same rfl rfl rfl (hb10 () trivial))
        exact ⟨dor_t c9, rfl, rfl, rfl, rfl, trivial⟩
      · refine Cov.g_on rfl ?_
        refine Cov.q .ro (.move rfl) rfl ?_
        refine Cov.g_on rfl ?_
        refine Cov.q .ro (.gtr rfl rfl) rfl ?_
        refine Cov.q .ro (.pick_f rfl rfl) rfl ?_
        refine Cov.prune _ ?_ (Cov.same rfl rfl rfl (hb10 () trivial))
        exact ⟨dor_f c9, rfl, rfl, rfl, rfl, trivial⟩
  · intro hb6
    refine Cov.split_b 13 rfl (fun c5 => ?_) (fun c5 => ?_)
    · refine Cov.g_off rfl rfl rfl ?_
      refine Cov.g_off rfl rfl rfl ?_
      refine Cov.q .ro (.pick_t rfl rfl) rfl ?_
      refine Cov.prune _ ?_ (Cov.same rfl rfl rfl (hb6 () trivial))
      exact ⟨dor_t c5, rfl, rfl, rfl, rfl, trivial⟩
    · refine Cov.g_on rfl ?_
      refine Cov.q .ro (.move rfl) rfl ?_
      refine Cov.g_on rfl ?_
      refine Cov.q .ro (.lss rfl rfl) rfl ?_
      refine Cov.q .ro (.pick_f rfl rfl) rfl ?_
      refine Cov.prune _ ?_ (Cov.same rfl rfl rfl (hb6 () trivial))
      exact ⟨dor_f (bne_of c5), rfl, rfl, rfl, rfl, trivial⟩

set_option maxHeartbeats 4000000 in
theorem ref21_Next_c {Fs : List Hp} {G : Hp} {x0 : Int} {x1 : Int} {a2 : Option Addr} {k2 : Nat} {x2 : List ByteArray} {x3 : ByteArray} {r : (Int × Int)} (hG : G ∈ Fs) (s2 : SlR Rep.str G a2 k2 x2) (h : ref21_Next x0 x1 x2 x3 = some r) : RetS Try.prog 26 #[.int .i64 x0, .int .i64 x1, .slice a2 x2.length k2, .string x3] Fs [] [] (fun v bo so => v = .tuple #[.int .i64 r.1, .int .i64 r.2] ∧ bo = [] ∧ so = []) := by
  unfold ref21_Next at h
  try dsimp only at h
  refine RetS.of (vs := [_, _, _, _]) Try.func26 rfl Try.ntmps26 [(0, _), (1, _), (2, _), (3, _)] ⟨rfl, rfl, rfl, rfl, trivial⟩ rfl hG fun w0 S0 hS0 B0 => ?_
  refine Cov.seq ?_
  refine Cov.region rfl ?_
  refine Cov.q .ro (.assign rfl) rfl ?_
  refine Cov.q .ro (.assign rfl) rfl ?_
  refine Cov.region_end ?_
  refine Cov.seq ?_
  refine Cov.seq ?_
  refine Cov.region rfl ?_
  refine Cov.q .ro (.move rfl) rfl ?_
  refine Cov.q .ro (.lss rfl rfl) rfl ?_
  refine Cov.q .ro (.move rfl) rfl ?_
  refine Cov.cutR 3 (β := Unit) (fun y => [(15, .bool (decide ((x0 < 2) ∨ (8 < x0))))]) [(0, _), (1, _), (2, _), (3, _)] (fun y => G :: Fs) (fun y => []) [] (fun y => []) [] (fun y => True) ⟨rfl, rfl, rfl, rfl, trivial⟩ [] rfl [] rfl ?_ ?_
  · rintro _ _
    refine Cov.prune [(15, .bool (decide ((x0 < 2) ∨ (8 < x0)))), (0, _), (1, _), (2, _), (3, _)] ⟨rfl, rfl, rfl, rfl, rfl, trivial⟩ ?_
    refine Cov.same (bl' := []) (sl' := []) (Fs' := G :: Fs) rfl rfl rfl ?_
    refine Cov.q .ro (.move rfl) rfl ?_
    refine Cov.cutR 3 (β := Unit) (fun y => [(19, .bool (decide (((x0 < 2) ∨ (8 < x0)) ∨ (x1 < 0))))]) [(0, _), (1, _), (2, _), (3, _)] (fun y => G :: Fs) (fun y => []) [] (fun y => []) [] (fun y => True) ⟨rfl, rfl, rfl, rfl, trivial⟩ [] rfl [] rfl ?_ ?_
    · rintro _ _
      refine Cov.prune [(19, .bool (decide (((x0 < 2) ∨ (8 < x0)) ∨ (x1 < 0)))), (0, _), (1, _), (2, _), (3, _)] ⟨rfl, rfl, rfl, rfl, rfl, trivial⟩ ?_
      refine Cov.same (bl' := []) (sl' := []) (Fs' := G :: Fs) rfl rfl rfl ?_
      refine Cov.q .ro (.move rfl) rfl ?_
      refine Cov.cutR 3 (β := Unit) (fun y => [(23, .bool (decide ((((x0 < 2) ∨ (8 < x0)) ∨ (x1 < 0)) ∨ (256 < x1))))]) [(0, _), (1, _), (2, _), (3, _)] (fun y => G :: Fs) (fun y => []) [] (fun y => []) [] (fun y => True) ⟨rfl, rfl, rfl, rfl, trivial⟩ [] rfl [] rfl ?_ ?_
      · rintro _ _
        refine Cov.prune [(23, .bool (decide ((((x0 < 2) ∨ (8 < x0)) ∨ (x1 < 0)) ∨ (256 < x1)))), (0, _), (1, _), (2, _), (3, _)] ⟨rfl, rfl, rfl, rfl, rfl, trivial⟩ ?_
        refine Cov.same (bl' := []) (sl' := []) (Fs' := G :: Fs) rfl rfl rfl ?_
        refine Cov.q .ro (.move rfl) rfl ?_
        obtain ⟨u19, h20, r21⟩ := bind_some h; clear h
        refine Cov.cutR 4 (β := Unit) (fun y => [(28, .bool u19)]) [(0, _), (1, _), (2, _), (3, _)] (fun y => G :: Fs) (fun y => []) [] (fun y => []) [] (fun y => True) ⟨rfl, rfl, rfl, rfl, trivial⟩ [] rfl [] rfl ?_ ?_
        · rintro _ _
          refine Cov.prune [(28, .bool u19), (0, _), (1, _), (2, _), (3, _)] ⟨rfl, rfl, rfl, rfl, rfl, trivial⟩ ?_
          refine Cov.same (bl' := []) (sl' := []) (Fs' := G :: Fs) rfl rfl rfl ?_
          refine Cov.region_end ?_
          refine Cov.cond rfl (fun c24 => ?_) (fun c24 => ?_)
          · have r25 := ifT r21 c24; clear r21
            refine Cov.seq ?_
            refine Cov.region rfl ?_
            refine Cov.q .ro (.assign rfl) rfl ?_
            refine Cov.q .ro (.assign rfl) rfl ?_
            refine Cov.region_end ?_
            cases r25
            refine Cov.retS (c := ⟨26, none⟩) (.inr ⟨_, rfl⟩) [.tmp 8, .tmp 9] [_, _] rfl Try.func26 Try.results26 ⟨RV.tmp rfl, RV.tmp rfl, trivial⟩ (fun _ h => List.mem_cons_of_mem _ h) ⟨rfl, rfl, rfl⟩
          · have r26 := ifBF r21 c24; clear r21
            refine Cov.skip ?_
            refine Cov.seq ?_
            refine Cov.seq ?_
            refine Cov.region rfl ?_
            refine Cov.q .ro (.move rfl) rfl ?_
            refine Cov.q .ro (.len_sl rfl rfl sl27) rfl ?_
            refine Cov.q .ro (.lss rfl rfl) rfl ?_
            refine Cov.q .ro (.move rfl) rfl ?_
            refine Cov.cutR 5 (β := Unit) (fun y => [(37, .bool (decide (((x2.length : Int) < 1) ∨ (x0 < (x2.length : Int)))))]) [(0, _), (1, _), (2, _), (3, _)] (fun y => G :: Fs) (fun y => []) [] (fun y => []) [] (fun y => True) ⟨rfl, rfl, rfl, rfl, trivial⟩ [] rfl [] rfl ?_ ?_
            · rintro _ _
              refine Cov.prune [(37, .bool (decide (((x2.length : Int) < 1) ∨ (x0 < (x2.length : Int))))), (0, _), (1, _), (2, _), (3, _)] ⟨rfl, rfl, rfl, rfl, rfl, trivial⟩ ?_
              refine Cov.same (bl' := []) (sl' := []) (Fs' := G :: Fs) rfl rfl rfl ?_
              refine Cov.q .ro (.move rfl) rfl ?_
              obtain ⟨u37, h38, r39⟩ := bind_some r26; clear r26
              refine Cov.cutR 4 (β := Unit) (fun y => [(42, .bool u37)]) [(0, _), (1, _), (2, _), (3, _)] (fun y => G :: Fs) (fun y => []) [] (fun y => []) [] (fun y => True) ⟨rfl, rfl, rfl, rfl, trivial⟩ [] rfl [] rfl ?_ ?_
              · rintro _ _
                refine Cov.prune [(42, .bool u37), (0, _), (1, _), (2, _), (3, _)] ⟨rfl, rfl, rfl, rfl, rfl, trivial⟩ ?_
                refine Cov.same (bl' := []) (sl' := []) (Fs' := G :: Fs) rfl rfl rfl ?_
                refine Cov.region_end ?_
                refine Cov.cond rfl (fun c42 => ?_) (fun c42 => ?_)
                · have r43 := ifT r39 c42; clear r39
                  refine Cov.seq ?_
                  refine Cov.region rfl ?_
                  refine Cov.q .ro (.assign rfl) rfl ?_
                  refine Cov.q .ro (.assign rfl) rfl ?_
                  refine Cov.region_end ?_
                  cases r43
                  refine Cov.retS (c := ⟨26, none⟩) (.inr ⟨_, rfl⟩) [.tmp 8, .tmp 9] [_, _] rfl Try.func26 Try.results26 ⟨RV.tmp rfl, RV.tmp rfl, trivial⟩ (fun _ h => List.mem_cons_of_mem _ h) ⟨rfl, rfl, rfl⟩
                · have r44 := ifBF r39 c42; clear r39
                  refine Cov.skip ?_
                  refine Cov.seq ?_
                  refine Cov.region rfl ?_
                  refine Cov.q .ro (.move rfl) rfl ?_
                  refine Cov.q .ro (.move rfl) rfl ?_
                  refine Cov.q .ro (.mulw rfl rfl) rfl ?_
                  refine Cov.q .ro (.move rfl) rfl ?_
                  refine Cov.q .ro (.move rfl) rfl ?_
                  obtain ⟨u45, hu45, r46⟩ := bind_some r44; clear r44
                  refine Cov.callS (b1 := []) (b2 := []) (s1 := []) [_, _] [] .ro rfl rfl Try.call40 rfl rfl (ref21_last_c (G := G) List.mem_cons_self s2 hu45) rfl (fun v48 bo so h47 => ?_)
                  obtain ⟨rfl, rfl, rfl⟩ := h47
                  refine Cov.same (bl' := []) (sl' := []) rfl rfl rfl ?_
                  refine Cov.q .ro (.addw rfl rfl) rfl ?_
                  refine Cov.q .ro (.assign rfl) rfl ?_
                  refine Cov.q .ro (.assign rfl) rfl ?_
                  refine Cov.region_end ?_
                  cases r46
                  refine Cov.retS (c := ⟨26, none⟩) (.inr ⟨_, rfl⟩) [.tmp 8, .tmp 9] [_, _] rfl Try.func26 Try.results26 ⟨RV.tmp rfl, RV.tmp rfl, trivial⟩ (fun _ h => List.mem_cons_of_mem _ h) ⟨rfl, rfl, rfl⟩
              · intro hb36
                refine Cov.split 38 rfl (fun c35 => ?_) (fun c35 => ?_)
                · have r49 := ifT h38 c35
                  refine Cov.g_off rfl rfl rfl ?_
                  refine Cov.g_off rfl rfl rfl ?_
                  refine Cov.g_off rfl rfl rfl ?_
                  refine Cov.q .ro (.pick_t rfl rfl) rfl ?_
                  refine Cov.prune _ ?_ (Cov.same rfl rfl rfl (hb36 () trivial))
                  exact ⟨sval r49, rfl, rfl, rfl, rfl, trivial⟩
                · have r50 := ifF h38 c35
                  refine Cov.g_on rfl ?_
                  refine Cov.q .ro (.move rfl) rfl ?_
                  refine Cov.g_on rfl ?_
                  obtain ⟨u51, hu51, r52⟩ := bind_some r50; clear r50
                  refine Cov.callS (b1 := []) (b2 := []) (s1 := []) [_] [] .ro rfl rfl Try.call36 rfl rfl (ref21_ascend_c (G := G) List.mem_cons_self s2 hu51) rfl (fun v54 bo so h53 => ?_)
                  obtain ⟨rfl, rfl, rfl⟩ := h53
                  refine Cov.same (bl' := []) (sl' := []) rfl rfl rfl ?_
                  refine Cov.g_on rfl ?_
                  refine Cov.q .ro (.not rfl) rfl ?_
                  refine Cov.q .ro (.pick_f rfl rfl) rfl ?_
                  refine Cov.prune _ ?_ (Cov.same rfl rfl rfl (hb36 () trivial))
                  exact ⟨sval r52, rfl, rfl, rfl, rfl, trivial⟩
            · intro hb28
              refine Cov.split 32 rfl (fun c27 => ?_) (fun c27 => ?_)
              · refine Cov.g_off rfl rfl rfl ?_
                refine Cov.g_off rfl rfl rfl ?_
                refine Cov.g_off rfl rfl rfl ?_
                refine Cov.g_off rfl rfl rfl ?_
                refine Cov.q .ro (.pick_t rfl rfl) rfl ?_
                refine Cov.prune _ ?_ (Cov.same rfl rfl rfl (hb28 () trivial))
                exact ⟨dor_t c27, rfl, rfl, rfl, rfl, trivial⟩
              · refine Cov.g_on rfl ?_
                refine Cov.q .ro (.move rfl) rfl ?_
                refine Cov.g_on rfl ?_
                refine Cov.q .ro (.len_sl rfl rfl sl27) rfl ?_
                refine Cov.g_on rfl ?_
                refine Cov.q .ro (.move rfl) rfl ?_
                refine Cov.g_on rfl ?_
                refine Cov.q .ro (.gtr rfl rfl) rfl ?_
                refine Cov.q .ro (.pick_f rfl rfl) rfl ?_
                refine Cov.prune _ ?_ (Cov.same rfl rfl rfl (hb28 () trivial))
                exact ⟨dor_f c27, rfl, rfl, rfl, rfl, trivial⟩
        · intro hb18
          refine Cov.split 24 rfl (fun c17 => ?_) (fun c17 => ?_)
          · have r55 := ifT h20 c17
            refine Cov.g_off rfl rfl rfl ?_
            refine Cov.g_off rfl rfl rfl ?_
            refine Cov.g_off rfl rfl rfl ?_
            refine Cov.q .ro (.pick_t rfl rfl) rfl ?_
            refine Cov.prune _ ?_ (Cov.same rfl rfl rfl (hb18 () trivial))
            exact ⟨sval r55, rfl, rfl, rfl, rfl, trivial⟩
          · have r56 := ifF h20 c17
            refine Cov.g_on rfl ?_
            refine Cov.q .ro (.move rfl) rfl ?_
            refine Cov.g_on rfl ?_
            obtain ⟨u57, hu57, r58⟩ := bind_some r56; clear r56
            refine Cov.callS (b1 := []) (b2 := []) (s1 := []) [_] [] .ro rfl rfl Try.call39 rfl rfl (ref20_Key_c (G := G) List.mem_cons_self  hu57) rfl (fun v60 bo so h59 => ?_)
            obtain ⟨rfl, rfl, rfl⟩ := h59
            refine Cov.same (bl' := []) (sl' := []) rfl rfl rfl ?_
            refine Cov.g_on rfl ?_
            refine Cov.q .ro (.not rfl) rfl ?_
            refine Cov.q .ro (.pick_f rfl rfl) rfl ?_
            refine Cov.prune _ ?_ (Cov.same rfl rfl rfl (hb18 () trivial))
            exact ⟨sval r58, rfl, rfl, rfl, rfl, trivial⟩
      · intro hb10
        refine Cov.split 20 rfl (fun c9 => ?_) (fun c9 => ?_)
        · refine Cov.g_off rfl rfl rfl ?_
          refine Cov.g_off rfl rfl rfl ?_
          refine Cov.q .ro (.pick_t rfl rfl) rfl ?_
          refine Cov.prune _ ?_ (Cov.same rfl rfl rfl (hb10 () trivial))
          exact ⟨dor_t c9, rfl, rfl, rfl, rfl, trivial⟩
        · refine Cov.g_on rfl ?_
          refine Cov.q .ro (.move rfl) rfl ?_
          refine Cov.g_on rfl ?_
          refine Cov.q .ro (.gtr rfl rfl) rfl ?_
          refine Cov.q .ro (.pick_f rfl rfl) rfl ?_
          refine Cov.prune _ ?_ (Cov.same rfl rfl rfl (hb10 () trivial))
          exact ⟨dor_f c9, rfl, rfl, rfl, rfl, trivial⟩
    · intro hb6
      refine Cov.split 16 rfl (fun c5 => ?_) (fun c5 => ?_)
      · refine Cov.g_off rfl rfl rfl ?_
        refine Cov.g_off rfl rfl rfl ?_
        refine Cov.q .ro (.pick_t rfl rfl) rfl ?_
        refine Cov.prune _ ?_ (Cov.same rfl rfl rfl (hb6 () trivial))
        exact ⟨dor_t c5, rfl, rfl, rfl, rfl, trivial⟩
      · refine Cov.g_on rfl ?_
        refine Cov.q .ro (.move rfl) rfl ?_
        refine Cov.g_on rfl ?_
        refine Cov.q .ro (.lss rfl rfl) rfl ?_
        refine Cov.q .ro (.pick_f rfl rfl) rfl ?_
        refine Cov.prune _ ?_ (Cov.same rfl rfl rfl (hb6 () trivial))
        exact ⟨dor_f c5, rfl, rfl, rfl, rfl, trivial⟩
  · intro hb2
    refine Cov.split 12 rfl (fun c1 => ?_) (fun c1 => ?_)
    · refine Cov.g_off rfl rfl rfl ?_
      refine Cov.g_off rfl rfl rfl ?_
      refine Cov.q .ro (.pick_t rfl rfl) rfl ?_
      refine Cov.prune _ ?_ (Cov.same rfl rfl rfl (hb2 () trivial))
      exact ⟨dor_t c1, rfl, rfl, rfl, rfl, trivial⟩
    · refine Cov.g_on rfl ?_
      refine Cov.q .ro (.move rfl) rfl ?_
      refine Cov.g_on rfl ?_
      refine Cov.q .ro (.gtr rfl rfl) rfl ?_
      refine Cov.q .ro (.pick_f rfl rfl) rfl ?_
      refine Cov.prune _ ?_ (Cov.same rfl rfl rfl (hb2 () trivial))
      exact ⟨dor_f c1, rfl, rfl, rfl, rfl, trivial⟩

set_option maxHeartbeats 4000000 in
theorem ref21_Steps_c {Fs : List Hp} {G : Hp} {x0 : Int} {x1 : Int} {r : (Int × Int)} (hG : G ∈ Fs)  (h : ref21_Steps x0 x1 = some r) : RetS Try.prog 27 #[.int .i64 x0, .int .i64 x1] Fs [] [] (fun v bo so => v = .tuple #[.int .i64 r.1, .int .i64 r.2] ∧ bo = [] ∧ so = []) := by
  unfold ref21_Steps at h
  try dsimp only at h
  refine RetS.of (vs := [_, _]) Try.func27 rfl Try.ntmps27 [(0, _), (1, _)] ⟨rfl, rfl, trivial⟩ rfl hG fun w0 S0 hS0 B0 => ?_
  refine Cov.seq ?_
  refine Cov.region rfl ?_
  refine Cov.q .ro (.assign rfl) rfl ?_
  refine Cov.q .ro (.assign rfl) rfl ?_
  refine Cov.region_end ?_
  refine Cov.seq ?_
  refine Cov.seq ?_
  refine Cov.region rfl ?_
  refine Cov.q .ro (.move rfl) rfl ?_
  refine Cov.q .ro (.lss rfl rfl) rfl ?_
  refine Cov.q .ro (.move rfl) rfl ?_
  refine Cov.cutR 3 (β := Unit) (fun y => [(12, .bool (decide ((x0 < 1) ∨ (256 < x0))))]) [(0, _), (1, _)] (fun y => G :: Fs) (fun y => []) [] (fun y => []) [] (fun y => True) ⟨rfl, rfl, trivial⟩ [] rfl [] rfl ?_ ?_
  · rintro _ _
    refine Cov.prune [(12, .bool (decide ((x0 < 1) ∨ (256 < x0)))), (0, _), (1, _)] ⟨rfl, rfl, rfl, trivial⟩ ?_
    refine Cov.same (bl' := []) (sl' := []) (Fs' := G :: Fs) rfl rfl rfl ?_
    refine Cov.q .ro (.move rfl) rfl ?_
    refine Cov.cutR 3 (β := Unit) (fun y => [(16, .bool (decide (((x0 < 1) ∨ (256 < x0)) ∨ (x1 < 2))))]) [(0, _), (1, _)] (fun y => G :: Fs) (fun y => []) [] (fun y => []) [] (fun y => True) ⟨rfl, rfl, trivial⟩ [] rfl [] rfl ?_ ?_
    · rintro _ _
      refine Cov.prune [(16, .bool (decide (((x0 < 1) ∨ (256 < x0)) ∨ (x1 < 2)))), (0, _), (1, _)] ⟨rfl, rfl, rfl, trivial⟩ ?_
      refine Cov.same (bl' := []) (sl' := []) (Fs' := G :: Fs) rfl rfl rfl ?_
      refine Cov.q .ro (.move rfl) rfl ?_
      refine Cov.cutR 3 (β := Unit) (fun y => [(20, .bool (decide ((((x0 < 1) ∨ (256 < x0)) ∨ (x1 < 2)) ∨ (8 < x1))))]) [(0, _), (1, _)] (fun y => G :: Fs) (fun y => []) [] (fun y => []) [] (fun y => True) ⟨rfl, rfl, trivial⟩ [] rfl [] rfl ?_ ?_
      · rintro _ _
        refine Cov.prune [(20, .bool (decide ((((x0 < 1) ∨ (256 < x0)) ∨ (x1 < 2)) ∨ (8 < x1)))), (0, _), (1, _)] ⟨rfl, rfl, rfl, trivial⟩ ?_
        refine Cov.same (bl' := []) (sl' := []) (Fs' := G :: Fs) rfl rfl rfl ?_
        refine Cov.region_end ?_
        refine Cov.cond_dec rfl (fun c13 => ?_) (fun c13 => ?_)
        · have r14 := ifT h c13; clear h
          refine Cov.seq ?_
          refine Cov.region rfl ?_
          refine Cov.q .ro (.assign rfl) rfl ?_
          refine Cov.q .ro (.assign rfl) rfl ?_
          refine Cov.region_end ?_
          cases r14
          refine Cov.retS (c := ⟨27, none⟩) (.inr ⟨_, rfl⟩) [.tmp 4, .tmp 5] [_, _] rfl Try.func27 Try.results27 ⟨RV.tmp rfl, RV.tmp rfl, trivial⟩ (fun _ h => List.mem_cons_of_mem _ h) ⟨rfl, rfl, rfl⟩
        · have r15 := ifF h c13; clear h
          refine Cov.skip ?_
          refine Cov.seq ?_
          refine Cov.region rfl ?_
          refine Cov.q .ro (.assign rfl) rfl ?_
          refine Cov.region_end ?_
          refine Cov.seq ?_
          refine Cov.block ?_
          refine Cov.loop2 (α := Nat × Int × Int) (fun y => [(0, .int .i64 y.2.1), (6, .int .i64 y.2.2)]) [(1, _)] (fun y => []) (fun y => []) [] (fun y => []) [] (fun y => ref21_Steps_L1 x1 y.1 y.2.1 y.2.2 = some r) (fun y => y.1) (big, x0, 1) r15 ⟨rfl, rfl, rfl, trivial⟩ rfl rfl rfl (fun y hI hb29 => ?_)
          obtain ⟨n24, v26, v27⟩ := y
          have r28 := hI; clear hI
          try dsimp only at r28
          refine Cov.prune [(0, .int .i64 v26), (6, .int .i64 v27), (1, _)] ⟨rfl, rfl, rfl, trivial⟩ ?_
          refine Cov.same (bl' := []) (sl' := []) (Fs' := G :: Fs) rfl rfl rfl ?_
          obtain ⟨m32, rfl⟩ : ∃ m, n24 = m + 1 := by cases n24 with | zero => exact absurd (show (none : Option _) = some _ from r28) (by simp) | succ m => exact ⟨m, rfl⟩
          have r31 : ref21_Steps_B1 x1 (ref21_Steps_L1 x1 m32) v26 v27 = some r := r28; clear r28; unfold ref21_Steps_B1 at r31; try dsimp only at r31
          refine Cov.seq ?_
          refine Cov.seq ?_
          refine Cov.region rfl ?_
          refine Cov.q .ro (.move rfl) rfl ?_
          refine Cov.q .ro (.move rfl) rfl ?_
          refine Cov.q .ro (.gtr rfl rfl) rfl ?_
          refine Cov.region_end ?_
          refine Cov.cond_dec rfl (fun c33 => ?_) (fun c33 => ?_)
          · have r34 := ifT r31 c33; clear r31
            refine Cov.skip ?_
            refine Cov.seq ?_
            refine Cov.block ?_
            refine Cov.region rfl ?_
            refine Cov.q .ro (.move rfl) rfl ?_
            refine Cov.q .ro (.addw rfl rfl) rfl ?_
            refine Cov.q .ro (.assign rfl) rfl ?_
            refine Cov.region_end ?_
            refine Cov.inBlock ?_
            refine Cov.region rfl ?_
            refine Cov.q .ro (.move rfl) rfl ?_
            refine Cov.q .ro (.move rfl) rfl ?_
            refine Cov.q .ro (.addw rfl rfl) rfl ?_
            refine Cov.q .ro (.subw rfl rfl) rfl ?_
            refine Cov.q .ro (.move rfl) rfl ?_
            obtain ⟨u35, hu35, r36⟩ := bind_some r34; clear r34
            refine Cov.q .ro (.quow rfl rfl (nz_some hu35)) rfl ?_
            refine Cov.q .ro (.assign rfl) rfl ?_
            refine Cov.region_end ?_
            refine Cov.prune _ ?_ (Cov.same rfl rfl rfl (hb29 (m32, (w64 (Int.tdiv (w64 ((w64 (v26 + x1)) - 1)) x1)), (w64 (v27 + 1))) r36 (Nat.lt_succ_self _)))
            exact ⟨rfl, rfl, rfl, trivial⟩
          · have r37 := ifF r31 c33; clear r31
            refine Cov.exit rfl ?_
            refine Cov.seq ?_
            refine Cov.region rfl ?_
            refine Cov.q .ro (.move rfl) rfl ?_
            refine Cov.q .ro (.assign rfl) rfl ?_
            refine Cov.q .ro (.assign rfl) rfl ?_
            refine Cov.region_end ?_
            cases r37
            refine Cov.retS (c := ⟨27, none⟩) (.inr ⟨_, rfl⟩) [.tmp 4, .tmp 5] [_, _] rfl Try.func27 Try.results27 ⟨RV.tmp rfl, RV.tmp rfl, trivial⟩ (fun _ h => List.mem_cons_of_mem _ h) ⟨rfl, rfl, rfl⟩
      · intro hb10
        refine Cov.split 17 rfl (fun c9 => ?_) (fun c9 => ?_)
        · refine Cov.g_off rfl rfl rfl ?_
          refine Cov.g_off rfl rfl rfl ?_
          refine Cov.q .ro (.pick_t rfl rfl) rfl ?_
          refine Cov.prune _ ?_ (Cov.same rfl rfl rfl (hb10 () trivial))
          exact ⟨dor_t c9, rfl, rfl, trivial⟩
        · refine Cov.g_on rfl ?_
          refine Cov.q .ro (.move rfl) rfl ?_
          refine Cov.g_on rfl ?_
          refine Cov.q .ro (.gtr rfl rfl) rfl ?_
          refine Cov.q .ro (.pick_f rfl rfl) rfl ?_
          refine Cov.prune _ ?_ (Cov.same rfl rfl rfl (hb10 () trivial))
          exact ⟨dor_f c9, rfl, rfl, trivial⟩
    · intro hb6
      refine Cov.split 13 rfl (fun c5 => ?_) (fun c5 => ?_)
      · refine Cov.g_off rfl rfl rfl ?_
        refine Cov.g_off rfl rfl rfl ?_
        refine Cov.q .ro (.pick_t rfl rfl) rfl ?_
        refine Cov.prune _ ?_ (Cov.same rfl rfl rfl (hb6 () trivial))
        exact ⟨dor_t c5, rfl, rfl, trivial⟩
      · refine Cov.g_on rfl ?_
        refine Cov.q .ro (.move rfl) rfl ?_
        refine Cov.g_on rfl ?_
        refine Cov.q .ro (.lss rfl rfl) rfl ?_
        refine Cov.q .ro (.pick_f rfl rfl) rfl ?_
        refine Cov.prune _ ?_ (Cov.same rfl rfl rfl (hb6 () trivial))
        exact ⟨dor_f c5, rfl, rfl, trivial⟩
  · intro hb2
    refine Cov.split 9 rfl (fun c1 => ?_) (fun c1 => ?_)
    · refine Cov.g_off rfl rfl rfl ?_
      refine Cov.g_off rfl rfl rfl ?_
      refine Cov.q .ro (.pick_t rfl rfl) rfl ?_
      refine Cov.prune _ ?_ (Cov.same rfl rfl rfl (hb2 () trivial))
      exact ⟨dor_t c1, rfl, rfl, trivial⟩
    · refine Cov.g_on rfl ?_
      refine Cov.q .ro (.move rfl) rfl ?_
      refine Cov.g_on rfl ?_
      refine Cov.q .ro (.gtr rfl rfl) rfl ?_
      refine Cov.q .ro (.pick_f rfl rfl) rfl ?_
      refine Cov.prune _ ?_ (Cov.same rfl rfl rfl (hb2 () trivial))
      exact ⟨dor_f c1, rfl, rfl, trivial⟩

end Go.Proofs.Ytdchjmophffphaa
