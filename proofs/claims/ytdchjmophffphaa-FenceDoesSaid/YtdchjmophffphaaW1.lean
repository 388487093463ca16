/- The walks. Printed by wip/lift/drive.py. -/
import Derived.Test.YtdchjmophffphaaS
import Derived.Test.YtdchjmophffphaaL7
import Derived.Test.YtdchjmophffphaaRows
namespace Go.Proofs.Ytdchjmophffphaa
open Go.RowKit
set_option linter.unusedSimpArgs false
set_option linter.unusedVariables false

theorem ty3 : TyI Try.prog 3 false 1 8 [.int .i64 0] := ⟨by kernel_rfl, by kernel_rfl, by kernel_rfl, by kernel_rfl⟩
theorem ty5 : TyI Try.prog 5 false 1 1 [.int .u8 0] := ⟨by kernel_rfl, by kernel_rfl, by kernel_rfl, by kernel_rfl⟩
theorem ty9 : TyI Try.prog 9 false 1 16 [.string ⟨#[]⟩] := ⟨by kernel_rfl, by kernel_rfl, by kernel_rfl, by kernel_rfl⟩
theorem ty22 : TyI Try.prog 22 false 1 24 [.slice none 0 0] := ⟨by kernel_rfl, by kernel_rfl, by kernel_rfl, by kernel_rfl⟩
theorem ty27 : TyI Try.prog 27 false 1 24 [.slice none 0 0] := ⟨by kernel_rfl, by kernel_rfl, by kernel_rfl, by kernel_rfl⟩
theorem ty29 : TyI Try.prog 29 true 2 32 [.int .i64 0, .slice none 0 0] := ⟨by kernel_rfl, by kernel_rfl, by kernel_rfl, by kernel_rfl⟩
theorem ty36 : TyI Try.prog 36 false 1 24 [.slice none 0 0] := ⟨by kernel_rfl, by kernel_rfl, by kernel_rfl, by kernel_rfl⟩
theorem ty49 : TyI Try.prog 49 true 2 16 [.int .i64 0, .int .i64 0] := ⟨by kernel_rfl, by kernel_rfl, by kernel_rfl, by kernel_rfl⟩
theorem ty55 : TyI Try.prog 55 true 2 32 [.slice none 0 0, .int .i64 0] := ⟨by kernel_rfl, by kernel_rfl, by kernel_rfl, by kernel_rfl⟩
theorem fl29_0 : fldOf Try.prog 29 0 = some (0, 3) := by kernel_rfl
theorem fl29_1 : fldOf Try.prog 29 1 = some (1, 27) := by kernel_rfl
theorem fl55_0 : fldOf Try.prog 55 0 = some (0, 22) := by kernel_rfl
theorem fl55_1 : fldOf Try.prog 55 1 = some (1, 3) := by kernel_rfl
theorem pl29 : plOf Try.prog 29 = some [(0, 1), (1, 1)] := by kernel_rfl
theorem pl55 : plOf Try.prog 55 = some [(0, 1), (1, 1)] := by kernel_rfl
theorem sl22 : slOf Try.prog 22 = some 3 := by kernel_rfl
theorem sl27 : slOf Try.prog 27 = some 9 := by kernel_rfl
theorem sl36 : slOf Try.prog 36 = some 27 := by kernel_rfl
theorem sl43 : slOf Try.prog 43 = some 29 := by kernel_rfl
theorem sl50 : slOf Try.prog 50 = some 49 := by kernel_rfl
theorem sl57 : slOf Try.prog 57 = some 5 := by kernel_rfl
theorem ar49 : arOf Try.prog 49 = some (2, 3) := by kernel_rfl

set_option maxHeartbeats 4000000 in
theorem fence_sized_c {Fs : List Hp} {G : Hp} {x0 : Int} {r : Bool} (hG : G ∈ Fs)  (h : fence_sized x0 = some r) : RetS Try.prog 34 #[.int .i64 x0] Fs [] [] (fun v bo so => v = .bool r ∧ bo = [] ∧ so = []) := by
  unfold fence_sized at h
  try dsimp only at h
  refine RetS.of (vs := [_]) Try.func34 rfl Try.ntmps34 [(0, _)] ⟨rfl, trivial⟩ rfl hG fun w0 S0 hS0 B0 => ?_
  refine Cov.seq ?_
  refine Cov.region rfl ?_
  refine Cov.q .ro (.assign rfl) rfl ?_
  refine Cov.region_end ?_
  refine Cov.seq ?_
  refine Cov.region rfl ?_
  refine Cov.q .ro (.move rfl) rfl ?_
  refine Cov.q .ro (.geq rfl rfl) rfl ?_
  refine Cov.q .ro (.move rfl) rfl ?_
  refine Cov.cutR 3 (β := Unit) (fun y => [(8, .bool (decide ((2 ≤ x0) ∧ (x0 ≤ 8))))]) [(2, _)] (fun y => G :: Fs) (fun y => []) [] (fun y => []) [] (fun y => True) ⟨rfl, trivial⟩ [] rfl [] rfl ?_ ?_
  · rintro _ _
    refine Cov.prune [(8, .bool (decide ((2 ≤ x0) ∧ (x0 ≤ 8)))), (2, _)] ⟨rfl, rfl, trivial⟩ ?_
    refine Cov.same (bl' := []) (sl' := []) (Fs' := G :: Fs) rfl rfl rfl ?_
    refine Cov.q .ro (.assign rfl) rfl ?_
    refine Cov.region_end ?_
    cases h
    refine Cov.retS (c := ⟨34, none⟩) (.inr ⟨_, rfl⟩) [.tmp 2] [_] rfl Try.func34 Try.results34 ⟨RV.tmp rfl, trivial⟩ (fun _ h => List.mem_cons_of_mem _ h) ⟨rfl, rfl, rfl⟩
  · intro hb2
    refine Cov.split 5 rfl (fun c1 => ?_) (fun c1 => ?_)
    · refine Cov.g_on rfl ?_
      refine Cov.q .ro (.move rfl) rfl ?_
      refine Cov.g_on rfl ?_
      refine Cov.q .ro (.leq rfl rfl) rfl ?_
      refine Cov.q .ro (.pick_t rfl rfl) rfl ?_
      refine Cov.prune _ ?_ (Cov.same rfl rfl rfl (hb2 () trivial))
      exact ⟨dand_t c1, rfl, trivial⟩
    · refine Cov.g_off rfl rfl rfl ?_
      refine Cov.g_off rfl rfl rfl ?_
      refine Cov.q .ro (.pick_f rfl rfl) rfl ?_
      refine Cov.prune _ ?_ (Cov.same rfl rfl rfl (hb2 () trivial))
      exact ⟨dand_f c1, rfl, trivial⟩

set_option maxHeartbeats 4000000 in
theorem fence_proper_c {Fs : List Hp} {G : Hp} {x0 : ByteArray} {r : Bool} (hG : G ∈ Fs)  (h : fence_proper x0 = some r) : RetS Try.prog 30 #[.string x0] Fs [] [] (fun v bo so => v = .bool r ∧ bo = [] ∧ so = []) := by
  unfold fence_proper at h
  try dsimp only at h
  refine RetS.of (vs := [_]) Try.func30 rfl Try.ntmps30 [(0, _)] ⟨rfl, trivial⟩ rfl hG fun w0 S0 hS0 B0 => ?_
  refine Cov.seq ?_
  refine Cov.region rfl ?_
  refine Cov.q .ro (.assign rfl) rfl ?_
  refine Cov.region_end ?_
  refine Cov.seq ?_
  refine Cov.region rfl ?_
  refine Cov.q .ro (.move rfl) rfl ?_
  refine Cov.q .ro (.len_s rfl Try.underlying9) rfl ?_
  refine Cov.q .ro (.geq rfl rfl) rfl ?_
  refine Cov.q .ro (.move rfl) rfl ?_
  refine Cov.cutR 4 (β := Unit) (fun y => [(10, .bool (decide ((1 ≤ (x0.size : Int)) ∧ ((x0.size : Int) ≤ 32))))]) [(2, _)] (fun y => G :: Fs) (fun y => []) [] (fun y => []) [] (fun y => True) ⟨rfl, trivial⟩ [] rfl [] rfl ?_ ?_
  · rintro _ _
    refine Cov.prune [(10, .bool (decide ((1 ≤ (x0.size : Int)) ∧ ((x0.size : Int) ≤ 32)))), (2, _)] ⟨rfl, rfl, trivial⟩ ?_
    refine Cov.same (bl' := []) (sl' := []) (Fs' := G :: Fs) rfl rfl rfl ?_
    refine Cov.q .ro (.assign rfl) rfl ?_
    refine Cov.region_end ?_
    cases h
    refine Cov.retS (c := ⟨30, none⟩) (.inr ⟨_, rfl⟩) [.tmp 2] [_] rfl Try.func30 Try.results30 ⟨RV.tmp rfl, trivial⟩ (fun _ h => List.mem_cons_of_mem _ h) ⟨rfl, rfl, rfl⟩
  · intro hb2
    refine Cov.split 6 rfl (fun c1 => ?_) (fun c1 => ?_)
    · refine Cov.g_on rfl ?_
      refine Cov.q .ro (.move rfl) rfl ?_
      refine Cov.g_on rfl ?_
      refine Cov.q .ro (.len_s rfl Try.underlying9) rfl ?_
      refine Cov.g_on rfl ?_
      refine Cov.q .ro (.leq rfl rfl) rfl ?_
      refine Cov.q .ro (.pick_t rfl rfl) rfl ?_
      refine Cov.prune _ ?_ (Cov.same rfl rfl rfl (hb2 () trivial))
      exact ⟨dand_t c1, rfl, trivial⟩
    · refine Cov.g_off rfl rfl rfl ?_
      refine Cov.g_off rfl rfl rfl ?_
      refine Cov.g_off rfl rfl rfl ?_
      refine Cov.q .ro (.pick_f rfl rfl) rfl ?_
      refine Cov.prune _ ?_ (Cov.same rfl rfl rfl (hb2 () trivial))
      exact ⟨dand_f c1, rfl, trivial⟩

set_option maxHeartbeats 4000000 in
theorem fence_ascend_c {Fs : List Hp} {G : Hp} {a0 : Option Addr} {k0 : Nat} {x0 : List ByteArray} {r : Bool} (hG : G ∈ Fs) (s0 : SlR Rep.str G a0 k0 x0) (h : fence_ascend x0 = some r) : RetS Try.prog 35 #[.slice a0 x0.length k0] Fs [] [] (fun v bo so => v = .bool r ∧ bo = [] ∧ so = []) := by
  unfold fence_ascend at h
  try dsimp only at h
  refine RetS.of (vs := [_]) Try.func35 rfl Try.ntmps35 [(0, _)] ⟨rfl, trivial⟩ rfl hG fun w0 S0 hS0 B0 => ?_
  refine Cov.seq ?_
  refine Cov.region rfl ?_
  refine Cov.q .ro (.assign rfl) rfl ?_
  refine Cov.region_end ?_
  refine Cov.seq ?_
  refine Cov.seq ?_
  refine Cov.region rfl ?_
  refine Cov.q .ro (.move rfl) rfl ?_
  refine Cov.q .ro (.len_sl rfl rfl sl27) rfl ?_
  refine Cov.q .ro (.move rfl) rfl ?_
  refine Cov.region_end ?_
  refine Cov.block ?_
  refine Cov.loop2 (α := Nat × List ByteArray) (fun y => [(7, .int .i64 (y.1 : Int))]) [(0, _), (5, _), (6, _)] (fun y => []) (fun y => []) [] (fun y => []) [] (fun y => List.drop y.1 x0 = y.2 ∧ fence_ascend_L1 x0 y.2 y.1  = some r) (fun y => y.2.length) (0, x0) ⟨rfl, h⟩ ⟨rfl, rfl, rfl, rfl, trivial⟩ rfl rfl rfl (fun y hI hb70 => ?_)
  obtain ⟨i66, w67⟩ := y
  obtain ⟨g68, r69⟩ := hI
  try dsimp only at g68 r69
  refine Cov.prune [(7, .int .i64 (i66 : Int)), (0, _), (5, _), (6, _)] ⟨rfl, rfl, rfl, rfl, trivial⟩ ?_
  refine Cov.same (bl' := []) (sl' := []) (Fs' := G :: Fs) rfl rfl rfl ?_
  cases w67 with
  | nil =>
    rw [fence_ascend_L1] at r69; try dsimp only at r69
    refine Cov.seq ?_
    refine Cov.region rfl ?_
    refine Cov.q .ro (.lss rfl rfl) rfl ?_
    refine Cov.region_end ?_
    refine Cov.seq ?_
    refine Cov.cond_dec rfl (fun c => absurd c (drop_nil g68)) (fun _ => ?_)
    refine Cov.exit rfl ?_
    refine Cov.seq ?_
    refine Cov.region rfl ?_
    refine Cov.q .ro (.assign rfl) rfl ?_
    refine Cov.region_end ?_
    cases r69
    refine Cov.retS (c := ⟨35, none⟩) (.inr ⟨_, rfl⟩) [.tmp 2] [_] rfl Try.func35 Try.results35 ⟨RV.tmp rfl, trivial⟩ (fun _ h => List.mem_cons_of_mem _ h) ⟨rfl, rfl, rfl⟩
  | cons x74 xs75 =>
    have r73 : fence_ascend_B1 x0 (fence_ascend_L1 x0 xs75 (i66 + 1)) x74 i66  = some r := r69; clear r69; unfold fence_ascend_B1 at r73; try dsimp only at r73
    refine Cov.seq ?_
    refine Cov.region rfl ?_
    refine Cov.q .ro (.lss rfl rfl) rfl ?_
    refine Cov.region_end ?_
    refine Cov.seq ?_
    refine Cov.cond_dec rfl (fun _ => ?_) (fun c => absurd (drop_lt g68) c)
    refine Cov.skip ?_
    refine Cov.seq ?_
    refine Cov.block ?_
    refine Cov.seq ?_
    refine Cov.region rfl ?_
    refine Cov.q .ro (.move rfl) rfl ?_
    obtain ⟨c76, p77, h78⟩ := SlR.get s0 (drop_idx g68)
    obtain rfl := h78
    refine Cov.q .ro (.idxR s0 rfl rfl (drop_idx g68) sl27 ty9.sz) rfl ?_
    refine Cov.q .ro (.load_rp p77 List.mem_cons_self rfl ty9 rfl) rfl ?_
    refine Cov.q .ro (.assign rfl) rfl ?_
    refine Cov.q .ro (.assign rfl) rfl ?_
    refine Cov.region_end ?_
    refine Cov.seq ?_
    refine Cov.region rfl ?_
    refine Cov.q .ro (.move rfl) rfl ?_
    obtain ⟨u79, hu79, r80⟩ := bind_some r73; clear r73
    refine Cov.callS (b1 := []) (b2 := []) (s1 := []) [_] [] .ro rfl rfl Try.call30 rfl rfl (fence_proper_c (G := G) List.mem_cons_self  hu79) rfl (fun v82 bo so h81 => ?_)
    obtain ⟨rfl, rfl, rfl⟩ := h81
    refine Cov.same (bl' := []) (sl' := []) rfl rfl rfl ?_
    refine Cov.q .ro (.not rfl) rfl ?_
    refine Cov.q .ro (.move rfl) rfl ?_
    obtain ⟨u104, h105, r106⟩ := bind_some r80; clear r80
    refine Cov.cutR 12 (β := Unit) (fun y => [(27, .bool u104)]) [(7, _), (0, _), (5, _), (6, _)] (fun y => G :: Fs) (fun y => []) [] (fun y => []) [] (fun y => True) ⟨rfl, rfl, rfl, rfl, trivial⟩ [] rfl [] rfl ?_ ?_
    · rintro _ _
      refine Cov.prune [(27, .bool u104), (7, _), (0, _), (5, _), (6, _)] ⟨rfl, rfl, rfl, rfl, rfl, trivial⟩ ?_
      refine Cov.same (bl' := []) (sl' := []) (Fs' := G :: Fs) rfl rfl rfl ?_
      refine Cov.region_end ?_
      refine Cov.cond rfl (fun c109 => ?_) (fun c109 => ?_)
      · have r110 := ifT r106 c109; clear r106
        refine Cov.seq ?_
        refine Cov.region rfl ?_
        refine Cov.q .ro (.assign rfl) rfl ?_
        refine Cov.region_end ?_
        cases r110
        refine Cov.retS (c := ⟨35, none⟩) (.inr ⟨_, rfl⟩) [.tmp 2] [_] rfl Try.func35 Try.results35 ⟨RV.tmp rfl, trivial⟩ (fun _ h => List.mem_cons_of_mem _ h) ⟨rfl, rfl, rfl⟩
      · have r111 := ifBF r106 c109; clear r106
        refine Cov.skip ?_
        refine Cov.inBlock ?_
        refine Cov.region rfl ?_
        refine Cov.q .ro (.addw rfl rfl) rfl ?_
        refine Cov.q .ro (.move rfl) rfl ?_
        refine Cov.region_end ?_
        refine Cov.prune _ ?_ (Cov.same rfl rfl rfl (hb70 ((i66 + 1), xs75) ⟨(drop_succ g68), r111⟩ (Nat.lt_succ_self _)))
        exact ⟨(congrArg (fun z => some (Value.int .i64 z)) (idx_wrap (SlR.len s0) g68)), rfl, rfl, rfl, trivial⟩
    · intro hb103
      refine Cov.split_b 15 rfl (fun c102 => ?_) (fun c102 => ?_)
      · have r112 := ifT h105 c102
        refine Cov.g_off rfl rfl rfl ?_
        refine Cov.g_off rfl rfl rfl ?_
        refine Cov.g_off rfl rfl rfl ?_
        refine Cov.gu_off rfl rfl ?_
        refine Cov.gu_off rfl rfl ?_
        refine Cov.gu_off rfl rfl ?_
        refine Cov.gu_off rfl rfl ?_
        refine Cov.gu_off rfl rfl ?_
        refine Cov.gu_off rfl rfl ?_
        refine Cov.gu_off rfl rfl ?_
        refine Cov.g_off rfl rfl rfl ?_
        refine Cov.q .ro (.pick_t rfl rfl) rfl ?_
        refine Cov.prune _ ?_ (Cov.same rfl rfl rfl (hb103 () trivial))
        exact ⟨sval r112, rfl, rfl, rfl, rfl, trivial⟩
      · have r113 := ifBF h105 c102
        refine Cov.g_on rfl ?_
        refine Cov.q .ro (.move rfl) rfl ?_
        refine Cov.g_on rfl ?_
        refine Cov.q .ro (.gtr rfl rfl) rfl ?_
        refine Cov.g_on rfl ?_
        refine Cov.q .ro (.move rfl) rfl ?_
        obtain ⟨u121, h122, r123⟩ := bind_some r113; clear r113
        refine Cov.cutR 8 (β := Unit) (fun y => [(26, .bool u121)]) [(7, _), (0, _), (5, _), (6, _), (15, _), (16, _), (17, _)] (fun y => G :: Fs) (fun y => []) [] (fun y => []) [] (fun y => True) ⟨rfl, rfl, rfl, rfl, rfl, rfl, rfl, trivial⟩ [] rfl [] rfl ?_ ?_
        · rintro _ _
          refine Cov.prune [(26, .bool u121), (7, _), (0, _), (5, _), (6, _), (15, _), (16, _), (17, _)] ⟨rfl, rfl, rfl, rfl, rfl, rfl, rfl, rfl, trivial⟩ ?_
          refine Cov.same (bl' := []) (sl' := []) (Fs' := G :: Fs) rfl rfl rfl ?_
          refine Cov.q .ro (.pick_f rfl rfl) rfl ?_
          refine Cov.prune _ ?_ (Cov.same rfl rfl rfl (hb103 () trivial))
          exact ⟨sval r123, rfl, rfl, rfl, rfl, trivial⟩
        · intro hb120
          refine Cov.split 18 rfl (fun c119 => ?_) (fun c119 => ?_)
          · have r126 := ifT h122 c119
            refine Cov.g_on rfl ?_
            refine Cov.q .ro (.move rfl) rfl ?_
            refine Cov.g_on rfl ?_
            refine Cov.q .ro (.move rfl) rfl ?_
            refine Cov.g_on rfl ?_
            refine Cov.q .ro (.move rfl) rfl ?_
            refine Cov.g_on rfl ?_
            refine Cov.q .ro (.subw rfl rfl) rfl ?_
            refine Cov.g_on rfl ?_
            obtain ⟨u127, hu127, r128⟩ := bind_some r126; clear r126
            obtain ⟨c129, p130, h131⟩ := SlR.get s0 hu127
            obtain rfl := h131
            refine Cov.q .ro (.idxR s0 rfl rfl hu127 sl27 ty9.sz) rfl ?_
            refine Cov.g_on rfl ?_
            refine Cov.q .ro (.load_rp p130 List.mem_cons_self rfl ty9 rfl) rfl ?_
            refine Cov.g_on rfl ?_
            refine Cov.q .ro (.leq_d rfl rfl) rfl ?_
            refine Cov.g_on rfl ?_
            refine Cov.q .ro (.pick_t rfl rfl) rfl ?_
            refine Cov.prune _ ?_ (Cov.same rfl rfl rfl (hb120 () trivial))
            exact ⟨sval r128, rfl, rfl, rfl, rfl, rfl, rfl, rfl, trivial⟩
          · have r132 := ifF h122 c119
            refine Cov.g_off rfl rfl rfl ?_
            refine Cov.g_off rfl rfl rfl ?_
            refine Cov.g_off rfl rfl rfl ?_
            refine Cov.g_off rfl rfl rfl ?_
            refine Cov.g_off rfl rfl rfl ?_
            refine Cov.g_off rfl rfl rfl ?_
            refine Cov.g_off rfl rfl rfl ?_
            refine Cov.g_on rfl ?_
            refine Cov.q .ro (.pick_f rfl rfl) rfl ?_
            refine Cov.prune _ ?_ (Cov.same rfl rfl rfl (hb120 () trivial))
            exact ⟨sval r132, rfl, rfl, rfl, rfl, rfl, rfl, rfl, trivial⟩

set_option maxHeartbeats 4000000 in
theorem fence_Check_c {Fs : List Hp} {G : Hp} {x0_0 : Int} {a0_1 : Option Addr} {k0_1 : Nat} {x0_1 : List ByteArray} {r : Int} (hG : G ∈ Fs) (s0_1 : SlR Rep.str G a0_1 k0_1 x0_1) (h : fence_Check (x0_0, x0_1) = some r) : RetS Try.prog 18 #[.agg #[.int .i64 x0_0, .slice a0_1 x0_1.length k0_1]] Fs [] [] (fun v bo so => v = .int .i64 r ∧ bo = [] ∧ so = []) := by
  unfold fence_Check at h
  try dsimp only at h
  refine RetS.of (vs := [_]) Try.func18 rfl Try.ntmps18 [(0, _)] ⟨rfl, trivial⟩ rfl hG fun w0 S0 hS0 B0 => ?_
  refine Cov.seq ?_
  refine Cov.region rfl ?_
  refine Cov.box [_, _] .ro rfl rfl rfl (fun b1 hb1 => ?_)
  refine Cov.q .ro (.assign rfl) rfl ?_
  refine Cov.region_end ?_
  refine Cov.seq ?_
  refine Cov.seq ?_
  refine Cov.region rfl ?_
  refine Cov.q .ro (.fieldAddr 0 rfl fl29_0 ty3.sz rfl) rfl ?_
  refine Cov.q .ro (.load_own 0 rfl rfl ty3 rfl) rfl ?_
  obtain ⟨u2, hu2, r3⟩ := bind_some h; clear h
  refine Cov.callS (b1 := []) (b2 := [_]) (s1 := []) [_] [] .ro rfl rfl Try.call34 rfl rfl (fence_sized_c (G := G) List.mem_cons_self  hu2) rfl (fun v5 bo so h4 => ?_)
  obtain ⟨rfl, rfl, rfl⟩ := h4
  refine Cov.same (bl' := [_]) (sl' := []) rfl rfl rfl ?_
  refine Cov.q .ro (.not rfl) rfl ?_
  refine Cov.q .ro (.move rfl) rfl ?_
  refine Cov.cutR 5 (β := Unit) (fun y => [(12, .bool (decide (((!u2) = true) ∨ ((x0_1.length : Int) < 1))))]) [(1, _)] (fun y => G :: Fs) (fun y => []) [_] (fun y => []) [] (fun y => True) ⟨rfl, trivial⟩ [0] rfl [] rfl ?_ ?_
  · rintro _ _
    refine Cov.prune [(12, .bool (decide (((!u2) = true) ∨ ((x0_1.length : Int) < 1)))), (1, _)] ⟨rfl, rfl, trivial⟩ ?_
    refine Cov.same (bl' := [_]) (sl' := []) (Fs' := G :: Fs) rfl rfl rfl ?_
    refine Cov.q .ro (.move rfl) rfl ?_
    refine Cov.cutR 5 (β := Unit) (fun y => [(18, .bool (decide ((((!u2) = true) ∨ ((x0_1.length : Int) < 1)) ∨ (256 < (x0_1.length : Int)))))]) [(1, _)] (fun y => G :: Fs) (fun y => []) [_] (fun y => []) [] (fun y => True) ⟨rfl, trivial⟩ [0] rfl [] rfl ?_ ?_
    · rintro _ _
      refine Cov.prune [(18, .bool (decide ((((!u2) = true) ∨ ((x0_1.length : Int) < 1)) ∨ (256 < (x0_1.length : Int))))), (1, _)] ⟨rfl, rfl, trivial⟩ ?_
      refine Cov.same (bl' := [_]) (sl' := []) (Fs' := G :: Fs) rfl rfl rfl ?_
      refine Cov.q .ro (.move rfl) rfl ?_
      obtain ⟨u20, h21, r22⟩ := bind_some r3; clear r3
      refine Cov.cutR 5 (β := Unit) (fun y => [(24, .bool u20)]) [] (fun y => G :: Fs) (fun y => []) [_] (fun y => []) [] (fun y => True) trivial [0] rfl [] rfl ?_ ?_
      · rintro _ _
        refine Cov.prune [(24, .bool u20)] ⟨rfl, trivial⟩ ?_
        refine Cov.same (bl' := [_]) (sl' := []) (Fs' := G :: Fs) rfl rfl rfl ?_
        refine Cov.region_end ?_
        refine Cov.cond rfl (fun c25 => ?_) (fun c25 => ?_)
        · have r26 := ifT r22 c25; clear r22
          refine Cov.seq ?_
          refine Cov.region rfl ?_
          refine Cov.q .ro (.assign rfl) rfl ?_
          refine Cov.region_end ?_
          cases r26
          refine Cov.drop 1 0 [] _ rfl rfl ?_
          refine Cov.retS (c := ⟨18, none⟩) (.inr ⟨_, rfl⟩) [.tmp 2] [_] rfl Try.func18 Try.results18 ⟨RV.tmp rfl, trivial⟩ (fun _ h => List.mem_cons_of_mem _ h) ⟨rfl, rfl, rfl⟩
        · have r27 := ifBF r22 c25; clear r22
          refine Cov.skip ?_
          refine Cov.seq ?_
          refine Cov.region rfl ?_
          refine Cov.q .ro (.assign rfl) rfl ?_
          refine Cov.region_end ?_
          cases r27
          refine Cov.drop 1 0 [] _ rfl rfl ?_
          refine Cov.retS (c := ⟨18, none⟩) (.inr ⟨_, rfl⟩) [.tmp 2] [_] rfl Try.func18 Try.results18 ⟨RV.tmp rfl, trivial⟩ (fun _ h => List.mem_cons_of_mem _ h) ⟨rfl, rfl, rfl⟩
      · intro hb19
        refine Cov.split 19 rfl (fun c18 => ?_) (fun c18 => ?_)
        · have r28 := ifT h21 c18
          refine Cov.g_off rfl rfl rfl ?_
          refine Cov.g_off rfl rfl rfl ?_
          refine Cov.g_off rfl rfl rfl ?_
          refine Cov.g_off rfl rfl rfl ?_
          refine Cov.q .ro (.pick_t rfl rfl) rfl ?_
          refine Cov.prune _ ?_ (Cov.same rfl rfl rfl (hb19 () trivial))
          exact ⟨sval r28, trivial⟩
        · have r29 := ifF h21 c18
          refine Cov.g_on rfl ?_
          refine Cov.q .ro (.fieldAddr 1 rfl fl29_1 ty27.sz rfl) rfl ?_
          refine Cov.g_on rfl ?_
          refine Cov.q .ro (.load_own 0 rfl rfl ty27 rfl) rfl ?_
          refine Cov.g_on rfl ?_
          obtain ⟨u30, hu30, r31⟩ := bind_some r29; clear r29
          refine Cov.callS (b1 := []) (b2 := [_]) (s1 := []) [_] [] .ro rfl rfl Try.call35 rfl rfl (fence_ascend_c (G := G) List.mem_cons_self s0_1 hu30) rfl (fun v33 bo so h32 => ?_)
          obtain ⟨rfl, rfl, rfl⟩ := h32
          refine Cov.same (bl' := [_]) (sl' := []) rfl rfl rfl ?_
          refine Cov.g_on rfl ?_
          refine Cov.q .ro (.not rfl) rfl ?_
          refine Cov.q .ro (.pick_f rfl rfl) rfl ?_
          refine Cov.prune _ ?_ (Cov.same rfl rfl rfl (hb19 () trivial))
          exact ⟨sval r31, trivial⟩
    · intro hb11
      refine Cov.split 13 rfl (fun c10 => ?_) (fun c10 => ?_)
      · refine Cov.g_off rfl rfl rfl ?_
        refine Cov.g_off rfl rfl rfl ?_
        refine Cov.g_off rfl rfl rfl ?_
        refine Cov.g_off rfl rfl rfl ?_
        refine Cov.q .ro (.pick_t rfl rfl) rfl ?_
        refine Cov.prune _ ?_ (Cov.same rfl rfl rfl (hb11 () trivial))
        exact ⟨dor_t c10, rfl, trivial⟩
      · refine Cov.g_on rfl ?_
        refine Cov.q .ro (.fieldAddr 1 rfl fl29_1 ty27.sz rfl) rfl ?_
        refine Cov.g_on rfl ?_
        refine Cov.q .ro (.load_own 0 rfl rfl ty27 rfl) rfl ?_
        refine Cov.g_on rfl ?_
        refine Cov.q .ro (.len_sl rfl rfl sl27) rfl ?_
        refine Cov.g_on rfl ?_
        refine Cov.q .ro (.gtr rfl rfl) rfl ?_
        refine Cov.q .ro (.pick_f rfl rfl) rfl ?_
        refine Cov.prune _ ?_ (Cov.same rfl rfl rfl (hb11 () trivial))
        exact ⟨dor_f c10, rfl, trivial⟩
  · intro hb7
    refine Cov.split_b 7 rfl (fun c6 => ?_) (fun c6 => ?_)
    · refine Cov.g_off rfl rfl rfl ?_
      refine Cov.g_off rfl rfl rfl ?_
      refine Cov.g_off rfl rfl rfl ?_
      refine Cov.g_off rfl rfl rfl ?_
      refine Cov.q .ro (.pick_t rfl rfl) rfl ?_
      refine Cov.prune _ ?_ (Cov.same rfl rfl rfl (hb7 () trivial))
      exact ⟨dor_t c6, rfl, trivial⟩
    · refine Cov.g_on rfl ?_
      refine Cov.q .ro (.fieldAddr 1 rfl fl29_1 ty27.sz rfl) rfl ?_
      refine Cov.g_on rfl ?_
      refine Cov.q .ro (.load_own 0 rfl rfl ty27 rfl) rfl ?_
      refine Cov.g_on rfl ?_
      refine Cov.q .ro (.len_sl rfl rfl sl27) rfl ?_
      refine Cov.g_on rfl ?_
      refine Cov.q .ro (.lss rfl rfl) rfl ?_
      refine Cov.q .ro (.pick_f rfl rfl) rfl ?_
      refine Cov.prune _ ?_ (Cov.same rfl rfl rfl (hb7 () trivial))
      exact ⟨dor_f (bne_of c6), rfl, trivial⟩

set_option maxHeartbeats 4000000 in
theorem sort_Search_c {Fs : List Hp} {G : Hp} {x0 : Int} {F1 : FuncId} {c1 : List Value} {x1 : Int → Option Bool} {r : Int} (hG : G ∈ Fs) (hc1 : ∀ args w, (callFunc F1 args).run Try.prog w = .ok (.enter F1 args) w) (hf1 : ∀ (Fs' : List Hp) (G1 : Hp), HpLe G G1 → G1 ∈ Fs' → ∀ (y0 : Int) (r : Bool), x1 y0 = some r → RetS Try.prog F1 (([.int .i64 y0] : List Value) ++ c1).toArray Fs' [] [] (fun v bo so => v = .bool r ∧ bo = [] ∧ so = [])) (h : sort_Search x0 x1 = some r) : RetS Try.prog 41 #[.int .i64 x0, .func (.func F1) #[] c1.toArray] Fs [] [] (fun v bo so => v = .int .i64 r ∧ bo = [] ∧ so = []) := by
  unfold sort_Search at h
  try dsimp only at h
  refine RetS.of (vs := [_, _]) Try.func41 rfl Try.ntmps41 [(0, _), (1, _)] ⟨rfl, rfl, trivial⟩ rfl hG fun w0 S0 hS0 B0 => ?_
  refine Cov.seq ?_
  refine Cov.region rfl ?_
  refine Cov.q .ro (.assign rfl) rfl ?_
  refine Cov.region_end ?_
  refine Cov.seq ?_
  refine Cov.region rfl ?_
  refine Cov.q .ro (.move rfl) rfl ?_
  refine Cov.q .ro (.assign rfl) rfl ?_
  refine Cov.q .ro (.assign rfl) rfl ?_
  refine Cov.region_end ?_
  refine Cov.seq ?_
  refine Cov.block ?_
  refine Cov.loop2 (α := Nat × Int × Int) (fun y => [(5, .int .i64 y.2.1), (6, .int .i64 y.2.2)]) [(1, _)] (fun y => []) (fun y => []) [] (fun y => []) [] (fun y => sort_Search_L1 x1 y.1 y.2.1 y.2.2 = some r) (fun y => y.1) (big, 0, x0) h ⟨rfl, rfl, rfl, trivial⟩ rfl rfl rfl (fun y hI hb19 => ?_)
  obtain ⟨n14, v16, v17⟩ := y
  have r18 := hI; clear hI
  try dsimp only at r18
  refine Cov.prune [(5, .int .i64 v16), (6, .int .i64 v17), (1, _)] ⟨rfl, rfl, rfl, trivial⟩ ?_
  refine Cov.same (bl' := []) (sl' := []) (Fs' := G :: Fs) rfl rfl rfl ?_
  obtain ⟨m22, rfl⟩ : ∃ m, n14 = m + 1 := by cases n14 with | zero => exact absurd (show (none : Option _) = some _ from r18) (by simp) | succ m => exact ⟨m, rfl⟩
  have r21 : sort_Search_B1 x1 (sort_Search_L1 x1 m22) v16 v17 = some r := r18; clear r18; unfold sort_Search_B1 at r21; try dsimp only at r21
  refine Cov.seq ?_
  refine Cov.seq ?_
  refine Cov.region rfl ?_
  refine Cov.q .ro (.move rfl) rfl ?_
  refine Cov.q .ro (.move rfl) rfl ?_
  refine Cov.q .ro (.lss rfl rfl) rfl ?_
  refine Cov.region_end ?_
  refine Cov.cond_dec rfl (fun c23 => ?_) (fun c23 => ?_)
  · have r24 := ifT r21 c23; clear r21
    refine Cov.skip ?_
    refine Cov.block ?_
    refine Cov.seq ?_
    refine Cov.region rfl ?_
    refine Cov.q .ro (.move rfl) rfl ?_
    refine Cov.q .ro (.move rfl) rfl ?_
    refine Cov.q .ro (.addw rfl rfl) rfl ?_
    refine Cov.q .ro (.convw Try.underlying3 Try.underlying73 rfl) rfl ?_
    refine Cov.q .ro (.shr1 rfl rfl (by decide)) rfl ?_
    refine Cov.q .ro (.convw Try.underlying73 Try.underlying3 rfl) rfl ?_
    refine Cov.q .ro (.assign rfl) rfl ?_
    refine Cov.region_end ?_
    refine Cov.seq ?_
    refine Cov.region rfl ?_
    refine Cov.q .ro (.move rfl) rfl ?_
    refine Cov.q .ro (.move rfl) rfl ?_
    obtain ⟨u25, hu25, r26⟩ := bind_some r24; clear r24
    refine Cov.callS (b1 := []) (b2 := []) (s1 := []) [_] c1 .ro rfl rfl hc1 rfl rfl (hf1 _ G (HpLe.refl _) List.mem_cons_self _ _  hu25) rfl (fun v28 bo so h27 => ?_)
    obtain ⟨rfl, rfl, rfl⟩ := h27
    refine Cov.same (bl' := []) (sl' := []) rfl rfl rfl ?_
    refine Cov.q .ro (.not rfl) rfl ?_
    refine Cov.region_end ?_
    refine Cov.cond rfl (fun c29 => ?_) (fun c29 => ?_)
    · have r30 := ifT r26 c29; clear r26
      refine Cov.region rfl ?_
      refine Cov.q .ro (.move rfl) rfl ?_
      refine Cov.q .ro (.addw rfl rfl) rfl ?_
      refine Cov.q .ro (.assign rfl) rfl ?_
      refine Cov.region_end ?_
      refine Cov.prune [(5, _), (6, _), (1, _)] ⟨rfl, rfl, rfl, trivial⟩ ?_
      refine Cov.inBlock ?_
      refine Cov.prune _ ?_ (Cov.same rfl rfl rfl (hb19 (m22, (w64 ((w64 ((IntKind.u64.wrap (w64 (v16 + v17))) / 2)) + 1)), v17) r30 (Nat.lt_succ_self _)))
      exact ⟨rfl, rfl, rfl, trivial⟩
    · have r31 := ifBF r26 c29; clear r26
      refine Cov.region rfl ?_
      refine Cov.q .ro (.move rfl) rfl ?_
      refine Cov.q .ro (.assign rfl) rfl ?_
      refine Cov.region_end ?_
      refine Cov.prune [(5, _), (6, _), (1, _)] ⟨rfl, rfl, rfl, trivial⟩ ?_
      refine Cov.inBlock ?_
      refine Cov.prune _ ?_ (Cov.same rfl rfl rfl (hb19 (m22, v16, (w64 ((IntKind.u64.wrap (w64 (v16 + v17))) / 2))) r31 (Nat.lt_succ_self _)))
      exact ⟨rfl, rfl, rfl, trivial⟩
  · have r32 := ifF r21 c23; clear r21
    refine Cov.exit rfl ?_
    refine Cov.seq ?_
    refine Cov.region rfl ?_
    refine Cov.q .ro (.move rfl) rfl ?_
    refine Cov.q .ro (.assign rfl) rfl ?_
    refine Cov.region_end ?_
    cases r32
    refine Cov.retS (c := ⟨41, none⟩) (.inr ⟨_, rfl⟩) [.tmp 4] [_] rfl Try.func41 Try.results41 ⟨RV.tmp rfl, trivial⟩ (fun _ h => List.mem_cons_of_mem _ h) ⟨rfl, rfl, rfl⟩

set_option maxHeartbeats 4000000 in
theorem sort_SearchStrings_f1_c {Fs : List Hp} {G : Hp} {x0 : Int} {p1 : Value} {a1 : Option Addr} {k1 : Nat} {x1 : List ByteArray} {p2 : Value} {x2 : ByteArray} {r : Bool} (hG : G ∈ Fs) (hp1 : Rp G p1 [.slice a1 x1.length k1]) (s1 : SlR Rep.str G a1 k1 x1) (hp2 : Rp G p2 [.string x2]) (h : sort_SearchStrings_f1 x0 x1 x2 = some r) : RetS Try.prog 42 #[.int .i64 x0, p1, p2] Fs [] [] (fun v bo so => v = .bool r ∧ bo = [] ∧ so = []) := by
  unfold sort_SearchStrings_f1 at h
  try dsimp only at h
  refine RetS.of (vs := [_, _, _]) Try.func42 rfl Try.ntmps42 [(0, _), (1, _), (2, _)] ⟨rfl, rfl, rfl, trivial⟩ rfl hG fun w0 S0 hS0 B0 => ?_
  refine Cov.seq ?_
  refine Cov.region rfl ?_
  refine Cov.q .ro (.assign rfl) rfl ?_
  refine Cov.region_end ?_
  refine Cov.seq ?_
  refine Cov.drawL (.q 0 (.q 1 (.q 2 (.q 3 (.q 4 (.q 5 (.q 6 .nil))))))) [] (by kernel_rfl) (by kernel_rfl) (pick_mem [] rfl) ?_
  refine Cov.dq (.load_rp hp1 List.mem_cons_self rfl ty27 rfl) rfl ?_
  refine Cov.dq (.move rfl) rfl ?_
  obtain ⟨u1, hu1, r2⟩ := bind_some h; clear h
  obtain ⟨c3, p4, h5⟩ := SlR.get s1 hu1
  obtain rfl := h5
  refine Cov.dq (.idxR s1 rfl rfl hu1 sl27 ty9.sz) rfl ?_
  refine Cov.dq (.load_rp p4 List.mem_cons_self rfl ty9 rfl) rfl ?_
  refine Cov.dq (.load_rp hp2 List.mem_cons_self rfl ty9 rfl) rfl ?_
  refine Cov.dq (.geq_d rfl rfl) rfl ?_
  refine Cov.dq (.assign rfl) rfl ?_
  refine Cov.draw_end ?_
  cases r2
  refine Cov.retS (c := ⟨42, none⟩) (.inr ⟨_, rfl⟩) [.tmp 4] [_] rfl Try.func42 Try.results42 ⟨RV.tmp rfl, trivial⟩ (fun _ h => List.mem_cons_of_mem _ h) ⟨rfl, rfl, rfl⟩

set_option maxHeartbeats 4000000 in
theorem sort_SearchStrings_c {Fs : List Hp} {G : Hp} {a0 : Option Addr} {k0 : Nat} {x0 : List ByteArray} {x1 : ByteArray} {r : Int} (hG : G ∈ Fs) (s0 : SlR Rep.str G a0 k0 x0) (h : sort_SearchStrings x0 x1 = some r) : RetS Try.prog 31 #[.slice a0 x0.length k0, .string x1] Fs [] [] (fun v bo so => v = .int .i64 r ∧ bo = [] ∧ so = []) := by
  unfold sort_SearchStrings at h
  try dsimp only at h
  refine RetS.of (vs := [_, _]) Try.func31 rfl Try.ntmps31 [(0, _), (1, _)] ⟨rfl, rfl, trivial⟩ rfl hG fun w0 S0 hS0 B0 => ?_
  refine Cov.seq ?_
  refine Cov.region rfl ?_
  refine Cov.box [_] .ro rfl rfl rfl (fun b1 hb1 => ?_)
  refine Cov.box [_] .ro rfl rfl rfl (fun b2 hb2 => ?_)
  refine Cov.q .ro (.assign rfl) rfl ?_
  refine Cov.region_end ?_
  refine Cov.seq ?_
  refine Cov.region rfl ?_
  refine Cov.q .ro (.load_own 1 rfl rfl ty27 rfl) rfl ?_
  refine Cov.q .ro (.len_sl rfl rfl sl27) rfl ?_
  refine Cov.q .ro (.makeFunc (vf := []) (vc := [_, _]) rfl rfl) rfl ?_
  refine Cov.freezeBR 1 rfl [_] rfl B0 (fun G3 e4 B5 p6 => ?_)
  refine Cov.freezeBR 0 rfl [] rfl B5 (fun G8 e9 B10 p11 => ?_)
  obtain ⟨u13, hu13, r14⟩ := bind_some h; clear h
  refine Cov.callS (b1 := []) (b2 := []) (s1 := []) [_, _] [] .ro rfl rfl Try.call41 rfl rfl (sort_Search_c (G := G8) List.mem_cons_self Try.call42 (fun Fs' G1 hle hm y0 r  hr => sort_SearchStrings_f1_c (G := G1) hm  (Rp.mono hle (Rp.mono e9 p6)) (SlR.mono hle (SlR.mono (HpLe.trans e4 e9) s0)) (Rp.mono hle p11) hr) hu13) rfl (fun v16 bo so h15 => ?_)
  obtain ⟨rfl, rfl, rfl⟩ := h15
  refine Cov.same (bl' := []) (sl' := []) rfl rfl rfl ?_
  refine Cov.q .ro (.assign rfl) rfl ?_
  refine Cov.region_end ?_
  cases r14
  refine Cov.retS (c := ⟨31, none⟩) (.inr ⟨_, rfl⟩) [.tmp 4] [_] rfl Try.func31 Try.results31 ⟨RV.tmp rfl, trivial⟩ (fun _ h => List.mem_cons_of_mem _ h) ⟨rfl, rfl, rfl⟩

set_option maxHeartbeats 4000000 in
theorem fence_behind_f1_c {Fs : List Hp} {G : Hp} {x0 : Int} {p1 : Value} {a1 : Option Addr} {k1 : Nat} {x1 : List ByteArray} {p2 : Value} {x2 : ByteArray} {r : Bool} (hG : G ∈ Fs) (hp1 : Rp G p1 [.slice a1 x1.length k1]) (s1 : SlR Rep.str G a1 k1 x1) (hp2 : Rp G p2 [.string x2]) (h : fence_behind_f1 x0 x1 x2 = some r) : RetS Try.prog 47 #[.int .i64 x0, p1, p2] Fs [] [] (fun v bo so => v = .bool r ∧ bo = [] ∧ so = []) := by
  unfold fence_behind_f1 at h
  try dsimp only at h
  refine RetS.of (vs := [_, _, _]) Try.func47 rfl Try.ntmps47 [(0, _), (1, _), (2, _)] ⟨rfl, rfl, rfl, trivial⟩ rfl hG fun w0 S0 hS0 B0 => ?_
  refine Cov.seq ?_
  refine Cov.region rfl ?_
  refine Cov.q .ro (.assign rfl) rfl ?_
  refine Cov.region_end ?_
  refine Cov.seq ?_
  refine Cov.drawL (.q 0 (.q 1 (.q 2 (.q 3 (.q 4 (.q 5 (.q 6 .nil))))))) [] (by kernel_rfl) (by kernel_rfl) (pick_mem [] rfl) ?_
  refine Cov.dq (.load_rp hp1 List.mem_cons_self rfl ty27 rfl) rfl ?_
  refine Cov.dq (.move rfl) rfl ?_
  obtain ⟨u1, hu1, r2⟩ := bind_some h; clear h
  obtain ⟨c3, p4, h5⟩ := SlR.get s1 hu1
  obtain rfl := h5
  refine Cov.dq (.idxR s1 rfl rfl hu1 sl27 ty9.sz) rfl ?_
  refine Cov.dq (.load_rp p4 List.mem_cons_self rfl ty9 rfl) rfl ?_
  refine Cov.dq (.load_rp hp2 List.mem_cons_self rfl ty9 rfl) rfl ?_
  refine Cov.dq (.gtr_d rfl rfl) rfl ?_
  refine Cov.dq (.assign rfl) rfl ?_
  refine Cov.draw_end ?_
  cases r2
  refine Cov.retS (c := ⟨47, none⟩) (.inr ⟨_, rfl⟩) [.tmp 4] [_] rfl Try.func47 Try.results47 ⟨RV.tmp rfl, trivial⟩ (fun _ h => List.mem_cons_of_mem _ h) ⟨rfl, rfl, rfl⟩

set_option maxHeartbeats 4000000 in
theorem fence_behind_c {Fs : List Hp} {G : Hp} {a0 : Option Addr} {k0 : Nat} {x0 : List ByteArray} {x1 : ByteArray} {r : Int} (hG : G ∈ Fs) (s0 : SlR Rep.str G a0 k0 x0) (h : fence_behind x0 x1 = some r) : RetS Try.prog 43 #[.slice a0 x0.length k0, .string x1] Fs [] [] (fun v bo so => v = .int .i64 r ∧ bo = [] ∧ so = []) := by
  unfold fence_behind at h
  try dsimp only at h
  refine RetS.of (vs := [_, _]) Try.func43 rfl Try.ntmps43 [(0, _), (1, _)] ⟨rfl, rfl, trivial⟩ rfl hG fun w0 S0 hS0 B0 => ?_
  refine Cov.seq ?_
  refine Cov.region rfl ?_
  refine Cov.box [_] .ro rfl rfl rfl (fun b1 hb1 => ?_)
  refine Cov.box [_] .ro rfl rfl rfl (fun b2 hb2 => ?_)
  refine Cov.q .ro (.assign rfl) rfl ?_
  refine Cov.region_end ?_
  refine Cov.seq ?_
  refine Cov.region rfl ?_
  refine Cov.q .ro (.load_own 1 rfl rfl ty27 rfl) rfl ?_
  refine Cov.q .ro (.len_sl rfl rfl sl27) rfl ?_
  refine Cov.q .ro (.makeFunc (vf := []) (vc := [_, _]) rfl rfl) rfl ?_
  refine Cov.freezeBR 1 rfl [_] rfl B0 (fun G3 e4 B5 p6 => ?_)
  refine Cov.freezeBR 0 rfl [] rfl B5 (fun G8 e9 B10 p11 => ?_)
  obtain ⟨u13, hu13, r14⟩ := bind_some h; clear h
  refine Cov.callS (b1 := []) (b2 := []) (s1 := []) [_, _] [] .ro rfl rfl Try.call41 rfl rfl (sort_Search_c (G := G8) List.mem_cons_self Try.call47 (fun Fs' G1 hle hm y0 r  hr => fence_behind_f1_c (G := G1) hm  (Rp.mono hle (Rp.mono e9 p6)) (SlR.mono hle (SlR.mono (HpLe.trans e4 e9) s0)) (Rp.mono hle p11) hr) hu13) rfl (fun v16 bo so h15 => ?_)
  obtain ⟨rfl, rfl, rfl⟩ := h15
  refine Cov.same (bl' := []) (sl' := []) rfl rfl rfl ?_
  refine Cov.q .ro (.assign rfl) rfl ?_
  refine Cov.region_end ?_
  cases r14
  refine Cov.retS (c := ⟨43, none⟩) (.inr ⟨_, rfl⟩) [.tmp 4] [_] rfl Try.func43 Try.results43 ⟨RV.tmp rfl, trivial⟩ (fun _ h => List.mem_cons_of_mem _ h) ⟨rfl, rfl, rfl⟩

set_option maxHeartbeats 4000000 in
theorem fence_last_c {Fs : List Hp} {G : Hp} {a0 : Option Addr} {k0 : Nat} {x0 : List ByteArray} {x1 : ByteArray} {r : Int} (hG : G ∈ Fs) (s0 : SlR Rep.str G a0 k0 x0) (h : fence_last x0 x1 = some r) : RetS Try.prog 32 #[.slice a0 x0.length k0, .string x1] Fs [] [] (fun v bo so => v = .int .i64 r ∧ bo = [] ∧ so = []) := by
  unfold fence_last at h
  try dsimp only at h
  refine RetS.of (vs := [_, _]) Try.func32 rfl Try.ntmps32 [(0, _), (1, _)] ⟨rfl, rfl, trivial⟩ rfl hG fun w0 S0 hS0 B0 => ?_
  refine Cov.seq ?_
  refine Cov.region rfl ?_
  refine Cov.q .ro (.assign rfl) rfl ?_
  refine Cov.region_end ?_
  refine Cov.seq ?_
  refine Cov.region rfl ?_
  refine Cov.q .ro (.move rfl) rfl ?_
  refine Cov.q .ro (.move rfl) rfl ?_
  obtain ⟨u1, hu1, r2⟩ := bind_some h; clear h
  refine Cov.callS (b1 := []) (b2 := []) (s1 := []) [_, _] [] .ro rfl rfl Try.call43 rfl rfl (fence_behind_c (G := G) List.mem_cons_self s0 hu1) rfl (fun v4 bo so h3 => ?_)
  obtain ⟨rfl, rfl, rfl⟩ := h3
  refine Cov.same (bl' := []) (sl' := []) rfl rfl rfl ?_
  refine Cov.q .ro (.subw rfl rfl) rfl ?_
  refine Cov.q .ro (.max2 rfl rfl) rfl ?_
  refine Cov.q .ro (.assign rfl) rfl ?_
  refine Cov.region_end ?_
  cases r2
  refine Cov.retS (c := ⟨32, none⟩) (.inr ⟨_, rfl⟩) [.tmp 4] [_] rfl Try.func32 Try.results32 ⟨RV.tmp rfl, trivial⟩ (fun _ h => List.mem_cons_of_mem _ h) ⟨rfl, rfl, rfl⟩

set_option maxHeartbeats 4000000 in
theorem fence_Range_c {Fs : List Hp} {G : Hp} {x0_0 : Int} {a0_1 : Option Addr} {k0_1 : Nat} {x0_1 : List ByteArray} {x1 : ByteArray} {x2 : Int} {r : ((List Int) × Int × Int)} (hG : G ∈ Fs) (s0_1 : SlR Rep.str G a0_1 k0_1 x0_1) (h : fence_Range (x0_0, x0_1) x1 x2 = some r) : RetS Try.prog 13 #[.agg #[.int .i64 x0_0, .slice a0_1 x0_1.length k0_1], .string x1, .int .i64 x2] Fs [] [] (fun v bo so => ∃ (oa0 : Option Addr) (ok0 : Nat) (oc0 : List Value), v = .tuple #[.slice oa0 r.1.length ok0, .int .i64 r.2.1, .int .i64 r.2.2] ∧ bo = [] ∧ so = [.s (.slice oa0 r.1.length ok0) 3 1 r.1.length oc0] ∧ OL (Rep.int .i64) G oc0 r.1) := by
  unfold fence_Range at h
  try dsimp only at h
  refine RetS.of (vs := [_, _, _]) Try.func13 rfl Try.ntmps13 [(0, _), (1, _), (2, _)] ⟨rfl, rfl, rfl, trivial⟩ rfl hG fun w0 S0 hS0 B0 => ?_
  refine Cov.seq ?_
  refine Cov.region rfl ?_
  refine Cov.box [_, _] .ro rfl rfl rfl (fun b1 hb1 => ?_)
  refine Cov.q .ro (.assign rfl) rfl ?_
  refine Cov.q .ro (.assign rfl) rfl ?_
  refine Cov.q .ro (.assign rfl) rfl ?_
  refine Cov.region_end ?_
  refine Cov.seq ?_
  refine Cov.seq ?_
  refine Cov.region rfl ?_
  refine Cov.q .ro (.load_own_a 0 [_, _] rfl rfl ty29 rfl) rfl ?_
  obtain ⟨u2, hu2, r3⟩ := bind_some h; clear h
  refine Cov.callS (b1 := []) (b2 := [_]) (s1 := []) [_] [] .ro rfl rfl Try.call18 rfl rfl (fence_Check_c (G := G) List.mem_cons_self s0_1 hu2) rfl (fun v5 bo so h4 => ?_)
  obtain ⟨rfl, rfl, rfl⟩ := h4
  refine Cov.same (bl' := [_]) (sl' := []) rfl rfl rfl ?_
  refine Cov.q .ro (.assign rfl) rfl ?_
  refine Cov.region_end ?_
  refine Cov.seq ?_
  refine Cov.region rfl ?_
  refine Cov.q .ro (.move rfl) rfl ?_
  refine Cov.q .ro (.neq rfl rfl) rfl ?_
  refine Cov.region_end ?_
  refine Cov.cond_dec rfl (fun c6 => ?_) (fun c6 => ?_)
  · have r7 := ifT r3 c6; clear r3
    refine Cov.seq ?_
    refine Cov.region rfl ?_
    refine Cov.q .ro (.move rfl) rfl ?_
    refine Cov.q .ro (.assign rfl) rfl ?_
    refine Cov.q .ro (.assign rfl) rfl ?_
    refine Cov.q .ro (.assign rfl) rfl ?_
    refine Cov.region_end ?_
    refine Cov.own_nil 3 1 ?_
    cases r7
    refine Cov.drop 1 0 [] _ rfl rfl ?_
    refine Cov.retS (c := ⟨13, none⟩) (.inr ⟨_, rfl⟩) [.tmp 6, .tmp 7, .tmp 8] [_, _, _] rfl Try.func13 Try.results13 ⟨RV.tmp rfl, RV.tmp rfl, RV.tmp rfl, trivial⟩ (fun _ h => List.mem_cons_of_mem _ h) ⟨none, 0, [], rfl, rfl, rfl, (OL.nil (Rp' := (Rep.int .i64)))⟩
  · have r9 := ifF r3 c6; clear r3
    refine Cov.skip ?_
    refine Cov.seq ?_
    refine Cov.seq ?_
    refine Cov.region rfl ?_
    refine Cov.q .ro (.move rfl) rfl ?_
    obtain ⟨u10, hu10, r11⟩ := bind_some r9; clear r9
    refine Cov.callS (b1 := []) (b2 := [_]) (s1 := []) [_] [] .ro rfl rfl Try.call30 rfl rfl (fence_proper_c (G := G) List.mem_cons_self  hu10) rfl (fun v13 bo so h12 => ?_)
    obtain ⟨rfl, rfl, rfl⟩ := h12
    refine Cov.same (bl' := [_]) (sl' := []) rfl rfl rfl ?_
    refine Cov.q .ro (.not rfl) rfl ?_
    refine Cov.q .ro (.move rfl) rfl ?_
    refine Cov.cutR 3 (β := Unit) (fun y => [(25, .bool (decide (((!u10) = true) ∨ (x2 < 1))))]) [(1, _), (2, _), (3, _)] (fun y => G :: Fs) (fun y => []) [_] (fun y => []) [] (fun y => True) ⟨rfl, rfl, rfl, trivial⟩ [0] rfl [] rfl ?_ ?_
    · rintro _ _
      refine Cov.prune [(25, .bool (decide (((!u10) = true) ∨ (x2 < 1)))), (1, _), (2, _), (3, _)] ⟨rfl, rfl, rfl, rfl, trivial⟩ ?_
      refine Cov.same (bl' := [_]) (sl' := []) (Fs' := G :: Fs) rfl rfl rfl ?_
      refine Cov.q .ro (.move rfl) rfl ?_
      refine Cov.cutR 3 (β := Unit) (fun y => [(29, .bool (decide ((((!u10) = true) ∨ (x2 < 1)) ∨ (64 < x2))))]) [(1, _), (2, _), (3, _)] (fun y => G :: Fs) (fun y => []) [_] (fun y => []) [] (fun y => True) ⟨rfl, rfl, rfl, trivial⟩ [0] rfl [] rfl ?_ ?_
      · rintro _ _
        refine Cov.prune [(29, .bool (decide ((((!u10) = true) ∨ (x2 < 1)) ∨ (64 < x2)))), (1, _), (2, _), (3, _)] ⟨rfl, rfl, rfl, rfl, trivial⟩ ?_
        refine Cov.same (bl' := [_]) (sl' := []) (Fs' := G :: Fs) rfl rfl rfl ?_
        refine Cov.region_end ?_
        refine Cov.cond_dec rfl (fun c22 => ?_) (fun c22 => ?_)
        · have r23 := ifT r11 c22; clear r11
          refine Cov.seq ?_
          refine Cov.region rfl ?_
          refine Cov.q .ro (.assign rfl) rfl ?_
          refine Cov.q .ro (.assign rfl) rfl ?_
          refine Cov.q .ro (.assign rfl) rfl ?_
          refine Cov.region_end ?_
          refine Cov.own_nil 3 1 ?_
          cases r23
          refine Cov.drop 1 0 [] _ rfl rfl ?_
          refine Cov.retS (c := ⟨13, none⟩) (.inr ⟨_, rfl⟩) [.tmp 6, .tmp 7, .tmp 8] [_, _, _] rfl Try.func13 Try.results13 ⟨RV.tmp rfl, RV.tmp rfl, RV.tmp rfl, trivial⟩ (fun _ h => List.mem_cons_of_mem _ h) ⟨none, 0, [], rfl, rfl, rfl, (OL.nil (Rp' := (Rep.int .i64)))⟩
        · have r25 := ifF r11 c22; clear r11
          refine Cov.skip ?_
          refine Cov.seq ?_
          refine Cov.region rfl ?_
          refine Cov.q .ro (.fieldAddr 1 rfl fl29_1 ty27.sz rfl) rfl ?_
          refine Cov.q .ro (.load_own 0 rfl rfl ty27 rfl) rfl ?_
          refine Cov.q .ro (.move rfl) rfl ?_
          obtain ⟨u26, hu26, r27⟩ := bind_some r25; clear r25
          refine Cov.callS (b1 := []) (b2 := [_]) (s1 := []) [_, _] [] .ro rfl rfl Try.call31 rfl rfl (sort_SearchStrings_c (G := G) List.mem_cons_self s0_1 hu26) rfl (fun v29 bo so h28 => ?_)
          obtain ⟨rfl, rfl, rfl⟩ := h28
          refine Cov.same (bl' := [_]) (sl' := []) rfl rfl rfl ?_
          refine Cov.q .ro (.assign rfl) rfl ?_
          refine Cov.region_end ?_
          refine Cov.seq ?_
          refine Cov.region rfl ?_
          refine Cov.q .ro (.fieldAddr 1 rfl fl29_1 ty27.sz rfl) rfl ?_
          refine Cov.q .ro (.load_own 0 rfl rfl ty27 rfl) rfl ?_
          refine Cov.q .ro (.len_sl rfl rfl sl27) rfl ?_
          refine Cov.q .ro (.subw rfl rfl) rfl ?_
          refine Cov.q .ro (.fieldAddr 0 rfl fl29_0 ty3.sz rfl) rfl ?_
          refine Cov.q .ro (.load_own 0 rfl rfl ty3 rfl) rfl ?_
          obtain ⟨u30, hu30, r31⟩ := bind_some r27; clear r27
          refine Cov.q .ro (.quow rfl rfl (nz_some hu30)) rfl ?_
          refine Cov.q .ro (.assign rfl) rfl ?_
          refine Cov.region_end ?_
          refine Cov.seq ?_
          refine Cov.region rfl ?_
          refine Cov.q .ro (.assign rfl) rfl ?_
          refine Cov.region_end ?_
          refine Cov.seq ?_
          refine Cov.seq ?_
          refine Cov.region rfl ?_
          refine Cov.q .ro (.move rfl) rfl ?_
          refine Cov.q .ro (.move rfl) rfl ?_
          refine Cov.region_end ?_
          refine Cov.prune [(1, _), (3, _), (10, _), (11, _), (12, _), (41, _), (42, _)] ⟨rfl, rfl, rfl, rfl, rfl, rfl, rfl, trivial⟩ ?_
          refine Cov.block ?_
          refine Cov.own_nil 3 1 ?_
          refine Cov.loop2 (α := Nat × List Int × Option Addr × Nat × List Value × Int) (fun y => [(12, .slice y.2.2.1 y.2.1.length y.2.2.2.1), (42, .int .i64 y.2.2.2.2.2)]) [(1, _), (3, _), (10, _), (11, _), (41, _)] (fun y => []) (fun y => []) [_] (fun y => [.s (.slice y.2.2.1 y.2.1.length y.2.2.2.1) 3 1 y.2.1.length y.2.2.2.2.1]) [] (fun y => OL (Rep.int .i64) G y.2.2.2.2.1 y.2.1 ∧ fence_Range_L1 x1 u26 (w64 (Int.tdiv (w64 ((x0_1.length : Int) - 1)) x0_0)) x2 x0_0 x0_1 y.1 y.2.1 y.2.2.2.2.2 = some r) (fun y => y.1) (big, ([] : List Int), none, 0, [], 0) ⟨(OL.nil (Rp' := (Rep.int .i64))), r31⟩ ⟨rfl, rfl, rfl, rfl, rfl, rfl, rfl, trivial⟩ rfl rfl rfl (fun y hI hb92 => ?_)
          obtain ⟨n82, v84, a85, k86, cs87, v90⟩ := y
          obtain ⟨o88, r91⟩ := hI
          try dsimp only at o88 r91
          refine Cov.prune [(12, .slice a85 v84.length k86), (42, .int .i64 v90), (1, _), (3, _), (10, _), (11, _), (41, _)] ⟨rfl, rfl, rfl, rfl, rfl, rfl, rfl, trivial⟩ ?_
          refine Cov.same (bl' := [_]) (sl' := [.s (.slice a85 v84.length k86) 3 1 v84.length cs87]) (Fs' := G :: Fs) rfl rfl rfl ?_
          obtain ⟨m100, rfl⟩ : ∃ m, n82 = m + 1 := by cases n82 with | zero => exact absurd (show (none : Option _) = some _ from r91) (by simp) | succ m => exact ⟨m, rfl⟩
          have r99 : fence_Range_B1 x1 u26 (w64 (Int.tdiv (w64 ((x0_1.length : Int) - 1)) x0_0)) x2 x0_0 x0_1 (fence_Range_L1 x1 u26 (w64 (Int.tdiv (w64 ((x0_1.length : Int) - 1)) x0_0)) x2 x0_0 x0_1 m100) v84 v90 = some r := r91; clear r91; unfold fence_Range_B1 at r99; try dsimp only at r99
          refine Cov.seq ?_
          refine Cov.region rfl ?_
          refine Cov.q .ro (.lss rfl rfl) rfl ?_
          refine Cov.region_end ?_
          refine Cov.seq ?_
          refine Cov.cond_dec rfl (fun c101 => ?_) (fun c101 => ?_)
          · have r102 := ifT r99 c101; clear r99
            refine Cov.skip ?_
            refine Cov.seq ?_
            refine Cov.block ?_
            refine Cov.seq ?_
            refine Cov.region rfl ?_
            refine Cov.q .ro (.move rfl) rfl ?_
            refine Cov.q .ro (.assign rfl) rfl ?_
            refine Cov.region_end ?_
            refine Cov.drawL (.q 0 (.q 1 (.q 2 (.q 3 (.q 5 (.q 6 (.q 8 (.q 10 (.e 4 1 (.q 7 (.q 9 (.q 11 (.e 12 1 (.e 13 1 (.q 14 .nil))))))))))))))) [_] (by kernel_rfl) (by kernel_rfl) (pick_mem [0] rfl) ?_
            refine Cov.dq (.move rfl) rfl ?_
            refine Cov.dq (.fieldAddr 1 rfl fl29_1 ty27.sz rfl) rfl ?_
            refine Cov.dq (.load_own 0 rfl rfl ty27 rfl) rfl ?_
            refine Cov.dq (.move rfl) rfl ?_
            refine Cov.dq (.fieldAddr 0 rfl fl29_0 ty3.sz rfl) rfl ?_
            refine Cov.dq (.load_own 0 rfl rfl ty3 rfl) rfl ?_
            refine Cov.dq (.move rfl) rfl ?_
            refine Cov.dq (.move rfl) rfl ?_
            obtain ⟨u103, hu103, r104⟩ := bind_some r102; clear r102
            refine Cov.callS (b1 := []) (b2 := [_]) (s1 := []) [_, _] [] .d1 rfl rfl Try.call32 rfl rfl (fence_last_c (G := G) List.mem_cons_self s0_1 hu103) rfl (fun v106 bo so h105 => ?_)
            obtain ⟨rfl, rfl, rfl⟩ := h105
            refine Cov.same (bl' := [_]) (sl' := [_]) rfl rfl rfl ?_
            refine Cov.clsL (HpLe.refl _) (pick_mem [0] rfl) ?_
            obtain ⟨u107, hu107, r108⟩ := bind_some r104; clear r104
            refine Cov.dq (.quow rfl rfl (nz_some hu107)) rfl ?_
            refine Cov.dq (.addw rfl rfl) rfl ?_
            refine Cov.dq (.min2 rfl rfl) rfl ?_
            refine Cov.lit [_] [(0, _)] .d1 sl22 ty3 rfl rfl rfl rfl rfl rfl (fun b109 hb109 => ?_)
            have o110 : OL (Rep.int .i64) G [.int .i64 (min (w64 ((w64 (Int.tdiv u103 x0_0)) + v90)) (w64 (Int.tdiv (w64 ((x0_1.length : Int) - 1)) x0_0)))] ([(min (w64 ((w64 (Int.tdiv u103 x0_0)) + v90)) (w64 (Int.tdiv (w64 ((x0_1.length : Int) - 1)) x0_0)))] : List Int) := ((OL.cons rfl (Rep.intI .i64 (min (w64 ((w64 (Int.tdiv u103 x0_0)) + v90)) (w64 (Int.tdiv (w64 ((x0_1.length : Int) - 1)) x0_0)))) (OL.nil (Rp' := (Rep.int .i64)))) :)
            refine Cov.reval 57 (n' := ([(min (w64 ((w64 (Int.tdiv u103 x0_0)) + v90)) (w64 (Int.tdiv (w64 ((x0_1.length : Int) - 1)) x0_0)))] : List Int).length) rfl rfl ?_
            refine Cov.clsL (HpLe.refl _) (pick_mem [0] rfl) ?_
            obtain ⟨u116, hu116, r117⟩ := bind_some r108; clear r108
            refine Cov.appO (Q := (Rep.int .i64)) 0 .d1 sl22 ty3 rfl rfl rfl rfl rfl rfl o88 o110 rfl rfl rfl B0 hu116 rfl (fun a112 k113 cs114 o115 => ?_)
            refine Cov.clsL (HpLe.refl _) (pick_mem [0] rfl) ?_
            refine Cov.dq (.assign rfl) rfl ?_
            refine Cov.draw_end ?_
            refine Cov.prune [(12, _), (42, _), (1, _), (3, _), (10, _), (11, _), (41, _)] ⟨rfl, rfl, rfl, rfl, rfl, rfl, rfl, trivial⟩ ?_
            refine Cov.inBlock ?_
            refine Cov.region rfl ?_
            refine Cov.q .ro (.addw rfl rfl) rfl ?_
            refine Cov.q .ro (.move rfl) rfl ?_
            refine Cov.region_end ?_
            refine Cov.prune _ ?_ (Cov.same rfl rfl rfl (hb92 (m100, u116, a112, k113, cs114, (w64 (v90 + 1))) ⟨o115, r117⟩ (Nat.lt_succ_self _)))
            exact ⟨rfl, rfl, rfl, rfl, rfl, rfl, rfl, trivial⟩
          · have r119 := ifF r99 c101; clear r99
            refine Cov.exit rfl ?_
            refine Cov.seq ?_
            refine Cov.region rfl ?_
            refine Cov.q .ro (.move rfl) rfl ?_
            refine Cov.q .ro (.move rfl) rfl ?_
            refine Cov.q .ro (.assign rfl) rfl ?_
            refine Cov.q .ro (.assign rfl) rfl ?_
            refine Cov.q .ro (.assign rfl) rfl ?_
            refine Cov.region_end ?_
            cases r119
            refine Cov.drop 1 0 [] _ rfl rfl ?_
            refine Cov.retS (c := ⟨13, none⟩) (.inr ⟨_, rfl⟩) [.tmp 6, .tmp 7, .tmp 8] [_, _, _] rfl Try.func13 Try.results13 ⟨RV.tmp rfl, RV.tmp rfl, RV.tmp rfl, trivial⟩ (fun _ h => List.mem_cons_of_mem _ h) ⟨a85, k86, cs87, rfl, rfl, rfl, o88⟩
      · intro hb19
        refine Cov.split 26 rfl (fun c18 => ?_) (fun c18 => ?_)
        · refine Cov.g_off rfl rfl rfl ?_
          refine Cov.g_off rfl rfl rfl ?_
          refine Cov.q .ro (.pick_t rfl rfl) rfl ?_
          refine Cov.prune _ ?_ (Cov.same rfl rfl rfl (hb19 () trivial))
          exact ⟨dor_t c18, rfl, rfl, rfl, trivial⟩
        · refine Cov.g_on rfl ?_
          refine Cov.q .ro (.move rfl) rfl ?_
          refine Cov.g_on rfl ?_
          refine Cov.q .ro (.gtr rfl rfl) rfl ?_
          refine Cov.q .ro (.pick_f rfl rfl) rfl ?_
          refine Cov.prune _ ?_ (Cov.same rfl rfl rfl (hb19 () trivial))
          exact ⟨dor_f c18, rfl, rfl, rfl, trivial⟩
    · intro hb15
      refine Cov.split_b 22 rfl (fun c14 => ?_) (fun c14 => ?_)
      · refine Cov.g_off rfl rfl rfl ?_
        refine Cov.g_off rfl rfl rfl ?_
        refine Cov.q .ro (.pick_t rfl rfl) rfl ?_
        refine Cov.prune _ ?_ (Cov.same rfl rfl rfl (hb15 () trivial))
        exact ⟨dor_t c14, rfl, rfl, rfl, trivial⟩
      · refine Cov.g_on rfl ?_
        refine Cov.q .ro (.move rfl) rfl ?_
        refine Cov.g_on rfl ?_
        refine Cov.q .ro (.lss rfl rfl) rfl ?_
        refine Cov.q .ro (.pick_f rfl rfl) rfl ?_
        refine Cov.prune _ ?_ (Cov.same rfl rfl rfl (hb15 () trivial))
        exact ⟨dor_f (bne_of c14), rfl, rfl, rfl, trivial⟩

set_option maxHeartbeats 4000000 in
theorem slices_Clone_Lstringstring_c {Fs : List Hp} {G : Hp} {a0 : Option Addr} {k0 : Nat} {x0 : List ByteArray} {r : (List ByteArray)} (hG : G ∈ Fs) (s0 : SlR Rep.str G a0 k0 x0) (h : slices_Clone_Lstringstring x0 = some r) : RetS Try.prog 44 #[.slice a0 x0.length k0] Fs [] [] (fun v bo so => ∃ (oa0 : Option Addr) (ok0 : Nat) (oc0 : List Value), v = .slice oa0 r.length ok0 ∧ bo = [] ∧ so = [.s (.slice oa0 r.length ok0) 9 1 r.length oc0] ∧ OL Rep.str G oc0 r) := by
  unfold slices_Clone_Lstringstring at h
  try dsimp only at h
  refine RetS.of (vs := [_]) Try.func44 rfl Try.ntmps44 [(0, _)] ⟨rfl, trivial⟩ rfl hG fun w0 S0 hS0 B0 => ?_
  refine Cov.seq ?_
  refine Cov.region rfl ?_
  refine Cov.q .ro (.assign rfl) rfl ?_
  refine Cov.region_end ?_
  refine Cov.seq ?_
  refine Cov.seq ?_
  refine Cov.region rfl ?_
  refine Cov.q .ro (.move rfl) rfl ?_
  refine Cov.q .ro (.eqnil Try.underlying27 rfl rfl) rfl ?_
  refine Cov.region_end ?_
  refine Cov.cond rfl (fun c1 => ?_) (fun _ => ?_)
  · have h2 := SlR.isnil s0 c1
    refine Cov.seq ?_
    refine Cov.region rfl ?_
    refine Cov.q .ro (.assign rfl) rfl ?_
    refine Cov.region_end ?_
    refine Cov.own_nil 9 1 ?_
    obtain rfl := nil_clone h2 h
    refine Cov.retS (c := ⟨44, none⟩) (.inr ⟨_, rfl⟩) [.tmp 2] [_] rfl Try.func44 Try.results44 ⟨RV.tmp rfl, trivial⟩ (fun _ h => List.mem_cons_of_mem _ h) ⟨none, 0, [], rfl, rfl, rfl, (OL.nil (Rp' := Rep.str))⟩
  · refine Cov.skip ?_
    refine Cov.seq ?_
    refine Cov.region rfl ?_
    refine Cov.lit [] [] .ro sl27 ty9 rfl rfl rfl rfl rfl rfl (fun b4 hb4 => ?_)
    have o5 : OL Rep.str G [] ([] : List ByteArray) := ((OL.nil (Rp' := Rep.str)) :)
    refine Cov.reval 5 (n' := ([] : List ByteArray).length) rfl rfl ?_
    refine Cov.q .ro (.move rfl) rfl ?_
    obtain ⟨u11, hu11, r12⟩ := bind_some h; clear h
    refine Cov.appR (Q := Rep.str) 0 .ro sl27 ty9 rfl rfl rfl rfl rfl o5 rfl rfl s0 rfl List.mem_cons_self hu11 rfl (fun a7 k8 cs9 o10 => ?_)
    refine Cov.q .ro (.assign rfl) rfl ?_
    refine Cov.region_end ?_
    cases r12
    refine Cov.retS (c := ⟨44, none⟩) (.inr ⟨_, rfl⟩) [.tmp 2] [_] rfl Try.func44 Try.results44 ⟨RV.tmp rfl, trivial⟩ (fun _ h => List.mem_cons_of_mem _ h) ⟨a7, k8, cs9, rfl, rfl, rfl, o10⟩

set_option maxHeartbeats 4000000 in
theorem slices_Chunk_Lstringstring_f1_i {Fs : List Hp} {G : Hp} {p1 : Value} {a1 : Option Addr} {k1 : Nat} {x1 : List ByteArray} {p2 : Value} {x2 : Int} {l : (List (List ByteArray))} (hG : G ∈ Fs) (hp1 : Rp G p1 [.slice a1 x1.length k1]) (s1 : SlR Rep.str G a1 k1 x1) (hp2 : Rp G p2 [.int .i64 x2]) (h : slices_Chunk_Lstringstring_f1 x1 x2 = some l) : Iter Try.prog 48 [p1, p2] Fs l.length (fun i v => ∃ x, l[i]? = some x ∧ (Yr.v (Rep.sl Rep.str)).r G v x) := by
  unfold slices_Chunk_Lstringstring_f1 at h
  try dsimp only at h
  intro y 𝒢 R0 hy hR0
  refine RetG.of (vs := [_, _, _]) Try.func48 rfl Try.ntmps48 [(0, _), (1, _), (2, _)] ⟨rfl, rfl, rfl, trivial⟩ rfl fun w0 => Cov.dup hG ?_
  have B0 : Bd w0 (blks [] [.g R0]) Fs G := Bd.fin hG
  generalize hS0 : blks [] [.g R0] = S0 at B0 ⊢
  refine Cov.seq ?_
  refine Cov.region rfl ?_
  refine Cov.q .ro (.assign rfl) rfl ?_
  refine Cov.region_end ?_
  refine Cov.block ?_
  refine Cov.loop2 (α := Nat × Guest × Nat × Int) (fun y => [(4, .int .i64 y.2.2.2)]) [(0, _), (1, _), (2, _)] (fun y => []) (fun y => []) [] (fun y => [.g y.2.1]) [] (fun y => 𝒢 y.2.2.1 y.2.1 ∧ y.2.2.1 ≤ l.length ∧ slices_Chunk_Lstringstring_f1_L1 x1 x2 y.1 y.2.2.2 = some (List.drop y.2.2.1 l)) (fun y => y.1) (big, R0, 0, 0) ⟨hR0, (Nat.zero_le _), h⟩ ⟨rfl, rfl, rfl, rfl, trivial⟩ rfl rfl rfl (fun y hI hb30 => ?_)
  obtain ⟨n22, R24, i25, v28⟩ := y
  obtain ⟨hR26, le27, r29⟩ := hI
  try dsimp only at hR26 le27 r29
  refine Cov.prune [(4, .int .i64 v28), (0, _), (1, _), (2, _)] ⟨rfl, rfl, rfl, rfl, trivial⟩ ?_
  refine Cov.same (bl' := []) (sl' := [.g R24]) (Fs' := G :: Fs) rfl rfl rfl ?_
  obtain ⟨m34, rfl⟩ : ∃ m, n22 = m + 1 := by cases n22 with | zero => exact absurd (show (none : Option _) = some _ from r29) (by simp) | succ m => exact ⟨m, rfl⟩
  have r33 : slices_Chunk_Lstringstring_f1_B1 x1 x2 (slices_Chunk_Lstringstring_f1_L1 x1 x2 m34) v28 = some (List.drop i25 l) := r29; clear r29; unfold slices_Chunk_Lstringstring_f1_B1 at r33; try dsimp only at r33
  refine Cov.seq ?_
  refine Cov.seq ?_
  refine Cov.region rfl ?_
  refine Cov.q .ro (.move rfl) rfl ?_
  refine Cov.q .ro (.load_rp hp1 List.mem_cons_self rfl ty27 rfl) rfl ?_
  refine Cov.q .ro (.len_sl rfl rfl sl27) rfl ?_
  refine Cov.q .ro (.lss rfl rfl) rfl ?_
  refine Cov.region_end ?_
  refine Cov.cond_dec rfl (fun c35 => ?_) (fun c35 => ?_)
  · have r36 := ifT r33 c35; clear r33
    refine Cov.skip ?_
    refine Cov.seq ?_
    refine Cov.block ?_
    refine Cov.seq ?_
    refine Cov.drawL (.q 0 (.q 1 (.q 2 (.q 3 (.q 4 (.q 5 (.q 6 .nil))))))) [] (by kernel_rfl) (by kernel_rfl) (pick_mem [] rfl) ?_
    refine Cov.dq (.load_rp hp2 List.mem_cons_self rfl ty3 rfl) rfl ?_
    refine Cov.dq (.load_rp hp1 List.mem_cons_self rfl ty27 rfl) rfl ?_
    refine Cov.dq (.move rfl) rfl ?_
    obtain ⟨u37, hu37, r38⟩ := bind_some r36; clear r36
    obtain ⟨a39, k40, h41, s42⟩ := SlR.sub s1 hu37
    refine Cov.dq (.sliceR s1 rfl hu37 sl27 ty9.sz (fun h => .yes' rfl h) (fun _ => .no) h41) rfl ?_
    refine Cov.dq (.len_sl rfl rfl sl27) rfl ?_
    refine Cov.dq (.min2 rfl rfl) rfl ?_
    refine Cov.dq (.assign rfl) rfl ?_
    refine Cov.draw_end ?_
    refine Cov.seq ?_
    refine Cov.region rfl ?_
    refine Cov.q .ro (.move rfl) rfl ?_
    refine Cov.q .ro (.load_rp hp1 List.mem_cons_self rfl ty27 rfl) rfl ?_
    refine Cov.q .ro (.move rfl) rfl ?_
    refine Cov.q .ro (.move rfl) rfl ?_
    refine Cov.q .ro (.move rfl) rfl ?_
    refine Cov.q .ro (.addw rfl rfl) rfl ?_
    refine Cov.q .ro (.move rfl) rfl ?_
    refine Cov.q .ro (.move rfl) rfl ?_
    refine Cov.q .ro (.addw rfl rfl) rfl ?_
    obtain ⟨u43, hu43, r44⟩ := bind_some r38; clear r38
    obtain ⟨a45, k46, h47, s48⟩ := SlR.sub3 s1 hu43
    refine Cov.q .ro (.sliceR3 s1 rfl hu43 sl27 ty9.sz rfl rfl rfl h47) rfl ?_
    obtain ⟨h49, r50⟩ := yc_some r44; clear r44
    refine Cov.yield hy ⟨_, h49, ⟨_, rfl, ((Rep.slI s48) :)⟩⟩ hR26 (fun _ h => List.mem_cons_of_mem _ h) rfl rfl rfl (fun R51 hR52 => ?_)
    refine Cov.q .ro (.not_t rfl) rfl ?_
    refine Cov.region_end ?_
    refine Cov.prune [(4, _), (0, _), (1, _), (2, _), (30, _)] ⟨rfl, rfl, rfl, rfl, rfl, trivial⟩ ?_
    refine Cov.cond_false rfl ?_
    refine Cov.skip ?_
    refine Cov.inBlock ?_
    refine Cov.region rfl ?_
    refine Cov.q .ro (.move rfl) rfl ?_
    refine Cov.q .ro (.load_rp hp2 List.mem_cons_self rfl ty3 rfl) rfl ?_
    refine Cov.q .ro (.addw rfl rfl) rfl ?_
    refine Cov.q .ro (.assign rfl) rfl ?_
    refine Cov.region_end ?_
    refine Cov.prune _ ?_ (Cov.same rfl rfl rfl (hb30 (m34, R51, (i25 + 1), (w64 (v28 + x2))) ⟨hR52, (yc_le h49), r50⟩ (Nat.lt_succ_self _)))
    exact ⟨rfl, rfl, rfl, rfl, trivial⟩
  · have r53 := ifF r33 c35; clear r33
    refine Cov.exit rfl ?_
    have hi := yc_end r53 le27
    refine Cov.leave (c := ⟨48, none⟩) (.inl rfl) [] [] rfl Try.func48 Try.results48 trivial (fun _ h => List.mem_cons_of_mem _ h) (.inl rfl) (fresh_emp _) ⟨rfl, R24, hi ▸ hR26, rfl⟩

set_option maxHeartbeats 4000000 in
theorem slices_Chunk_Lstringstring_c {Fs : List Hp} {G : Hp} {a0 : Option Addr} {k0 : Nat} {x0 : List ByteArray} {x1 : Int} {r : (List (List ByteArray))} (hG : G ∈ Fs) (s0 : SlR Rep.str G a0 k0 x0) (h : slices_Chunk_Lstringstring x0 x1 = some r) : RetW Try.prog 45 #[.slice a0 x0.length k0, .int .i64 x1] Fs [] [] (fun v bo so G => ∃ (Fi0 : FuncId) (ci0 : List Value), v = .func (.func Fi0) #[] ci0.toArray ∧ bo = [] ∧ so = [] ∧ (∀ args w, (callFunc Fi0 args).run Try.prog w = .ok (.enter Fi0 args) w) ∧ IterR Try.prog (Yr.v (Rep.sl Rep.str)) Fi0 ci0 G r) := by
  unfold slices_Chunk_Lstringstring at h
  try dsimp only at h
  refine RetW.of (vs := [_, _]) Try.func45 rfl Try.ntmps45 [(0, _), (1, _)] ⟨rfl, rfl, trivial⟩ rfl hG fun w0 S0 hS0 B0 => ?_
  refine Cov.seq ?_
  refine Cov.region rfl ?_
  refine Cov.box [_] .ro rfl rfl rfl (fun b1 hb1 => ?_)
  refine Cov.box [_] .ro rfl rfl rfl (fun b2 hb2 => ?_)
  refine Cov.q .ro (.assign rfl) rfl ?_
  refine Cov.region_end ?_
  refine Cov.seq ?_
  refine Cov.seq ?_
  refine Cov.region rfl ?_
  refine Cov.q .ro (.load_own 0 rfl rfl ty3 rfl) rfl ?_
  refine Cov.q .ro (.lss rfl rfl) rfl ?_
  refine Cov.region_end ?_
  refine Cov.cutI (β := Unit) (fun y => []) [(2, _), (3, _)] (fun y => G :: Fs) (fun y => []) [_, _] (fun y => []) [] (fun y => (slices_Chunk_Lstringstring_J1 x1 x0)  = some r) ⟨rfl, rfl, trivial⟩ [0, 1] rfl [] rfl ?_ ?_
  · intro _ hI
    have r8 := hI; clear hI
    refine Cov.prune [(2, _), (3, _)] ⟨rfl, rfl, trivial⟩ ?_
    refine Cov.same (bl' := [_, _]) (sl' := []) (Fs' := G :: Fs) rfl rfl rfl ?_
    unfold slices_Chunk_Lstringstring_J1 at r8
    try dsimp only at r8
    refine Cov.seq ?_
    refine Cov.region rfl ?_
    refine Cov.q .ro (.makeFunc (vf := []) (vc := [_, _]) rfl rfl) rfl ?_
    refine Cov.q .ro (.assign rfl) rfl ?_
    refine Cov.region_end ?_
    refine Cov.freezeBR 1 rfl [_] rfl B0 (fun G11 e12 B13 p14 => ?_)
    refine Cov.freezeBR 0 rfl [] rfl B13 (fun G16 e17 B18 p19 => ?_)
    obtain ⟨u21, hu21, r22⟩ := bind_some r8; clear r8
    cases r22
    refine Cov.retW (c := ⟨45, none⟩) (.inr ⟨_, rfl⟩) [.tmp 4] [_] rfl Try.func45 Try.results45 ⟨RV.tmp rfl, trivial⟩ (fun _ h => List.mem_cons_of_mem _ h) List.mem_cons_self B18 (by subst hS0; simp [blks]) (fun G' hg => ⟨_, _, rfl, rfl, rfl, Try.call48, (fun Fs' G1 hle hm => slices_Chunk_Lstringstring_f1_i (G := G1) hm (Rp.mono (HpLe.trans hg hle) (Rp.mono e17 p14)) (SlR.mono (HpLe.trans hg hle) (SlR.mono (HpLe.trans e12 e17) s0)) (Rp.mono (HpLe.trans hg hle) p19) hu21)⟩)
  · intro hb23
    refine Cov.cond_dec rfl (fun c24 => ?_) (fun c24 => ?_)
    · have r25 := ifT h c24; clear h
      refine Cov.region rfl ?_
      exact absurd r25 (by simp)
    · have r26 := ifF h c24; clear h
      refine Cov.skip ?_
      refine Cov.prune _ ?_ (Cov.same rfl rfl rfl (hb23 () r26))
      exact ⟨rfl, rfl, trivial⟩

set_option maxHeartbeats 4000000 in
theorem fence_levels_c {Fs : List Hp} {G : Hp} {x0_0 : Int} {a0_1 : Option Addr} {k0_1 : Nat} {x0_1 : List ByteArray} {r : (List (List ByteArray))} (hG : G ∈ Fs) (s0_1 : SlR Rep.str G a0_1 k0_1 x0_1) (h : fence_levels (x0_0, x0_1) = some r) : RetW Try.prog 33 #[.agg #[.int .i64 x0_0, .slice a0_1 x0_1.length k0_1]] Fs [] [] (fun v bo so G => ∃ (oa0 : Option Addr) (ok0 : Nat) (oc0 : List Value), v = .slice oa0 r.length ok0 ∧ bo = [] ∧ so = [.s (.slice oa0 r.length ok0) 27 1 r.length oc0] ∧ OL (Rep.sl Rep.str) G oc0 r) := by
  unfold fence_levels at h
  try dsimp only at h
  refine RetW.of (vs := [_]) Try.func33 rfl Try.ntmps33 [(0, _)] ⟨rfl, trivial⟩ rfl hG fun w0 S0 hS0 B0 => ?_
  refine Cov.marks0 ?_
  refine Cov.seq ?_
  refine Cov.region rfl ?_
  refine Cov.box [_, _] .ro rfl rfl rfl (fun b1 hb1 => ?_)
  refine Cov.q .ro (.assign rfl) rfl ?_
  refine Cov.region_end ?_
  refine Cov.seq ?_
  refine Cov.region rfl ?_
  refine Cov.q .ro (.fieldAddr 1 rfl fl29_1 ty27.sz rfl) rfl ?_
  refine Cov.q .ro (.load_own 0 rfl rfl ty27 rfl) rfl ?_
  obtain ⟨u2, hu2, r3⟩ := bind_some h; clear h
  refine Cov.callS (b1 := []) (b2 := [_]) (s1 := []) [_] [] .ro rfl rfl Try.call44 rfl rfl (slices_Clone_Lstringstring_c (G := G) List.mem_cons_self s0_1 hu2) rfl (fun v5 bo so h4 => ?_)
  obtain ⟨a7, k8, cs9, rfl, rfl, rfl, o10⟩ := h4
  refine Cov.same (bl' := [_]) (sl' := [_, _]) rfl rfl rfl ?_
  refine Cov.freezeR 0 rfl rfl o10 [_] rfl B0 (fun G11 e12 B13 s14 => ?_)
  refine Cov.lit [_] [(0, _)] .ro sl36 ty27 rfl rfl rfl rfl rfl rfl (fun b16 hb16 => ?_)
  have o17 : OL (Rep.sl Rep.str) G11 [.slice a7 u2.length k8] ([u2] : List (List ByteArray)) := ((OL.cons rfl (Rep.slI s14) (OL.nil (Rp' := (Rep.sl Rep.str)))) :)
  refine Cov.reval 10 (n' := ([u2] : List (List ByteArray)).length) rfl rfl ?_
  refine Cov.q .ro (.assign rfl) rfl ?_
  refine Cov.region_end ?_
  refine Cov.seq ?_
  refine Cov.seq ?_
  refine Cov.region rfl ?_
  refine Cov.q .ro (.fieldAddr 1 rfl fl29_1 ty27.sz rfl) rfl ?_
  refine Cov.q .ro (.load_own 0 rfl rfl ty27 rfl) rfl ?_
  refine Cov.q .ro (.assign rfl) rfl ?_
  refine Cov.region_end ?_
  refine Cov.block ?_
  refine Cov.pullS 1 rfl [_, _] rfl ?_
  refine Cov.loopD (β := Nat × Hp × MK × List (List ByteArray) × Option Addr × Nat × List Value × List ByteArray × Option Addr × Nat) (fun y => mks y.2.2.1.1) (fun y => [(3, .slice y.2.2.2.2.1 y.2.2.2.1.length y.2.2.2.2.2.1), (4, .slice y.2.2.2.2.2.2.2.2.1 y.2.2.2.2.2.2.2.1.length y.2.2.2.2.2.2.2.2.2)]) [(1, _)] (fun y => [y.2.1]) (fun y => []) [_] (fun y => [.g (marksG y.2.2.1), .s (.slice y.2.2.2.2.1 y.2.2.2.1.length y.2.2.2.2.2.1) 27 1 y.2.2.2.1.length y.2.2.2.2.2.2.1]) [] (fun y => HpLe G11 y.2.1 ∧ Bd w0 S0 Fs y.2.1 ∧ OL (Rep.sl Rep.str) y.2.1 y.2.2.2.2.2.2.1 y.2.2.2.1 ∧ SlR Rep.str y.2.1 y.2.2.2.2.2.2.2.2.1 y.2.2.2.2.2.2.2.2.2 y.2.2.2.2.2.2.2.1 ∧ fence_levels_L3 x0_0 y.1 y.2.2.2.1 y.2.2.2.2.2.2.2.1 = some r) (fun y => y.1) (big, G11, mk0, ([u2] : List (List ByteArray)), (some ⟨b16, 0, none⟩), 1, [.slice a7 u2.length k8], x0_1, a0_1, k0_1) ⟨(HpLe.refl _), B13, o17, (SlR.mono e12 s0_1), r3⟩ rfl ⟨rfl, rfl, rfl, trivial⟩ rfl rfl rfl (fun y hI hb272 => ?_)
  obtain ⟨n254, G256, mk260, v261, a262, k263, cs264, v267, a268, k269⟩ := y
  obtain ⟨e257, B258, o265, s270, r271⟩ := hI
  try dsimp only at e257 B258 o265 s270 r271
  refine Cov.prune [(3, .slice a262 v261.length k263), (4, .slice a268 v267.length k269), (1, _)] ⟨rfl, rfl, rfl, trivial⟩ ?_
  refine Cov.same (bl' := [_]) (sl' := [.g (marksG mk260), .s (.slice a262 v261.length k263) 27 1 v261.length cs264]) (Fs' := G256 :: Fs) rfl rfl rfl ?_
  obtain ⟨m276, rfl⟩ : ∃ m, n254 = m + 1 := by cases n254 with | zero => exact absurd (show (none : Option _) = some _ from r271) (by simp) | succ m => exact ⟨m, rfl⟩
  have r275 : fence_levels_B3 x0_0 (fence_levels_L3 x0_0 m276) v261 v267 = some r := r271; clear r271; unfold fence_levels_B3 at r275; try dsimp only at r275
  refine Cov.seq ?_
  refine Cov.seq ?_
  refine Cov.region rfl ?_
  refine Cov.q .ro (.move rfl) rfl ?_
  refine Cov.q .ro (.len_sl rfl rfl sl27) rfl ?_
  refine Cov.q .ro (.fieldAddr 0 rfl fl29_0 ty3.sz rfl) rfl ?_
  refine Cov.q .ro (.load_own 0 rfl rfl ty3 rfl) rfl ?_
  refine Cov.q .ro (.gtr rfl rfl) rfl ?_
  refine Cov.region_end ?_
  refine Cov.cond_dec rfl (fun c277 => ?_) (fun c277 => ?_)
  · have r278 := ifT r275 c277; clear r275
    refine Cov.skip ?_
    refine Cov.block ?_
    refine Cov.seq ?_
    refine Cov.region rfl ?_
    refine Cov.alloc .ro ty27 rfl (fun b279 hb279 => ?_)
    refine Cov.region_end ?_
    refine Cov.seq ?_
    refine Cov.seq ?_
    refine Cov.region rfl ?_
    refine Cov.q .ro (.move rfl) rfl ?_
    refine Cov.q .ro (.fieldAddr 0 rfl fl29_0 ty3.sz rfl) rfl ?_
    refine Cov.q .ro (.load_own 1 rfl rfl ty3 rfl) rfl ?_
    obtain ⟨u280, hu280, r281⟩ := bind_some r278; clear r278
    refine Cov.callW (b1 := []) (b2 := [_, _]) (s1 := []) [_, _] [] .ro rfl rfl Try.call45 rfl rfl (slices_Chunk_Lstringstring_c (G := G256) List.mem_cons_self s270 hu280) rfl B258 (fun v283 bo so G284 e285 B286 h282 => ?_)
    obtain ⟨F288, c289, rfl, rfl, rfl, hc290, hi291⟩ := h282
    refine Cov.same (bl' := [_, _]) (sl' := [_, _]) rfl rfl rfl ?_
    refine Cov.region_end ?_
    refine Cov.cutBD (β := MK × List ByteArray × Option Addr × Nat × List Value) (fun y => mks y.1.1) (fun y => []) [(3, _), (1, _), (5, _)] (fun y => G284 :: Fs) (fun y => [(b279, .cells #[.slice y.2.2.1 y.2.1.length y.2.2.2.1] 27 (0, 0))]) [_] (fun y => [.g (marksG y.1), .s (.slice y.2.2.1 y.2.1.length y.2.2.2.1) 9 1 y.2.1.length y.2.2.2.2]) [_] (fun y => OL Rep.str G284 y.2.2.2.2 y.2.1 ∧ (fence_levels_J1 (fence_levels_L3 x0_0 m276) v261) y.2.1 = some r) ⟨rfl, rfl, rfl, trivial⟩ [1] rfl [1] rfl ?_ ?_
    · intro y hI
      obtain ⟨mk385, v386, a387, k388, cs389⟩ := y
      obtain ⟨o390, r393⟩ := hI
      try dsimp only at o390 r393
      refine Cov.prune [(3, _), (1, _), (5, _)] ⟨rfl, rfl, rfl, trivial⟩ ?_
      refine Cov.same (bl' := [(b279, .cells #[.slice a387 v386.length k388] 27 (0, 0)), _]) (sl' := [.g (marksG mk385), .s (.slice a387 v386.length k388) 9 1 v386.length cs389, _]) (Fs' := G284 :: Fs) rfl rfl rfl ?_
      unfold fence_levels_J1 at r393
      try dsimp only at r393
      refine Cov.drawL (.q 0 (.q 1 (.q 4 (.e 2 1 (.e 3 1 (.q 5 (.q 6 .nil))))))) [_, _] (by kernel_rfl) (by kernel_rfl) (pick_mem [0, 1] rfl) ?_
      refine Cov.dq (.move rfl) rfl ?_
      refine Cov.dq (.load_own 0 rfl rfl ty27 rfl) rfl ?_
      refine Cov.dq (.load_own 0 rfl rfl ty27 rfl) rfl ?_
      refine Cov.freezeR 1 rfl rfl o390 [_, _] rfl B286 (fun G397 e398 B399 s400 => ?_)
      refine Cov.lit [_] [(0, _)] .d1 sl36 ty27 rfl rfl rfl rfl rfl rfl (fun b402 hb402 => ?_)
      have o403 : OL (Rep.sl Rep.str) G397 [.slice a387 v386.length k388] ([v386] : List (List ByteArray)) := ((OL.cons rfl (Rep.slI s400) (OL.nil (Rp' := (Rep.sl Rep.str)))) :)
      refine Cov.reval 31 (n' := ([v386] : List (List ByteArray)).length) rfl rfl ?_
      refine Cov.clsL e398 (pick_mem [0, 1] rfl) ?_
      obtain ⟨u409, hu409, r410⟩ := bind_some r393; clear r393
      refine Cov.appO (Q := (Rep.sl Rep.str)) 1 .d1 sl36 ty27 rfl rfl rfl rfl rfl rfl (OL.mono (HpLe.trans e285 e398) o265) o403 rfl rfl rfl B399 hu409 rfl (fun a405 k406 cs407 o408 => ?_)
      refine Cov.clsL e398 (pick_mem [0, 1] rfl) ?_
      refine Cov.dq (.assign rfl) rfl ?_
      refine Cov.dq (.assign rfl) rfl ?_
      refine Cov.draw_end ?_
      refine Cov.inBlock ?_
      refine Cov.drop 1 0 [_] _ rfl rfl ?_
      refine Cov.prune _ ?_ (Cov.same rfl rfl rfl (hb272 (m276, G397, mk385, u409, a405, k406, cs407, v386, a387, k388) ⟨(HpLe.trans (HpLe.trans e257 e285) e398), B399, o408, s400, r410⟩ (Nat.lt_succ_self _)))
      exact ⟨rfl, rfl, rfl, trivial⟩
    · intro hb412
      refine Cov.block ?_
      refine Cov.own_nil 9 1 ?_
      refine Cov.rangeFunc (α := List ByteArray × Option Addr × Nat × List Value) (fun y => []) (fun y => [(b279, .cells #[.slice y.2.1 y.1.length y.2.2.1] 27 (0, 0))]) (fun y => [.s (.slice y.2.1 y.1.length y.2.2.1) 9 1 y.1.length y.2.2.2]) (fun i y => OL Rep.str G284 y.2.2.2 y.1 ∧ fence_levels_L2 (fence_levels_J1 (fence_levels_L3 x0_0 m276) v261) (List.drop i u280) y.1 = some r) (([] : List ByteArray), none, 0, []) c289 rfl rfl hc290 rfl (by simp) rfl rfl (hi291 _ G284 (HpLe.refl _) List.mem_cons_self) (fun _ _ hv => by obtain ⟨_, _, hv⟩ := hv; exact (Yr.len _ hv).trans rfl) (by kernel_rfl) ⟨(OL.nil (Rp' := Rep.str)), r281⟩ ?_ ?_
      · intro l468 tm469 D470 i471 y v472 hV473 hI w475 S476 hw477
        obtain ⟨v460, a461, k462, cs463⟩ := y
        obtain ⟨o464, r467⟩ := hI
        try dsimp only at o464 r467
        obtain ⟨x478, h479, h480⟩ := hV473
        refine Cov.dup (G := G284) List.mem_cons_self ?_
        obtain ⟨v484, rfl, h485⟩ := h480
        obtain ⟨a481, k482, h486, s483⟩ := h485
        obtain ⟨rfl, _⟩ := List.cons.inj h486
        rw [drop_cons h479] at r467
        have r487 : fence_levels_B2 (fence_levels_J1 (fence_levels_L3 x0_0 m276) v261) (fence_levels_L2 (fence_levels_J1 (fence_levels_L3 x0_0 m276) v261) (List.drop (i471 + 1) u280)) x478 v460 = some r := r467; clear r467; unfold fence_levels_B2 at r487; try dsimp only at r487
        refine Cov.prune [(22, .slice a481 x478.length k482), (5, _)] ⟨rfl, rfl, trivial⟩ ?_
        refine Cov.same (bl' := [(b279, .cells #[.slice a461 v460.length k462] 27 (0, 0)), _]) (sl' := [.s (.slice a461 v460.length k462) 9 1 v460.length cs463]) (Fs' := G284 :: (G284 :: Fs)) rfl rfl rfl ?_
        refine Cov.region rfl ?_
        refine Cov.q .ro (.assign rfl) rfl ?_
        refine Cov.region_end ?_
        refine Cov.beginRound 1 rfl rfl [_, _] rfl ?_
        refine Cov.block ?_
        refine Cov.drawL (.q 0 (.q 1 (.q 2 (.q 3 (.e 4 1 (.e 5 2 (.e 6 2 .nil))))))) [_, _] (by kernel_rfl) (by kernel_rfl) (pick_mem [0, 1] rfl) ?_
        refine Cov.dq (.load_own 0 rfl rfl ty27 rfl) rfl ?_
        refine Cov.dq (.move rfl) rfl ?_
        obtain ⟨u488, hu488, r489⟩ := bind_some r487; clear r487
        obtain ⟨c490, p491, h492⟩ := SlR.get s483 hu488
        obtain rfl := h492
        refine Cov.dq (.idxR s483 rfl rfl hu488 sl27 ty9.sz) rfl ?_
        refine Cov.dq (.load_rp p491 List.mem_cons_self rfl ty9 rfl) rfl ?_
        refine Cov.lit [_] [(0, _)] .d1 sl27 ty9 rfl rfl rfl rfl rfl rfl (fun b493 hb493 => ?_)
        have o494 : OL Rep.str G284 [.string u488] ([u488] : List ByteArray) := ((OL.cons rfl (Rep.strI u488) (OL.nil (Rp' := Rep.str))) :)
        refine Cov.reval 27 (n' := ([u488] : List ByteArray).length) rfl rfl ?_
        refine Cov.clsL (HpLe.refl _) (pick_mem [0, 1] rfl) ?_
        obtain ⟨u500, hu500, r501⟩ := bind_some r489; clear r489
        refine Cov.appO (Q := Rep.str) 0 .d2 sl27 ty9 rfl rfl rfl rfl rfl rfl o464 o494 rfl rfl rfl (Bd.fin List.mem_cons_self) hu500 rfl (fun a496 k497 cs498 o499 => ?_)
        refine Cov.store 0 [_] [_, _] .d2 rfl rfl rfl ty27 rfl rfl rfl rfl ?_
        refine Cov.draw_end ?_
        refine Cov.inBlock ?_
        refine Cov.round_end (u500, a496, k497, cs498) 1 rfl rfl ⟨o499, r501⟩ rfl rfl (fun F hF => List.mem_cons_of_mem _ hF) (by simp)
      · intro q503 y hI hb504
        obtain ⟨v460, a461, k462, cs463⟩ := y
        obtain ⟨o464, r467⟩ := hI
        try dsimp only at o464 r467
        refine Cov.prune [(3, _), (1, _), (5, _)] ⟨rfl, rfl, rfl, trivial⟩ ?_
        refine Cov.same (bl' := [(b279, .cells #[.slice a461 v460.length k462] 27 (0, 0)), _, _]) (sl' := [.s (.slice a461 v460.length k462) 9 1 v460.length cs463, _, _]) (Fs' := G284 :: Fs) rfl rfl rfl ?_
        refine Cov.pullS 1 rfl [_, _, _] rfl ?_
        refine Cov.mkmerge 1 rfl [_, _] rfl (fun mk505 => ?_)
        rw [List.drop_length] at r467; rw [fence_levels_L2] at r467; try dsimp only at r467
        refine Cov.inBlock ?_
        refine Cov.prune _ ?_ (Cov.same rfl rfl rfl (hb412 (mk505, v460, a461, k462, cs463) ⟨o464, r467⟩))
        exact ⟨rfl, rfl, rfl, trivial⟩
  · have r506 := ifF r275 c277; clear r275
    refine Cov.exit rfl ?_
    refine Cov.seq ?_
    refine Cov.region rfl ?_
    refine Cov.q .ro (.move rfl) rfl ?_
    refine Cov.q .ro (.assign rfl) rfl ?_
    refine Cov.region_end ?_
    cases r506
    refine Cov.drop 1 0 [] _ rfl rfl ?_
    refine Cov.out (.inr ⟨_, rfl⟩) rfl (Cov.unmarkAll _ _ ?_)
    refine Cov.outW (c := ⟨33, none⟩) [.tmp 2] [_] Try.func33 Try.results33 ⟨RV.tmp rfl, trivial⟩ (fun _ h => List.mem_cons_of_mem _ h) List.mem_cons_self B258 (by subst hS0; simp [blks]) (fun G' hg => ⟨a262, k263, cs264, rfl, rfl, rfl, (OL.mono hg o265)⟩)

set_option maxHeartbeats 4000000 in
theorem fence_Levels_c {Fs : List Hp} {G : Hp} {x0_0 : Int} {a0_1 : Option Addr} {k0_1 : Nat} {x0_1 : List ByteArray} {r : ((List (List ByteArray)) × Int)} (hG : G ∈ Fs) (s0_1 : SlR Rep.str G a0_1 k0_1 x0_1) (h : fence_Levels (x0_0, x0_1) = some r) : RetW Try.prog 14 #[.agg #[.int .i64 x0_0, .slice a0_1 x0_1.length k0_1]] Fs [] [] (fun v bo so G => ∃ (oa0 : Option Addr) (ok0 : Nat) (oc0 : List Value), v = .tuple #[.slice oa0 r.1.length ok0, .int .i64 r.2] ∧ bo = [] ∧ so = [.s (.slice oa0 r.1.length ok0) 27 1 r.1.length oc0] ∧ OL (Rep.sl Rep.str) G oc0 r.1) := by
  unfold fence_Levels at h
  try dsimp only at h
  refine RetW.of (vs := [_]) Try.func14 rfl Try.ntmps14 [(0, _)] ⟨rfl, trivial⟩ rfl hG fun w0 S0 hS0 B0 => ?_
  refine Cov.seq ?_
  refine Cov.region rfl ?_
  refine Cov.box [_, _] .ro rfl rfl rfl (fun b1 hb1 => ?_)
  refine Cov.q .ro (.assign rfl) rfl ?_
  refine Cov.q .ro (.assign rfl) rfl ?_
  refine Cov.region_end ?_
  refine Cov.seq ?_
  refine Cov.seq ?_
  refine Cov.region rfl ?_
  refine Cov.q .ro (.load_own_a 0 [_, _] rfl rfl ty29 rfl) rfl ?_
  obtain ⟨u2, hu2, r3⟩ := bind_some h; clear h
  refine Cov.callS (b1 := []) (b2 := [_]) (s1 := []) [_] [] .ro rfl rfl Try.call18 rfl rfl (fence_Check_c (G := G) List.mem_cons_self s0_1 hu2) rfl (fun v5 bo so h4 => ?_)
  obtain ⟨rfl, rfl, rfl⟩ := h4
  refine Cov.same (bl' := [_]) (sl' := []) rfl rfl rfl ?_
  refine Cov.q .ro (.assign rfl) rfl ?_
  refine Cov.region_end ?_
  refine Cov.seq ?_
  refine Cov.region rfl ?_
  refine Cov.q .ro (.move rfl) rfl ?_
  refine Cov.q .ro (.neq rfl rfl) rfl ?_
  refine Cov.region_end ?_
  refine Cov.cond_dec rfl (fun c6 => ?_) (fun c6 => ?_)
  · have r7 := ifT r3 c6; clear r3
    refine Cov.seq ?_
    refine Cov.region rfl ?_
    refine Cov.q .ro (.move rfl) rfl ?_
    refine Cov.q .ro (.assign rfl) rfl ?_
    refine Cov.q .ro (.assign rfl) rfl ?_
    refine Cov.region_end ?_
    refine Cov.own_nil 27 1 ?_
    cases r7
    refine Cov.drop 1 0 [] _ rfl rfl ?_
    refine Cov.retW (c := ⟨14, none⟩) (.inr ⟨_, rfl⟩) [.tmp 2, .tmp 3] [_, _] rfl Try.func14 Try.results14 ⟨RV.tmp rfl, RV.tmp rfl, trivial⟩ (fun _ h => List.mem_cons_of_mem _ h) List.mem_cons_self B0 (by subst hS0; simp [blks]) (fun G' hg => ⟨none, 0, [], rfl, rfl, rfl, (OL.mono hg (OL.nil (Rp' := (Rep.sl Rep.str))))⟩)
  · have r9 := ifF r3 c6; clear r3
    refine Cov.skip ?_
    refine Cov.seq ?_
    refine Cov.region rfl ?_
    refine Cov.q .ro (.load_own_a 0 [_, _] rfl rfl ty29 rfl) rfl ?_
    obtain ⟨u10, hu10, r11⟩ := bind_some r9; clear r9
    refine Cov.callW (b1 := []) (b2 := [_]) (s1 := []) [_] [] .ro rfl rfl Try.call33 rfl rfl (fence_levels_c (G := G) List.mem_cons_self s0_1 hu10) rfl B0 (fun v13 bo so G14 e15 B16 h12 => ?_)
    obtain ⟨a19, k20, cs21, rfl, rfl, rfl, o22⟩ := h12
    refine Cov.same (bl' := [_]) (sl' := [_]) rfl rfl rfl ?_
    refine Cov.q .ro (.assign rfl) rfl ?_
    refine Cov.q .ro (.assign rfl) rfl ?_
    refine Cov.region_end ?_
    cases r11
    refine Cov.drop 1 0 [] _ rfl rfl ?_
    refine Cov.retW (c := ⟨14, none⟩) (.inr ⟨_, rfl⟩) [.tmp 2, .tmp 3] [_, _] rfl Try.func14 Try.results14 ⟨RV.tmp rfl, RV.tmp rfl, trivial⟩ (fun _ h => List.mem_cons_of_mem _ h) List.mem_cons_self B16 (by subst hS0; simp [blks]) (fun G' hg => ⟨a19, k20, cs21, rfl, rfl, rfl, (OL.mono hg o22)⟩)

set_option maxHeartbeats 4000000 in
theorem fence_Steps_c {Fs : List Hp} {G : Hp} {x0 : Int} {x1 : Int} {r : (Int × Int)} (hG : G ∈ Fs)  (h : fence_Steps x0 x1 = some r) : RetS Try.prog 16 #[.int .i64 x0, .int .i64 x1] Fs [] [] (fun v bo so => v = .tuple #[.int .i64 r.1, .int .i64 r.2] ∧ bo = [] ∧ so = []) := by
  unfold fence_Steps at h
  try dsimp only at h
  refine RetS.of (vs := [_, _]) Try.func16 rfl Try.ntmps16 [(0, _), (1, _)] ⟨rfl, rfl, trivial⟩ rfl hG fun w0 S0 hS0 B0 => ?_
  refine Cov.seq ?_
  refine Cov.region rfl ?_
  refine Cov.q .ro (.assign rfl) rfl ?_
  refine Cov.q .ro (.assign rfl) rfl ?_
  refine Cov.region_end ?_
  refine Cov.seq ?_
  refine Cov.seq ?_
  refine Cov.region rfl ?_
  refine Cov.q .ro (.move rfl) rfl ?_
  refine Cov.q .ro (.lss rfl rfl) rfl ?_
  refine Cov.q .ro (.move rfl) rfl ?_
  refine Cov.cutR 3 (β := Unit) (fun y => [(12, .bool (decide ((x0 < 1) ∨ (256 < x0))))]) [(0, _), (1, _)] (fun y => G :: Fs) (fun y => []) [] (fun y => []) [] (fun y => True) ⟨rfl, rfl, trivial⟩ [] rfl [] rfl ?_ ?_
  · rintro _ _
    refine Cov.prune [(12, .bool (decide ((x0 < 1) ∨ (256 < x0)))), (0, _), (1, _)] ⟨rfl, rfl, rfl, trivial⟩ ?_
    refine Cov.same (bl' := []) (sl' := []) (Fs' := G :: Fs) rfl rfl rfl ?_
    refine Cov.q .ro (.move rfl) rfl ?_
    obtain ⟨u11, h12, r13⟩ := bind_some h; clear h
    refine Cov.cutR 4 (β := Unit) (fun y => [(17, .bool u11)]) [(0, _), (1, _)] (fun y => G :: Fs) (fun y => []) [] (fun y => []) [] (fun y => True) ⟨rfl, rfl, trivial⟩ [] rfl [] rfl ?_ ?_
    · rintro _ _
      refine Cov.prune [(17, .bool u11), (0, _), (1, _)] ⟨rfl, rfl, rfl, trivial⟩ ?_
      refine Cov.same (bl' := []) (sl' := []) (Fs' := G :: Fs) rfl rfl rfl ?_
      refine Cov.region_end ?_
      refine Cov.cond rfl (fun c16 => ?_) (fun c16 => ?_)
      · have r17 := ifT r13 c16; clear r13
        refine Cov.seq ?_
        refine Cov.region rfl ?_
        refine Cov.q .ro (.assign rfl) rfl ?_
        refine Cov.q .ro (.assign rfl) rfl ?_
        refine Cov.region_end ?_
        cases r17
        refine Cov.retS (c := ⟨16, none⟩) (.inr ⟨_, rfl⟩) [.tmp 4, .tmp 5] [_, _] rfl Try.func16 Try.results16 ⟨RV.tmp rfl, RV.tmp rfl, trivial⟩ (fun _ h => List.mem_cons_of_mem _ h) ⟨rfl, rfl, rfl⟩
      · have r18 := ifBF r13 c16; clear r13
        refine Cov.skip ?_
        refine Cov.seq ?_
        refine Cov.region rfl ?_
        refine Cov.q .ro (.assign rfl) rfl ?_
        refine Cov.region_end ?_
        refine Cov.seq ?_
        refine Cov.block ?_
        refine Cov.loop2 (α := Nat × Int × Int) (fun y => [(0, .int .i64 y.2.1), (6, .int .i64 y.2.2)]) [(1, _)] (fun y => []) (fun y => []) [] (fun y => []) [] (fun y => fence_Steps_L1 x1 y.1 y.2.1 y.2.2 = some r) (fun y => y.1) (big, x0, 1) r18 ⟨rfl, rfl, rfl, trivial⟩ rfl rfl rfl (fun y hI hb32 => ?_)
        obtain ⟨n27, v29, v30⟩ := y
        have r31 := hI; clear hI
        try dsimp only at r31
        refine Cov.prune [(0, .int .i64 v29), (6, .int .i64 v30), (1, _)] ⟨rfl, rfl, rfl, trivial⟩ ?_
        refine Cov.same (bl' := []) (sl' := []) (Fs' := G :: Fs) rfl rfl rfl ?_
        obtain ⟨m35, rfl⟩ : ∃ m, n27 = m + 1 := by cases n27 with | zero => exact absurd (show (none : Option _) = some _ from r31) (by simp) | succ m => exact ⟨m, rfl⟩
        have r34 : fence_Steps_B1 x1 (fence_Steps_L1 x1 m35) v29 v30 = some r := r31; clear r31; unfold fence_Steps_B1 at r34; try dsimp only at r34
        refine Cov.seq ?_
        refine Cov.seq ?_
        refine Cov.region rfl ?_
        refine Cov.q .ro (.move rfl) rfl ?_
        refine Cov.q .ro (.move rfl) rfl ?_
        refine Cov.q .ro (.gtr rfl rfl) rfl ?_
        refine Cov.region_end ?_
        refine Cov.cond_dec rfl (fun c36 => ?_) (fun c36 => ?_)
        · have r37 := ifT r34 c36; clear r34
          refine Cov.skip ?_
          refine Cov.seq ?_
          refine Cov.block ?_
          refine Cov.region rfl ?_
          refine Cov.q .ro (.move rfl) rfl ?_
          refine Cov.q .ro (.addw rfl rfl) rfl ?_
          refine Cov.q .ro (.assign rfl) rfl ?_
          refine Cov.region_end ?_
          refine Cov.inBlock ?_
          refine Cov.region rfl ?_
          refine Cov.q .ro (.move rfl) rfl ?_
          refine Cov.q .ro (.move rfl) rfl ?_
          refine Cov.q .ro (.addw rfl rfl) rfl ?_
          refine Cov.q .ro (.subw rfl rfl) rfl ?_
          refine Cov.q .ro (.move rfl) rfl ?_
          obtain ⟨u38, hu38, r39⟩ := bind_some r37; clear r37
          refine Cov.q .ro (.quow rfl rfl (nz_some hu38)) rfl ?_
          refine Cov.q .ro (.assign rfl) rfl ?_
          refine Cov.region_end ?_
          refine Cov.prune _ ?_ (Cov.same rfl rfl rfl (hb32 (m35, (w64 (Int.tdiv (w64 ((w64 (v29 + x1)) - 1)) x1)), (w64 (v30 + 1))) r39 (Nat.lt_succ_self _)))
          exact ⟨rfl, rfl, rfl, trivial⟩
        · have r40 := ifF r34 c36; clear r34
          refine Cov.exit rfl ?_
          refine Cov.seq ?_
          refine Cov.region rfl ?_
          refine Cov.q .ro (.move rfl) rfl ?_
          refine Cov.q .ro (.assign rfl) rfl ?_
          refine Cov.q .ro (.assign rfl) rfl ?_
          refine Cov.region_end ?_
          cases r40
          refine Cov.retS (c := ⟨16, none⟩) (.inr ⟨_, rfl⟩) [.tmp 4, .tmp 5] [_, _] rfl Try.func16 Try.results16 ⟨RV.tmp rfl, RV.tmp rfl, trivial⟩ (fun _ h => List.mem_cons_of_mem _ h) ⟨rfl, rfl, rfl⟩
    · intro hb10
      refine Cov.split 13 rfl (fun c9 => ?_) (fun c9 => ?_)
      · have r41 := ifT h12 c9
        refine Cov.g_off rfl rfl rfl ?_
        refine Cov.g_off rfl rfl rfl ?_
        refine Cov.g_off rfl rfl rfl ?_
        refine Cov.q .ro (.pick_t rfl rfl) rfl ?_
        refine Cov.prune _ ?_ (Cov.same rfl rfl rfl (hb10 () trivial))
        exact ⟨sval r41, rfl, rfl, trivial⟩
      · have r42 := ifF h12 c9
        refine Cov.g_on rfl ?_
        refine Cov.q .ro (.move rfl) rfl ?_
        refine Cov.g_on rfl ?_
        obtain ⟨u43, hu43, r44⟩ := bind_some r42; clear r42
        refine Cov.callS (b1 := []) (b2 := []) (s1 := []) [_] [] .ro rfl rfl Try.call34 rfl rfl (fence_sized_c (G := G) List.mem_cons_self  hu43) rfl (fun v46 bo so h45 => ?_)
        obtain ⟨rfl, rfl, rfl⟩ := h45
        refine Cov.same (bl' := []) (sl' := []) rfl rfl rfl ?_
        refine Cov.g_on rfl ?_
        refine Cov.q .ro (.not rfl) rfl ?_
        refine Cov.q .ro (.pick_f rfl rfl) rfl ?_
        refine Cov.prune _ ?_ (Cov.same rfl rfl rfl (hb10 () trivial))
        exact ⟨sval r44, rfl, rfl, trivial⟩
  · intro hb2
    refine Cov.split 9 rfl (fun c1 => ?_) (fun c1 => ?_)
    · refine Cov.g_off rfl rfl rfl ?_
      refine Cov.g_off rfl rfl rfl ?_
      refine Cov.q .ro (.pick_t rfl rfl) rfl ?_
      refine Cov.prune _ ?_ (Cov.same rfl rfl rfl (hb2 () trivial))
      exact ⟨dor_t c1, rfl, rfl, trivial⟩
    · refine Cov.g_on rfl ?_
      refine Cov.q .ro (.move rfl) rfl ?_
      refine Cov.g_on rfl ?_
      refine Cov.q .ro (.gtr rfl rfl) rfl ?_
      refine Cov.q .ro (.pick_f rfl rfl) rfl ?_
      refine Cov.prune _ ?_ (Cov.same rfl rfl rfl (hb2 () trivial))
      exact ⟨dor_f c1, rfl, rfl, trivial⟩

set_option maxHeartbeats 4000000 in
theorem slices_Backward_LLstringLstring_f1_i {Fs : List Hp} {G : Hp} {p1 : Value} {a1 : Option Addr} {k1 : Nat} {x1 : List (List ByteArray)} {l : (List (Int × (List ByteArray)))} (hG : G ∈ Fs) (hp1 : Rp G p1 [.slice a1 x1.length k1]) (s1 : SlR (Rep.sl Rep.str) G a1 k1 x1) (h : slices_Backward_LLstringLstring_f1 x1 = some l) : Iter Try.prog 46 [p1] Fs l.length (fun i v => ∃ x, l[i]? = some x ∧ (Yr.pair (Yr.v (Rep.int .i64)) (Yr.v (Rep.sl Rep.str))).r G v x) := by
  unfold slices_Backward_LLstringLstring_f1 at h
  try dsimp only at h
  intro y 𝒢 R0 hy hR0
  refine RetG.of (vs := [_, _]) Try.func46 rfl Try.ntmps46 [(0, _), (1, _)] ⟨rfl, rfl, trivial⟩ rfl fun w0 => Cov.dup hG ?_
  have B0 : Bd w0 (blks [] [.g R0]) Fs G := Bd.fin hG
  generalize hS0 : blks [] [.g R0] = S0 at B0 ⊢
  refine Cov.seq ?_
  refine Cov.region rfl ?_
  refine Cov.q .ro (.load_rp hp1 List.mem_cons_self rfl ty36 rfl) rfl ?_
  refine Cov.q .ro (.len_sl rfl rfl sl36) rfl ?_
  refine Cov.q .ro (.subw rfl rfl) rfl ?_
  refine Cov.q .ro (.assign rfl) rfl ?_
  refine Cov.region_end ?_
  refine Cov.block ?_
  refine Cov.loop2 (α := Nat × Guest × Nat × Int) (fun y => [(3, .int .i64 y.2.2.2)]) [(0, _), (1, _)] (fun y => []) (fun y => []) [] (fun y => [.g y.2.1]) [] (fun y => 𝒢 y.2.2.1 y.2.1 ∧ y.2.2.1 ≤ l.length ∧ slices_Backward_LLstringLstring_f1_L1 x1 y.1 y.2.2.2 = some (List.drop y.2.2.1 l)) (fun y => y.1) (big, R0, 0, (w64 ((x1.length : Int) - 1))) ⟨hR0, (Nat.zero_le _), h⟩ ⟨rfl, rfl, rfl, trivial⟩ rfl rfl rfl (fun y hI hb26 => ?_)
  obtain ⟨n18, R20, i21, v24⟩ := y
  obtain ⟨hR22, le23, r25⟩ := hI
  try dsimp only at hR22 le23 r25
  refine Cov.prune [(3, .int .i64 v24), (0, _), (1, _)] ⟨rfl, rfl, rfl, trivial⟩ ?_
  refine Cov.same (bl' := []) (sl' := [.g R20]) (Fs' := G :: Fs) rfl rfl rfl ?_
  obtain ⟨m29, rfl⟩ : ∃ m, n18 = m + 1 := by cases n18 with | zero => exact absurd (show (none : Option _) = some _ from r25) (by simp) | succ m => exact ⟨m, rfl⟩
  have r28 : slices_Backward_LLstringLstring_f1_B1 x1 (slices_Backward_LLstringLstring_f1_L1 x1 m29) v24 = some (List.drop i21 l) := r25; clear r25; unfold slices_Backward_LLstringLstring_f1_B1 at r28; try dsimp only at r28
  refine Cov.seq ?_
  refine Cov.seq ?_
  refine Cov.region rfl ?_
  refine Cov.q .ro (.move rfl) rfl ?_
  refine Cov.q .ro (.geq rfl rfl) rfl ?_
  refine Cov.region_end ?_
  refine Cov.cond_dec rfl (fun c30 => ?_) (fun c30 => ?_)
  · have r31 := ifT r28 c30; clear r28
    refine Cov.skip ?_
    refine Cov.seq ?_
    refine Cov.block ?_
    refine Cov.seq ?_
    refine Cov.region rfl ?_
    refine Cov.q .ro (.move rfl) rfl ?_
    refine Cov.q .ro (.move rfl) rfl ?_
    refine Cov.q .ro (.load_rp hp1 List.mem_cons_self rfl ty36 rfl) rfl ?_
    refine Cov.q .ro (.move rfl) rfl ?_
    obtain ⟨u32, hu32, r33⟩ := bind_some r31; clear r31
    obtain ⟨c34, p35, h36⟩ := SlR.get s1 hu32
    obtain ⟨a37, k38, rfl, s39⟩ := h36
    refine Cov.q .ro (.idxR s1 rfl rfl hu32 sl36 ty27.sz) rfl ?_
    refine Cov.q .ro (.load_rp p35 List.mem_cons_self rfl ty27 rfl) rfl ?_
    obtain ⟨h40, r41⟩ := yc_some r33; clear r33
    refine Cov.yield hy ⟨_, h40, ⟨[_], _, rfl, ⟨_, rfl, ((Rep.intI .i64 v24) :)⟩, ⟨_, rfl, ((Rep.slI s39) :)⟩⟩⟩ hR22 (fun _ h => List.mem_cons_of_mem _ h) rfl rfl rfl (fun R42 hR43 => ?_)
    refine Cov.q .ro (.not_t rfl) rfl ?_
    refine Cov.region_end ?_
    refine Cov.cond_false rfl ?_
    refine Cov.skip ?_
    refine Cov.inBlock ?_
    refine Cov.region rfl ?_
    refine Cov.q .ro (.move rfl) rfl ?_
    refine Cov.q .ro (.subw rfl rfl) rfl ?_
    refine Cov.q .ro (.assign rfl) rfl ?_
    refine Cov.region_end ?_
    refine Cov.prune _ ?_ (Cov.same rfl rfl rfl (hb26 (m29, R42, (i21 + 1), (w64 (v24 - 1))) ⟨hR43, (yc_le h40), r41⟩ (Nat.lt_succ_self _)))
    exact ⟨rfl, rfl, rfl, trivial⟩
  · have r44 := ifF r28 c30; clear r28
    refine Cov.exit rfl ?_
    have hi := yc_end r44 le23
    refine Cov.leave (c := ⟨46, none⟩) (.inl rfl) [] [] rfl Try.func46 Try.results46 trivial (fun _ h => List.mem_cons_of_mem _ h) (.inl rfl) (fresh_emp _) ⟨rfl, R20, hi ▸ hR22, rfl⟩

set_option maxHeartbeats 4000000 in
theorem slices_Backward_LLstringLstring_c {Fs : List Hp} {G : Hp} {a0 : Option Addr} {k0 : Nat} {x0 : List (List ByteArray)} {r : (List (Int × (List ByteArray)))} (hG : G ∈ Fs) (s0 : SlR (Rep.sl Rep.str) G a0 k0 x0) (h : slices_Backward_LLstringLstring x0 = some r) : RetW Try.prog 37 #[.slice a0 x0.length k0] Fs [] [] (fun v bo so G => ∃ (Fi0 : FuncId) (ci0 : List Value), v = .func (.func Fi0) #[] ci0.toArray ∧ bo = [] ∧ so = [] ∧ (∀ args w, (callFunc Fi0 args).run Try.prog w = .ok (.enter Fi0 args) w) ∧ IterR Try.prog (Yr.pair (Yr.v (Rep.int .i64)) (Yr.v (Rep.sl Rep.str))) Fi0 ci0 G r) := by
  unfold slices_Backward_LLstringLstring at h
  try dsimp only at h
  refine RetW.of (vs := [_]) Try.func37 rfl Try.ntmps37 [(0, _)] ⟨rfl, trivial⟩ rfl hG fun w0 S0 hS0 B0 => ?_
  refine Cov.seq ?_
  refine Cov.region rfl ?_
  refine Cov.box [_] .ro rfl rfl rfl (fun b1 hb1 => ?_)
  refine Cov.q .ro (.assign rfl) rfl ?_
  refine Cov.region_end ?_
  refine Cov.seq ?_
  refine Cov.region rfl ?_
  refine Cov.q .ro (.makeFunc (vf := []) (vc := [_]) rfl rfl) rfl ?_
  refine Cov.q .ro (.assign rfl) rfl ?_
  refine Cov.region_end ?_
  refine Cov.freezeBR 0 rfl [] rfl B0 (fun G2 e3 B4 p5 => ?_)
  obtain ⟨u7, hu7, r8⟩ := bind_some h; clear h
  cases r8
  refine Cov.retW (c := ⟨37, none⟩) (.inr ⟨_, rfl⟩) [.tmp 2] [_] rfl Try.func37 Try.results37 ⟨RV.tmp rfl, trivial⟩ (fun _ h => List.mem_cons_of_mem _ h) List.mem_cons_self B4 (by subst hS0; simp [blks]) (fun G' hg => ⟨_, _, rfl, rfl, rfl, Try.call46, (fun Fs' G1 hle hm => slices_Backward_LLstringLstring_f1_i (G := G1) hm (Rp.mono (HpLe.trans hg hle) p5) (SlR.mono (HpLe.trans hg hle) (SlR.mono e3 s0)) hu7)⟩)

set_option maxHeartbeats 4000000 in
theorem fence_blockOf_c {Fs : List Hp} {G : Hp} {a0 : Option Addr} {k0 : Nat} {x0 : List ByteArray} {x1 : Int} {x2 : Int} {r : (List ByteArray)} (hG : G ∈ Fs) (s0 : SlR Rep.str G a0 k0 x0) (h : fence_blockOf x0 x1 x2 = some r) : RetS Try.prog 38 #[.slice a0 x0.length k0, .int .i64 x1, .int .i64 x2] Fs [] [] (fun v bo so => ∃ a0 : Option Addr, ∃ k0 : Nat, v = .slice a0 r.length k0 ∧ bo = [] ∧ so = [] ∧ SlR Rep.str G a0 k0 r) := by
  unfold fence_blockOf at h
  try dsimp only at h
  refine RetS.of (vs := [_, _, _]) Try.func38 rfl Try.ntmps38 [(0, _), (1, _), (2, _)] ⟨rfl, rfl, rfl, trivial⟩ rfl hG fun w0 S0 hS0 B0 => ?_
  refine Cov.seq ?_
  refine Cov.region rfl ?_
  refine Cov.q .ro (.assign rfl) rfl ?_
  refine Cov.region_end ?_
  refine Cov.seq ?_
  refine Cov.region rfl ?_
  refine Cov.q .ro (.move rfl) rfl ?_
  refine Cov.q .ro (.move rfl) rfl ?_
  refine Cov.q .ro (.move rfl) rfl ?_
  refine Cov.q .ro (.mulw rfl rfl) rfl ?_
  refine Cov.q .ro (.move rfl) rfl ?_
  refine Cov.q .ro (.addw rfl rfl) rfl ?_
  refine Cov.q .ro (.move rfl) rfl ?_
  refine Cov.q .ro (.mulw rfl rfl) rfl ?_
  refine Cov.q .ro (.move rfl) rfl ?_
  refine Cov.q .ro (.len_sl rfl rfl sl27) rfl ?_
  refine Cov.q .ro (.min2 rfl rfl) rfl ?_
  obtain ⟨u1, hu1, r2⟩ := bind_some h; clear h
  obtain ⟨a3, k4, h5, s6⟩ := SlR.sub s0 hu1
  refine Cov.q .ro (.sliceR s0 rfl hu1 sl27 ty9.sz (fun h => .yes' rfl h) (fun h => .yes' rfl h) h5) rfl ?_
  refine Cov.q .ro (.assign rfl) rfl ?_
  refine Cov.region_end ?_
  refine Cov.prune [(6, _)] ⟨rfl, trivial⟩ ?_
  cases r2
  refine Cov.retS (c := ⟨38, none⟩) (.inr ⟨_, rfl⟩) [.tmp 6] [_] rfl Try.func38 Try.results38 ⟨RV.tmp rfl, trivial⟩ (fun _ h => List.mem_cons_of_mem _ h) ⟨a3, k4, rfl, rfl, rfl, s6⟩

set_option maxHeartbeats 4000000 in
theorem fence_Probe_c {Fs : List Hp} {G : Hp} {x0_0 : Int} {a0_1 : Option Addr} {k0_1 : Nat} {x0_1 : List ByteArray} {x1 : ByteArray} {r : ((List Int) × Int × Bool × Int)} (hG : G ∈ Fs) (s0_1 : SlR Rep.str G a0_1 k0_1 x0_1) (h : fence_Probe (x0_0, x0_1) x1 = some r) : RetS Try.prog 20 #[.agg #[.int .i64 x0_0, .slice a0_1 x0_1.length k0_1], .string x1] Fs [] [] (fun v bo so => ∃ (oa0 : Option Addr) (ok0 : Nat) (oc0 : List Value), v = .tuple #[.slice oa0 r.1.length ok0, .int .i64 r.2.1, .bool r.2.2.1, .int .i64 r.2.2.2] ∧ bo = [] ∧ so = [.s (.slice oa0 r.1.length ok0) 3 1 r.1.length oc0] ∧ OL (Rep.int .i64) G oc0 r.1) := by
  unfold fence_Probe at h
  try dsimp only at h
  refine RetS.of (vs := [_, _]) Try.func20 rfl Try.ntmps20 [(0, _), (1, _)] ⟨rfl, rfl, trivial⟩ rfl hG fun w0 S0 hS0 B0 => ?_
  refine Cov.marks0 ?_
  refine Cov.seq ?_
  refine Cov.region rfl ?_
  refine Cov.box [_, _] .ro rfl rfl rfl (fun b1 hb1 => ?_)
  refine Cov.box [_] .ro rfl rfl rfl (fun b2 hb2 => ?_)
  refine Cov.q .ro (.assign rfl) rfl ?_
  refine Cov.q .ro (.assign rfl) rfl ?_
  refine Cov.q .ro (.assign rfl) rfl ?_
  refine Cov.q .ro (.assign rfl) rfl ?_
  refine Cov.region_end ?_
  refine Cov.seq ?_
  refine Cov.seq ?_
  refine Cov.region rfl ?_
  refine Cov.q .ro (.load_own_a 1 [_, _] rfl rfl ty29 rfl) rfl ?_
  obtain ⟨u3, hu3, r4⟩ := bind_some h; clear h
  refine Cov.callS (b1 := []) (b2 := [_, _]) (s1 := []) [_] [] .ro rfl rfl Try.call18 rfl rfl (fence_Check_c (G := G) List.mem_cons_self s0_1 hu3) rfl (fun v6 bo so h5 => ?_)
  obtain ⟨rfl, rfl, rfl⟩ := h5
  refine Cov.same (bl' := [_, _]) (sl' := [_]) rfl rfl rfl ?_
  refine Cov.q .ro (.assign rfl) rfl ?_
  refine Cov.region_end ?_
  refine Cov.seq ?_
  refine Cov.region rfl ?_
  refine Cov.q .ro (.move rfl) rfl ?_
  refine Cov.q .ro (.neq rfl rfl) rfl ?_
  refine Cov.region_end ?_
  refine Cov.cond_dec rfl (fun c7 => ?_) (fun c7 => ?_)
  · have r8 := ifT r4 c7; clear r4
    refine Cov.seq ?_
    refine Cov.region rfl ?_
    refine Cov.q .ro (.move rfl) rfl ?_
    refine Cov.q .ro (.assign rfl) rfl ?_
    refine Cov.q .ro (.assign rfl) rfl ?_
    refine Cov.q .ro (.assign rfl) rfl ?_
    refine Cov.q .ro (.assign rfl) rfl ?_
    refine Cov.region_end ?_
    refine Cov.own_nil 3 1 ?_
    cases r8
    refine Cov.drop 2 0 [] _ rfl rfl ?_
    refine Cov.pullS 1 rfl [_, _] rfl ?_
    refine Cov.out (.inr ⟨_, rfl⟩) rfl (Cov.unmarkAll _ _ ?_)
    refine Cov.outS (c := ⟨20, none⟩) [.tmp 4, .tmp 5, .tmp 6, .tmp 7] [_, _, _, _] Try.func20 Try.results20 ⟨RV.tmp rfl, RV.tmp rfl, RV.tmp rfl, RV.tmp rfl, trivial⟩ (fun _ h => List.mem_cons_of_mem _ h) ⟨none, 0, [], rfl, rfl, rfl, (OL.nil (Rp' := (Rep.int .i64)))⟩
  · have r10 := ifF r4 c7; clear r4
    refine Cov.skip ?_
    refine Cov.seq ?_
    refine Cov.seq ?_
    refine Cov.region rfl ?_
    refine Cov.q .ro (.load_own 0 rfl rfl ty9 rfl) rfl ?_
    obtain ⟨u11, hu11, r12⟩ := bind_some r10; clear r10
    refine Cov.callS (b1 := []) (b2 := [_, _]) (s1 := []) [_] [] .ro rfl rfl Try.call30 rfl rfl (fence_proper_c (G := G) List.mem_cons_self  hu11) rfl (fun v14 bo so h13 => ?_)
    obtain ⟨rfl, rfl, rfl⟩ := h13
    refine Cov.same (bl' := [_, _]) (sl' := [_]) rfl rfl rfl ?_
    refine Cov.q .ro (.not rfl) rfl ?_
    refine Cov.region_end ?_
    refine Cov.prune [(2, _), (3, _), (20, _)] ⟨rfl, rfl, rfl, trivial⟩ ?_
    refine Cov.cond rfl (fun c15 => ?_) (fun c15 => ?_)
    · have r16 := ifT r12 c15; clear r12
      refine Cov.seq ?_
      refine Cov.region rfl ?_
      refine Cov.q .ro (.assign rfl) rfl ?_
      refine Cov.q .ro (.assign rfl) rfl ?_
      refine Cov.q .ro (.assign rfl) rfl ?_
      refine Cov.q .ro (.assign rfl) rfl ?_
      refine Cov.region_end ?_
      refine Cov.own_nil 3 1 ?_
      cases r16
      refine Cov.drop 2 0 [] _ rfl rfl ?_
      refine Cov.pullS 1 rfl [_, _] rfl ?_
      refine Cov.out (.inr ⟨_, rfl⟩) rfl (Cov.unmarkAll _ _ ?_)
      refine Cov.outS (c := ⟨20, none⟩) [.tmp 4, .tmp 5, .tmp 6, .tmp 7] [_, _, _, _] Try.func20 Try.results20 ⟨RV.tmp rfl, RV.tmp rfl, RV.tmp rfl, RV.tmp rfl, trivial⟩ (fun _ h => List.mem_cons_of_mem _ h) ⟨none, 0, [], rfl, rfl, rfl, (OL.nil (Rp' := (Rep.int .i64)))⟩
    · have r18 := ifBF r12 c15; clear r12
      refine Cov.skip ?_
      refine Cov.seq ?_
      refine Cov.region rfl ?_
      refine Cov.alloc .ro ty3 rfl (fun b19 hb19 => ?_)
      refine Cov.store 0 [_] [_, _, _] .ro rfl rfl rfl ty3 rfl rfl rfl rfl ?_
      refine Cov.region_end ?_
      refine Cov.seq ?_
      refine Cov.region rfl ?_
      refine Cov.alloc .ro ty22 rfl (fun b20 hb20 => ?_)
      refine Cov.region_end ?_
      refine Cov.seq ?_
      refine Cov.seq ?_
      refine Cov.region rfl ?_
      refine Cov.q .ro (.load_own_a 3 [_, _] rfl rfl ty29 rfl) rfl ?_
      obtain ⟨u21, hu21, r22⟩ := bind_some r18; clear r18
      refine Cov.callW (b1 := []) (b2 := [_, _, _, _]) (s1 := []) [_] [] .ro rfl rfl Try.call33 rfl rfl (fence_levels_c (G := G) List.mem_cons_self s0_1 hu21) rfl B0 (fun v24 bo so G25 e26 B27 h23 => ?_)
      obtain ⟨a30, k31, cs32, rfl, rfl, rfl, o33⟩ := h23
      refine Cov.same (bl' := [_, _, _, _]) (sl' := [_, _]) rfl rfl rfl ?_
      refine Cov.freezeR 0 rfl rfl o33 [_] rfl B27 (fun G34 e35 B36 s37 => ?_)
      obtain ⟨u39, hu39, r40⟩ := bind_some r22; clear r22
      refine Cov.callW (b1 := []) (b2 := [_, _, _, _]) (s1 := []) [_] [] .ro rfl rfl Try.call37 rfl rfl (slices_Backward_LLstringLstring_c (G := G34) List.mem_cons_self s37 hu39) rfl B36 (fun v42 bo so G43 e44 B45 h41 => ?_)
      obtain ⟨F47, c48, rfl, rfl, rfl, hc49, hi50⟩ := h41
      refine Cov.same (bl' := [_, _, _, _]) (sl' := [_]) rfl rfl rfl ?_
      refine Cov.region_end ?_
      refine Cov.cutBD (β := MK × List Int × Option Addr × Nat × List Value × Int) (fun y => mks y.1.1) (fun y => []) [(2, _), (3, _), (9, _), (10, _)] (fun y => G43 :: Fs) (fun y => [(b20, .cells #[.slice y.2.2.1 y.2.1.length y.2.2.2.1] 22 (0, 0)), (b19, .cells #[.int .i64 y.2.2.2.2.2] 3 (0, 0))]) [_, _] (fun y => [.g (marksG y.1), .s (.slice y.2.2.1 y.2.1.length y.2.2.2.1) 3 1 y.2.1.length y.2.2.2.2.1]) [] (fun y => OL (Rep.int .i64) G43 y.2.2.2.2.1 y.2.1 ∧ (fence_Probe_J1 x1 x0_1) y.2.1 y.2.2.2.2.2 = some r) ⟨rfl, rfl, rfl, rfl, trivial⟩ [2, 3] rfl [] rfl ?_ ?_
      · intro y hI
        obtain ⟨mk171, v172, a173, k174, cs175, v178⟩ := y
        obtain ⟨o176, r180⟩ := hI
        try dsimp only at o176 r180
        refine Cov.prune [(2, _), (3, _), (9, _), (10, _)] ⟨rfl, rfl, rfl, rfl, trivial⟩ ?_
        refine Cov.same (bl' := [(b20, .cells #[.slice a173 v172.length k174] 22 (0, 0)), (b19, .cells #[.int .i64 v178] 3 (0, 0)), _, _]) (sl' := [.g (marksG mk171), .s (.slice a173 v172.length k174) 3 1 v172.length cs175]) (Fs' := G43 :: Fs) rfl rfl rfl ?_
        unfold fence_Probe_J1 at r180
        try dsimp only at r180
        refine Cov.seq ?_
        refine Cov.drawL (.q 0 (.q 1 (.q 2 (.q 3 (.q 4 (.q 5 (.q 6 (.q 7 (.q 8 (.q 9 (.q 10 (.q 11 (.q 12 .nil))))))))))))) [_, _, _, _] (by kernel_rfl) (by kernel_rfl) (pick_mem [0, 1, 2, 3] rfl) ?_
        refine Cov.dq (.load_own 0 rfl rfl ty22 rfl) rfl ?_
        refine Cov.dq (.load_own 1 rfl rfl ty3 rfl) rfl ?_
        refine Cov.dq (.fieldAddr 1 rfl fl29_1 ty27.sz rfl) rfl ?_
        refine Cov.dq (.load_own 3 rfl rfl ty27 rfl) rfl ?_
        refine Cov.dq (.load_own 1 rfl rfl ty3 rfl) rfl ?_
        obtain ⟨u184, hu184, r185⟩ := bind_some r180; clear r180
        obtain ⟨c186, p187, h188⟩ := SlR.get (SlR.mono (HpLe.trans (HpLe.trans e26 e35) e44) s0_1) hu184
        obtain rfl := h188
        refine Cov.dq (.idxR (SlR.mono (HpLe.trans (HpLe.trans e26 e35) e44) s0_1) rfl rfl hu184 sl27 ty9.sz) rfl ?_
        refine Cov.dq (.load_rp p187 List.mem_cons_self rfl ty9 rfl) rfl ?_
        refine Cov.dq (.load_own 2 rfl rfl ty9 rfl) rfl ?_
        refine Cov.dq (.eql_s rfl rfl) rfl ?_
        refine Cov.dq (.assign rfl) rfl ?_
        refine Cov.dq (.assign rfl) rfl ?_
        refine Cov.dq (.assign rfl) rfl ?_
        refine Cov.dq (.assign rfl) rfl ?_
        refine Cov.draw_end ?_
        refine Cov.prune [(4, _), (5, _), (6, _), (7, _)] ⟨rfl, rfl, rfl, rfl, trivial⟩ ?_
        cases r185
        refine Cov.drop 4 0 [] _ rfl rfl ?_
        refine Cov.out (.inr ⟨_, rfl⟩) rfl (Cov.unmarkAll _ _ ?_)
        refine Cov.outS (c := ⟨20, none⟩) [.tmp 4, .tmp 5, .tmp 6, .tmp 7] [_, _, _, _] Try.func20 Try.results20 ⟨RV.tmp rfl, RV.tmp rfl, RV.tmp rfl, RV.tmp rfl, trivial⟩ (fun _ h => List.mem_cons_of_mem _ h) ⟨a173, k174, cs175, rfl, rfl, rfl, o176⟩
      · intro hb189
        refine Cov.block ?_
        refine Cov.own_nil 3 1 ?_
        refine Cov.pull 3 rfl [_, _, _, _] rfl ?_
        refine Cov.pull 3 rfl [_, _, _, _] rfl ?_
        refine Cov.pull 3 rfl [_, _, _, _] rfl ?_
        refine Cov.pull 3 rfl [_, _, _, _] rfl ?_
        refine Cov.rangeFunc (α := List Int × Option Addr × Nat × List Value × Int) (fun y => []) (fun y => [(b20, .cells #[.slice y.2.1 y.1.length y.2.2.1] 22 (0, 0)), (b19, .cells #[.int .i64 y.2.2.2.2] 3 (0, 0)), (b2, .cells #[.string x1] 9 (0, 0)), (b1, .cells #[.int .i64 x0_0, .slice a0_1 x0_1.length k0_1] 29 (0, 0))]) (fun y => [.s (.slice y.2.1 y.1.length y.2.2.1) 3 1 y.1.length y.2.2.2.1]) (fun i y => OL (Rep.int .i64) G43 y.2.2.2.1 y.1 ∧ fence_Probe_L2 (fence_Probe_J1 x1 x0_1) x0_0 x1 (List.drop i u39) y.1 y.2.2.2.2 = some r) (([] : List Int), none, 0, [], 0) c48 rfl rfl hc49 rfl (by simp) rfl rfl (hi50 _ G43 (HpLe.refl _) List.mem_cons_self) (fun _ _ hv => by obtain ⟨_, _, hv⟩ := hv; exact (Yr.len _ hv).trans rfl) (by kernel_rfl) ⟨(OL.nil (Rp' := (Rep.int .i64))), r40⟩ ?_ ?_
        · intro l261 tm262 D263 i264 y v265 hV266 hI w268 S269 hw270
          obtain ⟨v252, a253, k254, cs255, v258⟩ := y
          obtain ⟨o256, r260⟩ := hI
          try dsimp only at o256 r260
          obtain ⟨x271, h272, h273⟩ := hV266
          refine Cov.dup (G := G43) List.mem_cons_self ?_
          obtain ⟨_, _, rfl, h277, h278⟩ := h273
          obtain ⟨v279, rfl, h280⟩ := h277
          obtain ⟨rfl, _⟩ := List.cons.inj h280
          obtain ⟨v282, rfl, h283⟩ := h278
          obtain ⟨a274, k275, h284, s276⟩ := h283
          obtain ⟨rfl, _⟩ := List.cons.inj h284
          rw [drop_cons h272] at r260
          have r285 : fence_Probe_B2 (fence_Probe_J1 x1 x0_1) x0_0 x1 (fence_Probe_L2 (fence_Probe_J1 x1 x0_1) x0_0 x1 (List.drop (i264 + 1) u39)) x271 v252 v258 = some r := r260; clear r260; unfold fence_Probe_B2 at r285; try dsimp only at r285
          refine Cov.prune [(24, .int .i64 x271.1), (25, .slice a274 x271.2.length k275), (2, _), (3, _), (9, _), (10, _)] ⟨rfl, rfl, rfl, rfl, rfl, rfl, trivial⟩ ?_
          refine Cov.same (bl' := [(b20, .cells #[.slice a253 v252.length k254] 22 (0, 0)), (b19, .cells #[.int .i64 v258] 3 (0, 0)), (b2, .cells #[.string x1] 9 (0, 0)), (b1, .cells #[.int .i64 x0_0, .slice a0_1 x0_1.length k0_1] 29 (0, 0)), _]) (sl' := [.s (.slice a253 v252.length k254) 3 1 v252.length cs255]) (Fs' := G43 :: (G43 :: Fs)) rfl rfl rfl ?_
          refine Cov.region rfl ?_
          refine Cov.q .ro (.assign rfl) rfl ?_
          refine Cov.region_end ?_
          refine Cov.beginRound 4 rfl rfl [_, _, _, _, _] rfl ?_
          refine Cov.block ?_
          refine Cov.seq ?_
          refine Cov.region rfl ?_
          refine Cov.q .ro (.load_own 0 rfl rfl ty22 rfl) rfl ?_
          refine Cov.q .ro (.load_own 1 rfl rfl ty3 rfl) rfl ?_
          refine Cov.lit [_] [(0, _)] .ro sl22 ty3 rfl rfl rfl rfl rfl rfl (fun b286 hb286 => ?_)
          have o287 : OL (Rep.int .i64) G43 [.int .i64 v258] ([v258] : List Int) := ((OL.cons rfl (Rep.intI .i64 v258) (OL.nil (Rp' := (Rep.int .i64)))) :)
          refine Cov.reval 28 (n' := ([v258] : List Int).length) rfl rfl ?_
          obtain ⟨u293, hu293, r294⟩ := bind_some r285; clear r285
          refine Cov.appO (Q := (Rep.int .i64)) 0 .ro sl22 ty3 rfl rfl rfl rfl rfl rfl o256 o287 rfl rfl rfl (Bd.fin List.mem_cons_self) hu293 rfl (fun a289 k290 cs291 o292 => ?_)
          refine Cov.store 0 [_] [_, _, _, _, _] .ro rfl rfl rfl ty22 rfl rfl rfl rfl ?_
          refine Cov.region_end ?_
          refine Cov.drawL (.q 0 (.q 1 (.q 2 (.q 3 (.q 4 (.q 5 (.q 6 (.q 7 (.q 9 (.e 8 1 (.e 10 1 (.q 11 (.e 12 2 .nil))))))))))))) [_, _, _, _, _] (by kernel_rfl) (by kernel_rfl) (pick_mem [0, 1, 2, 3, 4] rfl) ?_
          refine Cov.dq (.load_own 1 rfl rfl ty3 rfl) rfl ?_
          refine Cov.dq (.fieldAddr 0 rfl fl29_0 ty3.sz rfl) rfl ?_
          refine Cov.dq (.load_own 3 rfl rfl ty3 rfl) rfl ?_
          refine Cov.dq (.mulw rfl rfl) rfl ?_
          refine Cov.dq (.move rfl) rfl ?_
          refine Cov.dq (.fieldAddr 0 rfl fl29_0 ty3.sz rfl) rfl ?_
          refine Cov.dq (.load_own 3 rfl rfl ty3 rfl) rfl ?_
          refine Cov.dq (.load_own 1 rfl rfl ty3 rfl) rfl ?_
          refine Cov.dq (.load_own 2 rfl rfl ty9 rfl) rfl ?_
          obtain ⟨u296, hu296, r297⟩ := bind_some r294; clear r294
          refine Cov.callS (b1 := []) (b2 := [_, _, _, _, _]) (s1 := []) [_, _, _] [] .d1 rfl rfl Try.call38 rfl rfl (fence_blockOf_c (G := G43) List.mem_cons_self s276 hu296) rfl (fun v299 bo so h298 => ?_)
          obtain ⟨a300, k301, rfl, rfl, rfl, s302⟩ := h298
          refine Cov.same (bl' := [_, _, _, _, _]) (sl' := [_]) rfl rfl rfl ?_
          refine Cov.clsL (HpLe.refl _) (pick_mem [0, 1, 2, 3, 4] rfl) ?_
          obtain ⟨u303, hu303, r304⟩ := bind_some r297; clear r297
          refine Cov.callS (b1 := []) (b2 := [_, _, _, _, _]) (s1 := []) [_, _] [] .d1 rfl rfl Try.call32 rfl rfl (fence_last_c (G := G43) List.mem_cons_self s302 hu303) rfl (fun v306 bo so h305 => ?_)
          obtain ⟨rfl, rfl, rfl⟩ := h305
          refine Cov.same (bl' := [_, _, _, _, _]) (sl' := [_]) rfl rfl rfl ?_
          refine Cov.clsL (HpLe.refl _) (pick_mem [0, 1, 2, 3, 4] rfl) ?_
          refine Cov.dq (.addw rfl rfl) rfl ?_
          refine Cov.store 1 [_] [_, _, _, _, _] .d2 rfl rfl rfl ty3 rfl rfl rfl rfl ?_
          refine Cov.draw_end ?_
          refine Cov.prune [] trivial ?_
          refine Cov.inBlock ?_
          refine Cov.round_end (u293, a289, k290, cs291, (w64 ((w64 (v258 * x0_0)) + u303))) 4 rfl rfl ⟨o292, r304⟩ rfl rfl (fun F hF => List.mem_cons_of_mem _ hF) (by simp)
        · intro q307 y hI hb308
          obtain ⟨v252, a253, k254, cs255, v258⟩ := y
          obtain ⟨o256, r260⟩ := hI
          try dsimp only at o256 r260
          refine Cov.prune [(2, _), (3, _), (9, _), (10, _)] ⟨rfl, rfl, rfl, rfl, trivial⟩ ?_
          refine Cov.same (bl' := [(b20, .cells #[.slice a253 v252.length k254] 22 (0, 0)), (b19, .cells #[.int .i64 v258] 3 (0, 0)), (b2, .cells #[.string x1] 9 (0, 0)), (b1, .cells #[.int .i64 x0_0, .slice a0_1 x0_1.length k0_1] 29 (0, 0)), _]) (sl' := [.s (.slice a253 v252.length k254) 3 1 v252.length cs255, _]) (Fs' := G43 :: Fs) rfl rfl rfl ?_
          refine Cov.pullS 1 rfl [_, _] rfl ?_
          refine Cov.mkmerge 4 rfl [_, _, _, _] rfl (fun mk309 => ?_)
          rw [List.drop_length] at r260; rw [fence_Probe_L2] at r260; try dsimp only at r260
          refine Cov.inBlock ?_
          refine Cov.prune _ ?_ (Cov.same rfl rfl rfl (hb189 (mk309, v252, a253, k254, cs255, v258) ⟨o256, r260⟩))
          exact ⟨rfl, rfl, rfl, rfl, trivial⟩

set_option maxHeartbeats 4000000 in
theorem ref04_Same_c {Fs : List Hp} {G : Hp} {a0 : Option Addr} {k0 : Nat} {x0 : List Int} {a1 : Option Addr} {k1 : Nat} {x1 : List Int} {r : Bool} (hG : G ∈ Fs) (s0 : SlR (Rep.int .i64) G a0 k0 x0) (s1 : SlR (Rep.int .i64) G a1 k1 x1) (h : ref04_Same x0 x1 = some r) : RetS Try.prog 22 #[.slice a0 x0.length k0, .slice a1 x1.length k1] Fs [] [] (fun v bo so => v = .bool r ∧ bo = [] ∧ so = []) := by
  unfold ref04_Same at h
  try dsimp only at h
  refine RetS.of (vs := [_, _]) Try.func22 rfl Try.ntmps22 [(0, _), (1, _)] ⟨rfl, rfl, trivial⟩ rfl hG fun w0 S0 hS0 B0 => ?_
  refine Cov.seq ?_
  refine Cov.region rfl ?_
  refine Cov.q .ro (.assign rfl) rfl ?_
  refine Cov.region_end ?_
  refine Cov.seq ?_
  refine Cov.seq ?_
  refine Cov.region rfl ?_
  refine Cov.q .ro (.move rfl) rfl ?_
  refine Cov.q .ro (.len_sl rfl rfl sl22) rfl ?_
  refine Cov.q .ro (.move rfl) rfl ?_
  refine Cov.q .ro (.len_sl rfl rfl sl22) rfl ?_
  refine Cov.q .ro (.neq rfl rfl) rfl ?_
  refine Cov.region_end ?_
  refine Cov.cond_dec rfl (fun c1 => ?_) (fun c1 => ?_)
  · have r2 := ifT h c1; clear h
    refine Cov.seq ?_
    refine Cov.region rfl ?_
    refine Cov.q .ro (.assign rfl) rfl ?_
    refine Cov.region_end ?_
    cases r2
    refine Cov.retS (c := ⟨22, none⟩) (.inr ⟨_, rfl⟩) [.tmp 4] [_] rfl Try.func22 Try.results22 ⟨RV.tmp rfl, trivial⟩ (fun _ h => List.mem_cons_of_mem _ h) ⟨rfl, rfl, rfl⟩
  · have r3 := ifF h c1; clear h
    refine Cov.skip ?_
    refine Cov.seq ?_
    refine Cov.seq ?_
    refine Cov.region rfl ?_
    refine Cov.q .ro (.move rfl) rfl ?_
    refine Cov.q .ro (.len_sl rfl rfl sl22) rfl ?_
    refine Cov.q .ro (.move rfl) rfl ?_
    refine Cov.region_end ?_
    refine Cov.block ?_
    refine Cov.loop2 (α := Nat × List Int) (fun y => [(13, .int .i64 (y.1 : Int))]) [(0, _), (1, _), (12, _)] (fun y => []) (fun y => []) [] (fun y => []) [] (fun y => List.drop y.1 x0 = y.2 ∧ ref04_Same_L1 x1 y.2 y.1  = some r) (fun y => y.2.length) (0, x0) ⟨rfl, r3⟩ ⟨rfl, rfl, rfl, rfl, trivial⟩ rfl rfl rfl (fun y hI hb27 => ?_)
    obtain ⟨i23, w24⟩ := y
    obtain ⟨g25, r26⟩ := hI
    try dsimp only at g25 r26
    refine Cov.prune [(13, .int .i64 (i23 : Int)), (0, _), (1, _), (12, _)] ⟨rfl, rfl, rfl, rfl, trivial⟩ ?_
    refine Cov.same (bl' := []) (sl' := []) (Fs' := G :: Fs) rfl rfl rfl ?_
    cases w24 with
    | nil =>
      rw [ref04_Same_L1] at r26; try dsimp only at r26
      refine Cov.seq ?_
      refine Cov.region rfl ?_
      refine Cov.q .ro (.lss rfl rfl) rfl ?_
      refine Cov.region_end ?_
      refine Cov.seq ?_
      refine Cov.cond_dec rfl (fun c => absurd c (drop_nil g25)) (fun _ => ?_)
      refine Cov.exit rfl ?_
      refine Cov.seq ?_
      refine Cov.region rfl ?_
      refine Cov.q .ro (.assign rfl) rfl ?_
      refine Cov.region_end ?_
      cases r26
      refine Cov.retS (c := ⟨22, none⟩) (.inr ⟨_, rfl⟩) [.tmp 4] [_] rfl Try.func22 Try.results22 ⟨RV.tmp rfl, trivial⟩ (fun _ h => List.mem_cons_of_mem _ h) ⟨rfl, rfl, rfl⟩
    | cons x32 xs33 =>
      have r31 : ref04_Same_B1 x1 (ref04_Same_L1 x1 xs33 (i23 + 1)) x32 i23  = some r := r26; clear r26; unfold ref04_Same_B1 at r31; try dsimp only at r31
      refine Cov.seq ?_
      refine Cov.region rfl ?_
      refine Cov.q .ro (.lss rfl rfl) rfl ?_
      refine Cov.region_end ?_
      refine Cov.seq ?_
      refine Cov.cond_dec rfl (fun _ => ?_) (fun c => absurd (drop_lt g25) c)
      refine Cov.skip ?_
      refine Cov.seq ?_
      refine Cov.block ?_
      refine Cov.seq ?_
      refine Cov.region rfl ?_
      refine Cov.q .ro (.move rfl) rfl ?_
      refine Cov.q .ro (.assign rfl) rfl ?_
      refine Cov.region_end ?_
      refine Cov.seq ?_
      refine Cov.drawL (.q 0 (.q 1 (.q 2 (.q 3 (.q 4 (.q 5 (.q 6 (.q 7 (.q 8 .nil))))))))) [] (by kernel_rfl) (by kernel_rfl) (pick_mem [] rfl) ?_
      refine Cov.dq (.move rfl) rfl ?_
      refine Cov.dq (.move rfl) rfl ?_
      obtain ⟨c34, p35, h36⟩ := SlR.get s0 (drop_idx g25)
      obtain rfl := h36
      refine Cov.dq (.idxR s0 rfl rfl (drop_idx g25) sl22 ty3.sz) rfl ?_
      refine Cov.dq (.load_rp p35 List.mem_cons_self rfl ty3 rfl) rfl ?_
      refine Cov.dq (.move rfl) rfl ?_
      refine Cov.dq (.move rfl) rfl ?_
      obtain ⟨u37, hu37, r38⟩ := bind_some r31; clear r31
      obtain ⟨c39, p40, h41⟩ := SlR.get s1 hu37
      obtain rfl := h41
      refine Cov.dq (.idxR s1 rfl rfl hu37 sl22 ty3.sz) rfl ?_
      refine Cov.dq (.load_rp p40 List.mem_cons_self rfl ty3 rfl) rfl ?_
      refine Cov.dq (.neq rfl rfl) rfl ?_
      refine Cov.draw_end ?_
      refine Cov.cond_dec rfl (fun c42 => ?_) (fun c42 => ?_)
      · have r43 := ifT r38 c42; clear r38
        refine Cov.seq ?_
        refine Cov.region rfl ?_
        refine Cov.q .ro (.assign rfl) rfl ?_
        refine Cov.region_end ?_
        refine Cov.prune [(4, _)] ⟨rfl, trivial⟩ ?_
        cases r43
        refine Cov.retS (c := ⟨22, none⟩) (.inr ⟨_, rfl⟩) [.tmp 4] [_] rfl Try.func22 Try.results22 ⟨RV.tmp rfl, trivial⟩ (fun _ h => List.mem_cons_of_mem _ h) ⟨rfl, rfl, rfl⟩
      · have r44 := ifF r38 c42; clear r38
        refine Cov.skip ?_
        refine Cov.inBlock ?_
        refine Cov.region rfl ?_
        refine Cov.q .ro (.addw rfl rfl) rfl ?_
        refine Cov.q .ro (.move rfl) rfl ?_
        refine Cov.region_end ?_
        refine Cov.prune [(13, _), (0, _), (1, _), (12, _)] ⟨rfl, rfl, rfl, rfl, trivial⟩ ?_
        refine Cov.prune _ ?_ (Cov.same rfl rfl rfl (hb27 ((i23 + 1), xs33) ⟨(drop_succ g25), r44⟩ (Nat.lt_succ_self _)))
        exact ⟨(congrArg (fun z => some (Value.int .i64 z)) (idx_wrap (SlR.len s0) g25)), rfl, rfl, rfl, trivial⟩

set_option maxHeartbeats 4000000 in
theorem law21_sane_c {Fs : List Hp} {G : Hp}  {r : Bool} (hG : G ∈ Fs)  (h : law21_sane = some r) : RetS Try.prog 8 #[] Fs [] [] (fun v bo so => v = .bool r ∧ bo = [] ∧ so = []) := by
  unfold law21_sane at h
  try dsimp only at h
  refine RetS.of (vs := []) Try.func8 rfl Try.ntmps8 [] trivial rfl hG fun w0 S0 hS0 B0 => ?_
  refine Cov.seq ?_
  refine Cov.region rfl ?_
  refine Cov.q .ro (.assign rfl) rfl ?_
  refine Cov.region_end ?_
  refine Cov.seq ?_
  refine Cov.region rfl ?_
  refine Cov.lit [_, _, _, _, _, _, _, _, _] [(0, _), (1, _), (2, _), (3, _), (4, _), (5, _), (6, _), (7, _), (8, _)] .ro sl27 ty9 rfl rfl rfl rfl rfl rfl (fun b1 hb1 => ?_)
  have o2 : OL Rep.str G [.string ⟨#[97]⟩, .string ⟨#[98]⟩, .string ⟨#[99]⟩, .string ⟨#[100]⟩, .string ⟨#[101]⟩, .string ⟨#[102]⟩, .string ⟨#[103]⟩, .string ⟨#[104]⟩, .string ⟨#[105]⟩] ([⟨#[97]⟩, ⟨#[98]⟩, ⟨#[99]⟩, ⟨#[100]⟩, ⟨#[101]⟩, ⟨#[102]⟩, ⟨#[103]⟩, ⟨#[104]⟩, ⟨#[105]⟩] : List ByteArray) := ((OL.cons rfl (Rep.strI ⟨#[97]⟩) (OL.cons rfl (Rep.strI ⟨#[98]⟩) (OL.cons rfl (Rep.strI ⟨#[99]⟩) (OL.cons rfl (Rep.strI ⟨#[100]⟩) (OL.cons rfl (Rep.strI ⟨#[101]⟩) (OL.cons rfl (Rep.strI ⟨#[102]⟩) (OL.cons rfl (Rep.strI ⟨#[103]⟩) (OL.cons rfl (Rep.strI ⟨#[104]⟩) (OL.cons rfl (Rep.strI ⟨#[105]⟩) (OL.nil (Rp' := Rep.str))))))))))) :)
  refine Cov.reval 13 (n' := ([⟨#[97]⟩, ⟨#[98]⟩, ⟨#[99]⟩, ⟨#[100]⟩, ⟨#[101]⟩, ⟨#[102]⟩, ⟨#[103]⟩, ⟨#[104]⟩, ⟨#[105]⟩] : List ByteArray).length) rfl rfl ?_
  refine Cov.q .ro (.build [_, _] [(0, _), (1, _)] ty29 pl29 rfl rfl) rfl ?_
  refine Cov.alloc .ro ty29 rfl (fun b4 hb4 => ?_)
  refine Cov.store 0 [_, _] [_] .ro rfl rfl rfl ty29 rfl rfl rfl rfl ?_
  refine Cov.region_end ?_
  refine Cov.seq ?_
  refine Cov.region rfl ?_
  refine Cov.q .ro (.load_own_a 0 [_, _] rfl rfl ty29 rfl) rfl ?_
  refine Cov.freezeR 0 rfl rfl o2 [] rfl B0 (fun G5 e6 B7 s8 => ?_)
  obtain ⟨u10, hu10, r11⟩ := bind_some h; clear h
  refine Cov.callW (b1 := []) (b2 := [_]) (s1 := []) [_] [] .ro rfl rfl Try.call14 rfl rfl (fence_Levels_c (G := G5) List.mem_cons_self s8 hu10) rfl B7 (fun v13 bo so G14 e15 B16 h12 => ?_)
  obtain ⟨a19, k20, cs21, rfl, rfl, rfl, o22⟩ := h12
  refine Cov.same (bl' := [_]) (sl' := [_]) rfl rfl rfl ?_
  refine Cov.q .ro (.move rfl) rfl ?_
  refine Cov.q .ro (.extract rfl rfl) rfl ?_
  refine Cov.q .ro (.extract rfl rfl) rfl ?_
  refine Cov.q .ro (.assign rfl) rfl ?_
  refine Cov.q .ro (.assign rfl) rfl ?_
  refine Cov.region_end ?_
  refine Cov.seq ?_
  refine Cov.region rfl ?_
  obtain ⟨u23, hu23, r24⟩ := bind_some r11; clear r11
  refine Cov.callS (b1 := []) (b2 := [_]) (s1 := []) [_, _] [] .ro rfl rfl Try.call16 rfl rfl (fence_Steps_c (G := G14) List.mem_cons_self  hu23) rfl (fun v26 bo so h25 => ?_)
  obtain ⟨rfl, rfl, rfl⟩ := h25
  refine Cov.same (bl' := [_]) (sl' := [_]) rfl rfl rfl ?_
  refine Cov.q .ro (.move rfl) rfl ?_
  refine Cov.q .ro (.extract rfl rfl) rfl ?_
  refine Cov.q .ro (.extract rfl rfl) rfl ?_
  refine Cov.q .ro (.assign rfl) rfl ?_
  refine Cov.q .ro (.assign rfl) rfl ?_
  refine Cov.region_end ?_
  refine Cov.seq ?_
  refine Cov.region rfl ?_
  refine Cov.q .ro (.load_own_a 0 [_, _] rfl rfl ty29 rfl) rfl ?_
  obtain ⟨u27, hu27, r28⟩ := bind_some r24; clear r24
  refine Cov.callS (b1 := []) (b2 := [_]) (s1 := []) [_, _] [] .ro rfl rfl Try.call20 rfl rfl (fence_Probe_c (G := G14) List.mem_cons_self (SlR.mono e15 s8) hu27) rfl (fun v30 bo so h29 => ?_)
  obtain ⟨a32, k33, cs34, rfl, rfl, rfl, o35⟩ := h29
  refine Cov.same (bl' := [_]) (sl' := [_, _]) rfl rfl rfl ?_
  refine Cov.q .ro (.move rfl) rfl ?_
  refine Cov.q .ro (.extract rfl rfl) rfl ?_
  refine Cov.q .ro (.extract rfl rfl) rfl ?_
  refine Cov.q .ro (.extract rfl rfl) rfl ?_
  refine Cov.q .ro (.extract rfl rfl) rfl ?_
  refine Cov.q .ro (.assign rfl) rfl ?_
  refine Cov.q .ro (.assign rfl) rfl ?_
  refine Cov.q .ro (.assign rfl) rfl ?_
  refine Cov.q .ro (.assign rfl) rfl ?_
  refine Cov.region_end ?_
  refine Cov.prune [(1, _), (2, _), (3, _), (4, _), (5, _), (6, _), (7, _), (8, _), (9, _)] ⟨rfl, rfl, rfl, rfl, rfl, rfl, rfl, rfl, rfl, trivial⟩ ?_
  refine Cov.seq ?_
  refine Cov.region rfl ?_
  refine Cov.q .ro (.load_own_a 0 [_, _] rfl rfl ty29 rfl) rfl ?_
  obtain ⟨u36, hu36, r37⟩ := bind_some r28; clear r28
  refine Cov.callS (b1 := []) (b2 := [_]) (s1 := []) [_, _, _] [] .ro rfl rfl Try.call13 rfl rfl (fence_Range_c (G := G14) List.mem_cons_self (SlR.mono e15 s8) hu36) rfl (fun v39 bo so h38 => ?_)
  obtain ⟨a41, k42, cs43, rfl, rfl, rfl, o44⟩ := h38
  refine Cov.same (bl' := [_]) (sl' := [_, _, _]) rfl rfl rfl ?_
  refine Cov.q .ro (.move rfl) rfl ?_
  refine Cov.q .ro (.extract rfl rfl) rfl ?_
  refine Cov.q .ro (.extract rfl rfl) rfl ?_
  refine Cov.q .ro (.extract rfl rfl) rfl ?_
  refine Cov.q .ro (.assign rfl) rfl ?_
  refine Cov.q .ro (.assign rfl) rfl ?_
  refine Cov.q .ro (.assign rfl) rfl ?_
  refine Cov.region_end ?_
  refine Cov.seq ?_
  refine Cov.region rfl ?_
  refine Cov.q .ro (.move rfl) rfl ?_
  refine Cov.q .ro (.eql rfl rfl) rfl ?_
  refine Cov.q .ro (.move rfl) rfl ?_
  refine Cov.cutR 3 (β := Unit) (fun y => [(42, .bool (decide ((u10.2 = 0) ∧ (u23.2 = 0))))]) [(2, _), (4, _), (6, _), (7, _), (8, _), (9, _), (10, _), (11, _), (12, _)] (fun y => G14 :: Fs) (fun y => []) [_] (fun y => []) [_, _, _] (fun y => True) ⟨rfl, rfl, rfl, rfl, rfl, rfl, rfl, rfl, rfl, trivial⟩ [0] rfl [0, 1, 2] rfl ?_ ?_
  · rintro _ _
    refine Cov.prune [(42, .bool (decide ((u10.2 = 0) ∧ (u23.2 = 0)))), (2, _), (4, _), (6, _), (7, _), (8, _), (9, _), (10, _), (11, _), (12, _)] ⟨rfl, rfl, rfl, rfl, rfl, rfl, rfl, rfl, rfl, rfl, trivial⟩ ?_
    refine Cov.same (bl' := [_]) (sl' := [_, _, _]) (Fs' := G14 :: Fs) rfl rfl rfl ?_
    refine Cov.q .ro (.move rfl) rfl ?_
    refine Cov.cutR 3 (β := Unit) (fun y => [(46, .bool (decide (((u10.2 = 0) ∧ (u23.2 = 0)) ∧ (u27.2.2.2 = 0))))]) [(2, _), (4, _), (6, _), (7, _), (8, _), (10, _), (11, _), (12, _)] (fun y => G14 :: Fs) (fun y => []) [_] (fun y => []) [_, _, _] (fun y => True) ⟨rfl, rfl, rfl, rfl, rfl, rfl, rfl, rfl, trivial⟩ [0] rfl [0, 1, 2] rfl ?_ ?_
    · rintro _ _
      refine Cov.prune [(46, .bool (decide (((u10.2 = 0) ∧ (u23.2 = 0)) ∧ (u27.2.2.2 = 0)))), (2, _), (4, _), (6, _), (7, _), (8, _), (10, _), (11, _), (12, _)] ⟨rfl, rfl, rfl, rfl, rfl, rfl, rfl, rfl, rfl, trivial⟩ ?_
      refine Cov.same (bl' := [_]) (sl' := [_, _, _]) (Fs' := G14 :: Fs) rfl rfl rfl ?_
      refine Cov.q .ro (.move rfl) rfl ?_
      refine Cov.cutR 3 (β := Unit) (fun y => [(50, .bool (decide ((((u10.2 = 0) ∧ (u23.2 = 0)) ∧ (u27.2.2.2 = 0)) ∧ (u36.2.2 = 0))))]) [(2, _), (4, _), (6, _), (7, _), (8, _), (10, _), (11, _)] (fun y => G14 :: Fs) (fun y => []) [_] (fun y => []) [_, _, _] (fun y => True) ⟨rfl, rfl, rfl, rfl, rfl, rfl, rfl, trivial⟩ [0] rfl [0, 1, 2] rfl ?_ ?_
      · rintro _ _
        refine Cov.prune [(50, .bool (decide ((((u10.2 = 0) ∧ (u23.2 = 0)) ∧ (u27.2.2.2 = 0)) ∧ (u36.2.2 = 0)))), (2, _), (4, _), (6, _), (7, _), (8, _), (10, _), (11, _)] ⟨rfl, rfl, rfl, rfl, rfl, rfl, rfl, rfl, trivial⟩ ?_
        refine Cov.same (bl' := [_]) (sl' := [_, _, _]) (Fs' := G14 :: Fs) rfl rfl rfl ?_
        refine Cov.q .ro (.move rfl) rfl ?_
        refine Cov.cutR 4 (β := Unit) (fun y => [(55, .bool (decide (((((u10.2 = 0) ∧ (u23.2 = 0)) ∧ (u27.2.2.2 = 0)) ∧ (u36.2.2 = 0)) ∧ ((u10.1.length : Int) = 2))))]) [(4, _), (6, _), (7, _), (8, _), (10, _), (11, _)] (fun y => G14 :: Fs) (fun y => []) [_] (fun y => []) [_, _, _] (fun y => True) ⟨rfl, rfl, rfl, rfl, rfl, rfl, trivial⟩ [0] rfl [0, 1, 2] rfl ?_ ?_
        · rintro _ _
          refine Cov.prune [(55, .bool (decide (((((u10.2 = 0) ∧ (u23.2 = 0)) ∧ (u27.2.2.2 = 0)) ∧ (u36.2.2 = 0)) ∧ ((u10.1.length : Int) = 2)))), (4, _), (6, _), (7, _), (8, _), (10, _), (11, _)] ⟨rfl, rfl, rfl, rfl, rfl, rfl, rfl, trivial⟩ ?_
          refine Cov.same (bl' := [_]) (sl' := [_, _, _]) (Fs' := G14 :: Fs) rfl rfl rfl ?_
          refine Cov.q .ro (.move rfl) rfl ?_
          refine Cov.cutR 3 (β := Unit) (fun y => [(59, .bool (decide ((((((u10.2 = 0) ∧ (u23.2 = 0)) ∧ (u27.2.2.2 = 0)) ∧ (u36.2.2 = 0)) ∧ ((u10.1.length : Int) = 2)) ∧ (u23.1 = 2))))]) [(6, _), (7, _), (8, _), (10, _), (11, _)] (fun y => G14 :: Fs) (fun y => []) [_] (fun y => []) [_, _, _] (fun y => True) ⟨rfl, rfl, rfl, rfl, rfl, trivial⟩ [0] rfl [0, 1, 2] rfl ?_ ?_
          · rintro _ _
            refine Cov.prune [(59, .bool (decide ((((((u10.2 = 0) ∧ (u23.2 = 0)) ∧ (u27.2.2.2 = 0)) ∧ (u36.2.2 = 0)) ∧ ((u10.1.length : Int) = 2)) ∧ (u23.1 = 2)))), (6, _), (7, _), (8, _), (10, _), (11, _)] ⟨rfl, rfl, rfl, rfl, rfl, rfl, trivial⟩ ?_
            refine Cov.same (bl' := [_]) (sl' := [_, _, _]) (Fs' := G14 :: Fs) rfl rfl rfl ?_
            refine Cov.q .ro (.move rfl) rfl ?_
            refine Cov.freezeR 1 rfl rfl o35 [_, _] rfl B16 (fun G82 e83 B84 s85 => ?_)
            obtain ⟨u101, h102, r103⟩ := bind_some r37; clear r37
            refine Cov.cutR 4 (β := Hp) (fun y => [(64, .bool u101)]) [(7, _), (8, _), (10, _), (11, _)] (fun y => y :: Fs) (fun y => []) [_] (fun y => []) [_, _] (fun y => HpLe G82 y ∧ Bd w0 S0 Fs y) ⟨rfl, rfl, rfl, rfl, trivial⟩ [0] rfl [0, 1] rfl ?_ ?_
            · rintro G104 ⟨e105, B106⟩
              refine Cov.prune [(64, .bool u101), (7, _), (8, _), (10, _), (11, _)] ⟨rfl, rfl, rfl, rfl, rfl, trivial⟩ ?_
              refine Cov.same (bl' := [_]) (sl' := [_, _]) (Fs' := G104 :: Fs) rfl rfl rfl ?_
              refine Cov.q .ro (.move rfl) rfl ?_
              refine Cov.cutR 3 (β := Unit) (fun y => [(68, .bool (decide ((u101 = true) ∧ (u27.2.1 = 4))))]) [(8, _), (10, _), (11, _)] (fun y => G104 :: Fs) (fun y => []) [_] (fun y => []) [_, _] (fun y => True) ⟨rfl, rfl, rfl, trivial⟩ [0] rfl [0, 1] rfl ?_ ?_
              · rintro _ _
                refine Cov.prune [(68, .bool (decide ((u101 = true) ∧ (u27.2.1 = 4)))), (8, _), (10, _), (11, _)] ⟨rfl, rfl, rfl, rfl, trivial⟩ ?_
                refine Cov.same (bl' := [_]) (sl' := [_, _]) (Fs' := G104 :: Fs) rfl rfl rfl ?_
                refine Cov.q .ro (.move rfl) rfl ?_
                refine Cov.cutR 3 (β := Unit) (fun y => [(72, .bool (decide (((u101 = true) ∧ (u27.2.1 = 4)) ∧ ((!u27.2.2.1) = true))))]) [(10, _), (11, _)] (fun y => G104 :: Fs) (fun y => []) [_] (fun y => []) [_, _] (fun y => True) ⟨rfl, rfl, trivial⟩ [0] rfl [0, 1] rfl ?_ ?_
                · rintro _ _
                  refine Cov.prune [(72, .bool (decide (((u101 = true) ∧ (u27.2.1 = 4)) ∧ ((!u27.2.2.1) = true)))), (10, _), (11, _)] ⟨rfl, rfl, rfl, trivial⟩ ?_
                  refine Cov.same (bl' := [_]) (sl' := [_, _]) (Fs' := G104 :: Fs) rfl rfl rfl ?_
                  refine Cov.q .ro (.move rfl) rfl ?_
                  refine Cov.freezeR 0 rfl rfl (OL.mono (HpLe.trans e83 e105) o44) [_] rfl B106 (fun G133 e134 B135 s136 => ?_)
                  obtain ⟨u152, h153, r154⟩ := bind_some r103; clear r103
                  refine Cov.cutR 4 (β := Hp) (fun y => [(77, .bool u152)]) [(11, _)] (fun y => y :: Fs) (fun y => []) [_] (fun y => []) [_] (fun y => HpLe G133 y ∧ Bd w0 S0 Fs y) ⟨rfl, trivial⟩ [0] rfl [0] rfl ?_ ?_
                  · rintro G155 ⟨e156, B157⟩
                    refine Cov.prune [(77, .bool u152), (11, _)] ⟨rfl, rfl, trivial⟩ ?_
                    refine Cov.same (bl' := [_]) (sl' := [_]) (Fs' := G155 :: Fs) rfl rfl rfl ?_
                    refine Cov.q .ro (.move rfl) rfl ?_
                    refine Cov.cutR 3 (β := Unit) (fun y => [(81, .bool (decide ((u152 = true) ∧ (u36.2.1 = 5))))]) [] (fun y => G155 :: Fs) (fun y => []) [_] (fun y => []) [_] (fun y => True) trivial [0] rfl [0] rfl ?_ ?_
                    · rintro _ _
                      refine Cov.prune [(81, .bool (decide ((u152 = true) ∧ (u36.2.1 = 5))))] ⟨rfl, trivial⟩ ?_
                      refine Cov.same (bl' := [_]) (sl' := [_]) (Fs' := G155 :: Fs) rfl rfl rfl ?_
                      refine Cov.q .ro (.assign rfl) rfl ?_
                      refine Cov.region_end ?_
                      cases r154
                      refine Cov.drop 1 0 [] _ rfl rfl ?_
                      refine Cov.drop 0 1 _ [] rfl rfl ?_
                      refine Cov.retS (c := ⟨8, none⟩) (.inr ⟨_, rfl⟩) [.tmp 0] [_] rfl Try.func8 Try.results8 ⟨RV.tmp rfl, trivial⟩ (fun _ h => List.mem_cons_of_mem _ h) ⟨rfl, rfl, rfl⟩
                    · intro hb160
                      refine Cov.split_b 78 rfl (fun c159 => ?_) (fun c159 => ?_)
                      · refine Cov.g_on rfl ?_
                        refine Cov.q .ro (.move rfl) rfl ?_
                        refine Cov.g_on rfl ?_
                        refine Cov.q .ro (.eql rfl rfl) rfl ?_
                        refine Cov.q .ro (.pick_t rfl rfl) rfl ?_
                        refine Cov.prune _ ?_ (Cov.same rfl rfl rfl (hb160 () trivial))
                        exact ⟨dand_t c159, trivial⟩
                      · refine Cov.g_off rfl rfl rfl ?_
                        refine Cov.g_off rfl rfl rfl ?_
                        refine Cov.q .ro (.pick_f rfl rfl) rfl ?_
                        refine Cov.prune _ ?_ (Cov.same rfl rfl rfl (hb160 () trivial))
                        exact ⟨dand_f (bne_of c159), trivial⟩
                  · intro hb151
                    refine Cov.split 73 rfl (fun c150 => ?_) (fun c150 => ?_)
                    · have r163 := ifT h153 c150
                      refine Cov.g_on rfl ?_
                      refine Cov.q .ro (.move rfl) rfl ?_
                      refine Cov.g_on rfl ?_
                      refine Cov.lit [_, _, _] [(0, _), (1, _), (2, _)] .ro sl22 ty3 rfl rfl rfl rfl rfl rfl (fun b164 hb164 => ?_)
                      have o165 : OL (Rep.int .i64) G133 [.int .i64 1, .int .i64 2, .int .i64 2] ([1, 2, 2] : List Int) := ((OL.cons rfl (Rep.intI .i64 1) (OL.cons rfl (Rep.intI .i64 2) (OL.cons rfl (Rep.intI .i64 2) (OL.nil (Rp' := (Rep.int .i64)))))) :)
                      refine Cov.reval 75 (n' := ([1, 2, 2] : List Int).length) rfl rfl ?_
                      refine Cov.g_on rfl ?_
                      refine Cov.freezeR 0 rfl rfl o165 [_] rfl B135 (fun G167 e168 B169 s170 => ?_)
                      obtain ⟨u172, hu172, r173⟩ := bind_some r163; clear r163
                      refine Cov.callS (b1 := []) (b2 := [_]) (s1 := []) [_, _] [] .ro rfl rfl Try.call22 rfl rfl (ref04_Same_c (G := G167) List.mem_cons_self (SlR.mono e168 s136) s170 hu172) rfl (fun v175 bo so h174 => ?_)
                      obtain ⟨rfl, rfl, rfl⟩ := h174
                      refine Cov.same (bl' := [_]) (sl' := [_]) rfl rfl rfl ?_
                      refine Cov.q .ro (.pick_t rfl rfl) rfl ?_
                      refine Cov.prune _ ?_ (Cov.same rfl rfl rfl (hb151 G167 ⟨e168, B169⟩))
                      exact ⟨sval r173, rfl, trivial⟩
                    · have r176 := ifF h153 c150
                      refine Cov.g_off rfl rfl rfl ?_
                      refine Cov.g_off rfl rfl rfl ?_
                      refine Cov.g_off rfl rfl rfl ?_
                      refine Cov.q .ro (.pick_f rfl rfl) rfl ?_
                      refine Cov.prune _ ?_ (Cov.same rfl rfl rfl (hb151 G133 ⟨(HpLe.refl _), B135⟩))
                      exact ⟨sval r176, rfl, trivial⟩
                · intro hb113
                  refine Cov.split 69 rfl (fun c112 => ?_) (fun c112 => ?_)
                  · refine Cov.g_on rfl ?_
                    refine Cov.q .ro (.move rfl) rfl ?_
                    refine Cov.g_on rfl ?_
                    refine Cov.q .ro (.not rfl) rfl ?_
                    refine Cov.q .ro (.pick_t rfl rfl) rfl ?_
                    refine Cov.prune _ ?_ (Cov.same rfl rfl rfl (hb113 () trivial))
                    exact ⟨dand_tb c112, rfl, rfl, trivial⟩
                  · refine Cov.g_off rfl rfl rfl ?_
                    refine Cov.g_off rfl rfl rfl ?_
                    refine Cov.q .ro (.pick_f rfl rfl) rfl ?_
                    refine Cov.prune _ ?_ (Cov.same rfl rfl rfl (hb113 () trivial))
                    exact ⟨dand_f c112, rfl, rfl, trivial⟩
              · intro hb109
                refine Cov.split_b 65 rfl (fun c108 => ?_) (fun c108 => ?_)
                · refine Cov.g_on rfl ?_
                  refine Cov.q .ro (.move rfl) rfl ?_
                  refine Cov.g_on rfl ?_
                  refine Cov.q .ro (.eql rfl rfl) rfl ?_
                  refine Cov.q .ro (.pick_t rfl rfl) rfl ?_
                  refine Cov.prune _ ?_ (Cov.same rfl rfl rfl (hb109 () trivial))
                  exact ⟨dand_t c108, rfl, rfl, rfl, trivial⟩
                · refine Cov.g_off rfl rfl rfl ?_
                  refine Cov.g_off rfl rfl rfl ?_
                  refine Cov.q .ro (.pick_f rfl rfl) rfl ?_
                  refine Cov.prune _ ?_ (Cov.same rfl rfl rfl (hb109 () trivial))
                  exact ⟨dand_f (bne_of c108), rfl, rfl, rfl, trivial⟩
            · intro hb100
              refine Cov.split 60 rfl (fun c99 => ?_) (fun c99 => ?_)
              · have r177 := ifT h102 c99
                refine Cov.g_on rfl ?_
                refine Cov.q .ro (.move rfl) rfl ?_
                refine Cov.g_on rfl ?_
                refine Cov.lit [_, _] [(0, _), (1, _)] .ro sl22 ty3 rfl rfl rfl rfl rfl rfl (fun b178 hb178 => ?_)
                have o179 : OL (Rep.int .i64) G82 [.int .i64 0, .int .i64 1] ([0, 1] : List Int) := ((OL.cons rfl (Rep.intI .i64 0) (OL.cons rfl (Rep.intI .i64 1) (OL.nil (Rp' := (Rep.int .i64))))) :)
                refine Cov.reval 62 (n' := ([0, 1] : List Int).length) rfl rfl ?_
                refine Cov.g_on rfl ?_
                refine Cov.freezeR 0 rfl rfl o179 [_, _] rfl B84 (fun G181 e182 B183 s184 => ?_)
                obtain ⟨u186, hu186, r187⟩ := bind_some r177; clear r177
                refine Cov.callS (b1 := []) (b2 := [_]) (s1 := []) [_, _] [] .ro rfl rfl Try.call22 rfl rfl (ref04_Same_c (G := G181) List.mem_cons_self (SlR.mono e182 s85) s184 hu186) rfl (fun v189 bo so h188 => ?_)
                obtain ⟨rfl, rfl, rfl⟩ := h188
                refine Cov.same (bl' := [_]) (sl' := [_, _]) rfl rfl rfl ?_
                refine Cov.q .ro (.pick_t rfl rfl) rfl ?_
                refine Cov.prune _ ?_ (Cov.same rfl rfl rfl (hb100 G181 ⟨e182, B183⟩))
                exact ⟨sval r187, rfl, rfl, rfl, rfl, trivial⟩
              · have r190 := ifF h102 c99
                refine Cov.g_off rfl rfl rfl ?_
                refine Cov.g_off rfl rfl rfl ?_
                refine Cov.g_off rfl rfl rfl ?_
                refine Cov.q .ro (.pick_f rfl rfl) rfl ?_
                refine Cov.prune _ ?_ (Cov.same rfl rfl rfl (hb100 G82 ⟨(HpLe.refl _), B84⟩))
                exact ⟨sval r190, rfl, rfl, rfl, rfl, trivial⟩
          · intro hb62
            refine Cov.split 56 rfl (fun c61 => ?_) (fun c61 => ?_)
            · refine Cov.g_on rfl ?_
              refine Cov.q .ro (.move rfl) rfl ?_
              refine Cov.g_on rfl ?_
              refine Cov.q .ro (.eql rfl rfl) rfl ?_
              refine Cov.q .ro (.pick_t rfl rfl) rfl ?_
              refine Cov.prune _ ?_ (Cov.same rfl rfl rfl (hb62 () trivial))
              exact ⟨dand_t c61, rfl, rfl, rfl, rfl, rfl, trivial⟩
            · refine Cov.g_off rfl rfl rfl ?_
              refine Cov.g_off rfl rfl rfl ?_
              refine Cov.q .ro (.pick_f rfl rfl) rfl ?_
              refine Cov.prune _ ?_ (Cov.same rfl rfl rfl (hb62 () trivial))
              exact ⟨dand_f c61, rfl, rfl, rfl, rfl, rfl, trivial⟩
        · intro hb58
          refine Cov.split 51 rfl (fun c57 => ?_) (fun c57 => ?_)
          · refine Cov.g_on rfl ?_
            refine Cov.q .ro (.move rfl) rfl ?_
            refine Cov.g_on rfl ?_
            refine Cov.q .ro (.len_sl rfl rfl sl36) rfl ?_
            refine Cov.g_on rfl ?_
            refine Cov.q .ro (.eql rfl rfl) rfl ?_
            refine Cov.q .ro (.pick_t rfl rfl) rfl ?_
            refine Cov.prune _ ?_ (Cov.same rfl rfl rfl (hb58 () trivial))
            exact ⟨dand_t c57, rfl, rfl, rfl, rfl, rfl, rfl, trivial⟩
          · refine Cov.g_off rfl rfl rfl ?_
            refine Cov.g_off rfl rfl rfl ?_
            refine Cov.g_off rfl rfl rfl ?_
            refine Cov.q .ro (.pick_f rfl rfl) rfl ?_
            refine Cov.prune _ ?_ (Cov.same rfl rfl rfl (hb58 () trivial))
            exact ⟨dand_f c57, rfl, rfl, rfl, rfl, rfl, rfl, trivial⟩
      · intro hb54
        refine Cov.split 47 rfl (fun c53 => ?_) (fun c53 => ?_)
        · refine Cov.g_on rfl ?_
          refine Cov.q .ro (.move rfl) rfl ?_
          refine Cov.g_on rfl ?_
          refine Cov.q .ro (.eql rfl rfl) rfl ?_
          refine Cov.q .ro (.pick_t rfl rfl) rfl ?_
          refine Cov.prune _ ?_ (Cov.same rfl rfl rfl (hb54 () trivial))
          exact ⟨dand_t c53, rfl, rfl, rfl, rfl, rfl, rfl, rfl, trivial⟩
        · refine Cov.g_off rfl rfl rfl ?_
          refine Cov.g_off rfl rfl rfl ?_
          refine Cov.q .ro (.pick_f rfl rfl) rfl ?_
          refine Cov.prune _ ?_ (Cov.same rfl rfl rfl (hb54 () trivial))
          exact ⟨dand_f c53, rfl, rfl, rfl, rfl, rfl, rfl, rfl, trivial⟩
    · intro hb50
      refine Cov.split 43 rfl (fun c49 => ?_) (fun c49 => ?_)
      · refine Cov.g_on rfl ?_
        refine Cov.q .ro (.move rfl) rfl ?_
        refine Cov.g_on rfl ?_
        refine Cov.q .ro (.eql rfl rfl) rfl ?_
        refine Cov.q .ro (.pick_t rfl rfl) rfl ?_
        refine Cov.prune _ ?_ (Cov.same rfl rfl rfl (hb50 () trivial))
        exact ⟨dand_t c49, rfl, rfl, rfl, rfl, rfl, rfl, rfl, rfl, trivial⟩
      · refine Cov.g_off rfl rfl rfl ?_
        refine Cov.g_off rfl rfl rfl ?_
        refine Cov.q .ro (.pick_f rfl rfl) rfl ?_
        refine Cov.prune _ ?_ (Cov.same rfl rfl rfl (hb50 () trivial))
        exact ⟨dand_f c49, rfl, rfl, rfl, rfl, rfl, rfl, rfl, rfl, trivial⟩
  · intro hb46
    refine Cov.split 39 rfl (fun c45 => ?_) (fun c45 => ?_)
    · refine Cov.g_on rfl ?_
      refine Cov.q .ro (.move rfl) rfl ?_
      refine Cov.g_on rfl ?_
      refine Cov.q .ro (.eql rfl rfl) rfl ?_
      refine Cov.q .ro (.pick_t rfl rfl) rfl ?_
      refine Cov.prune _ ?_ (Cov.same rfl rfl rfl (hb46 () trivial))
      exact ⟨dand_t c45, rfl, rfl, rfl, rfl, rfl, rfl, rfl, rfl, rfl, trivial⟩
    · refine Cov.g_off rfl rfl rfl ?_
      refine Cov.g_off rfl rfl rfl ?_
      refine Cov.q .ro (.pick_f rfl rfl) rfl ?_
      refine Cov.prune _ ?_ (Cov.same rfl rfl rfl (hb46 () trivial))
      exact ⟨dand_f c45, rfl, rfl, rfl, rfl, rfl, rfl, rfl, rfl, rfl, trivial⟩

set_option maxHeartbeats 4000000 in
theorem make_Few_c {Fs : List Hp} {G : Hp} {a0 : Option Addr} {k0 : Nat} {x0 : List Int} {r : Bool} (hG : G ∈ Fs) (s0 : SlR (Rep.int .i64) G a0 k0 x0) (h : make_Few x0 = some r) : RetS Try.prog 9 #[.slice a0 x0.length k0] Fs [] [] (fun v bo so => v = .bool r ∧ bo = [] ∧ so = []) := by
  unfold make_Few at h
  try dsimp only at h
  refine RetS.of (vs := [_]) Try.func9 rfl Try.ntmps9 [(0, _)] ⟨rfl, trivial⟩ rfl hG fun w0 S0 hS0 B0 => ?_
  refine Cov.seq ?_
  refine Cov.region rfl ?_
  refine Cov.q .ro (.assign rfl) rfl ?_
  refine Cov.region_end ?_
  refine Cov.seq ?_
  refine Cov.region rfl ?_
  refine Cov.q .ro (.move rfl) rfl ?_
  refine Cov.q .ro (.len_sl rfl rfl sl22) rfl ?_
  refine Cov.q .ro (.leq rfl rfl) rfl ?_
  refine Cov.q .ro (.assign rfl) rfl ?_
  refine Cov.region_end ?_
  cases h
  refine Cov.retS (c := ⟨9, none⟩) (.inr ⟨_, rfl⟩) [.tmp 2] [_] rfl Try.func9 Try.results9 ⟨RV.tmp rfl, trivial⟩ (fun _ h => List.mem_cons_of_mem _ h) ⟨rfl, rfl, rfl⟩

set_option maxHeartbeats 4000000 in
theorem make_New_c {Fs : List Hp} {G : Hp} {a0 : Option Addr} {k0 : Nat} {x0 : List Int} {r : ((List Int) × Int)} (hG : G ∈ Fs) (s0 : SlR (Rep.int .i64) G a0 k0 x0) (h : make_New x0 = some r) : RetS Try.prog 10 #[.slice a0 x0.length k0] Fs [] [] (fun v bo so => ∃ a0 : Option Addr, ∃ k0 : Nat, ∃ b0 : Nat, v = .pointer (some ⟨b0, 0, none⟩) ∧ bo = [(b0, .cells #[.slice a0 r.1.length k0, .int .i64 r.2] 55 (0, 0))] ∧ so = [] ∧ SlR (Rep.int .i64) G a0 k0 r.1) := by
  unfold make_New at h
  try dsimp only at h
  refine RetS.of (vs := [_]) Try.func10 rfl Try.ntmps10 [(0, _)] ⟨rfl, trivial⟩ rfl hG fun w0 S0 hS0 B0 => ?_
  refine Cov.seq ?_
  refine Cov.region rfl ?_
  refine Cov.q .ro (.assign rfl) rfl ?_
  refine Cov.region_end ?_
  refine Cov.seq ?_
  refine Cov.region rfl ?_
  refine Cov.q .ro (.move rfl) rfl ?_
  refine Cov.q .ro (.build [_, _] [(0, _)] ty55 pl55 rfl rfl) rfl ?_
  refine Cov.box [_, _] .ro rfl rfl rfl (fun b1 hb1 => ?_)
  refine Cov.q .ro (.assign rfl) rfl ?_
  refine Cov.region_end ?_
  cases h
  refine Cov.retS (c := ⟨10, none⟩) (.inr ⟨_, rfl⟩) [.tmp 2] [_] rfl Try.func10 Try.results10 ⟨RV.tmp rfl, trivial⟩ (fun _ h => List.mem_cons_of_mem _ h) ⟨a0, k0, _, rfl, rfl, rfl, s0⟩

set_option maxHeartbeats 4000000 in
theorem make_Mod_c {Fs : List Hp} {G : Hp} {x0 : Int} {x1 : Int} {r : Int} (hG : G ∈ Fs)  (h : make_Mod x0 x1 = some r) : RetS Try.prog 23 #[.int .i64 x0, .int .i64 x1] Fs [] [] (fun v bo so => v = .int .i64 r ∧ bo = [] ∧ so = []) := by
  unfold make_Mod at h
  try dsimp only at h
  refine RetS.of (vs := [_, _]) Try.func23 rfl Try.ntmps23 [(0, _), (1, _)] ⟨rfl, rfl, trivial⟩ rfl hG fun w0 S0 hS0 B0 => ?_
  refine Cov.seq ?_
  refine Cov.region rfl ?_
  refine Cov.q .ro (.assign rfl) rfl ?_
  refine Cov.region_end ?_
  refine Cov.seq ?_
  refine Cov.region rfl ?_
  refine Cov.q .ro (.move rfl) rfl ?_
  refine Cov.q .ro (.move rfl) rfl ?_
  obtain ⟨u1, hu1, r2⟩ := bind_some h; clear h
  refine Cov.q .ro (.remt rfl rfl (nz_some hu1)) rfl ?_
  refine Cov.q .ro (.move rfl) rfl ?_
  refine Cov.q .ro (.addw rfl rfl) rfl ?_
  refine Cov.q .ro (.move rfl) rfl ?_
  obtain ⟨u3, hu3, r4⟩ := bind_some r2; clear r2
  refine Cov.q .ro (.remt rfl rfl (nz_some hu3)) rfl ?_
  refine Cov.q .ro (.assign rfl) rfl ?_
  refine Cov.region_end ?_
  cases r4
  refine Cov.retS (c := ⟨23, none⟩) (.inr ⟨_, rfl⟩) [.tmp 4] [_] rfl Try.func23 Try.results23 ⟨RV.tmp rfl, trivial⟩ (fun _ h => List.mem_cons_of_mem _ h) ⟨rfl, rfl, rfl⟩

set_option maxHeartbeats 4000000 in
theorem make_Deck_Next_c {Fs : List Hp} {G : Hp} {p0 : Nat} {a0_0 : Option Addr} {k0_0 : Nat} {x0_0 : List Int} {x0_1 : Int} {x1 : Int} {r : (Int × ((List Int) × Int))} (hG : G ∈ Fs) (s0_0 : SlR (Rep.int .i64) G a0_0 k0_0 x0_0) (h : make_Deck_Next (x0_0, x0_1) x1 = some r) : RetS Try.prog 29 #[.pointer (some ⟨p0, 0, none⟩), .int .i64 x1] Fs [(p0, .cells #[.slice a0_0 x0_0.length k0_0, .int .i64 x0_1] 55 (0, 0))] [] (fun v bo so => ∃ a0 : Option Addr, ∃ k0 : Nat, v = .int .i64 r.1 ∧ bo = [(p0, .cells #[.slice a0 r.2.1.length k0, .int .i64 r.2.2] 55 (0, 0))] ∧ so = [] ∧ SlR (Rep.int .i64) G a0 k0 r.2.1) := by
  unfold make_Deck_Next at h
  try dsimp only at h
  refine RetS.of (vs := [_, _]) Try.func29 rfl Try.ntmps29 [(0, _), (1, _)] ⟨rfl, rfl, trivial⟩ rfl hG fun w0 S0 hS0 B0 => ?_
  refine Cov.seq ?_
  refine Cov.region rfl ?_
  refine Cov.q .ro (.assign rfl) rfl ?_
  refine Cov.region_end ?_
  refine Cov.seq ?_
  refine Cov.seq ?_
  refine Cov.drawL (.q 0 (.q 1 (.q 2 (.q 3 (.q 4 (.q 5 (.q 6 (.q 7 (.q 8 (.q 9 (.q 10 (.q 11 (.q 12 (.q 13 .nil)))))))))))))) [_] (by kernel_rfl) (by kernel_rfl) (pick_mem [0] rfl) ?_
  refine Cov.dq (.move rfl) rfl ?_
  refine Cov.dq (.lss rfl rfl) rfl ?_
  refine Cov.dq (.move rfl) rfl ?_
  refine Cov.cutD 11 (β := Unit) (fun y => [(19, .bool (decide ((x1 < 1) ∨ ((x0_0.length : Int) ≤ x0_1))))]) [(0, _), (1, _)] (fun y => G :: Fs) (fun y => []) [_] (fun y => []) [] (fun y => True) ⟨rfl, rfl, trivial⟩ [0] rfl [] rfl ?_ ?_
  · rintro _ _
    refine Cov.prune [(19, .bool (decide ((x1 < 1) ∨ ((x0_0.length : Int) ≤ x0_1)))), (0, _), (1, _)] ⟨rfl, rfl, rfl, trivial⟩ ?_
    refine Cov.same (bl' := [_]) (sl' := []) (Fs' := G :: Fs) rfl rfl rfl ?_
    refine Cov.draw_end ?_
    refine Cov.cond_dec rfl (fun c5 => ?_) (fun c5 => ?_)
    · have r6 := ifT h c5; clear h
      refine Cov.seq ?_
      refine Cov.region rfl ?_
      refine Cov.q .ro (.assign rfl) rfl ?_
      refine Cov.region_end ?_
      cases r6
      refine Cov.retS (c := ⟨29, none⟩) (.inr ⟨_, rfl⟩) [.tmp 4] [_] rfl Try.func29 Try.results29 ⟨RV.tmp rfl, trivial⟩ (fun _ h => List.mem_cons_of_mem _ h) ⟨a0_0, k0_0, rfl, rfl, rfl, s0_0⟩
    · have r7 := ifF h c5; clear h
      refine Cov.skip ?_
      refine Cov.seq ?_
      refine Cov.drawL (.q 0 (.q 1 (.q 2 (.q 3 (.q 4 (.q 5 (.q 6 (.q 7 (.q 8 (.q 9 (.q 10 .nil))))))))))) [_] (by kernel_rfl) (by kernel_rfl) (pick_mem [0] rfl) ?_
      refine Cov.dq (.move rfl) rfl ?_
      refine Cov.dq (.nilCheck rfl rfl) rfl ?_
      refine Cov.dq (.fieldAddr 0 rfl fl55_0 ty22.sz rfl) rfl ?_
      refine Cov.dq (.load_own 0 rfl rfl ty22 rfl) rfl ?_
      refine Cov.dq (.move rfl) rfl ?_
      refine Cov.dq (.nilCheck rfl rfl) rfl ?_
      refine Cov.dq (.fieldAddr 1 rfl fl55_1 ty3.sz rfl) rfl ?_
      refine Cov.dq (.load_own 0 rfl rfl ty3 rfl) rfl ?_
      obtain ⟨u8, hu8, r9⟩ := bind_some r7; clear r7
      obtain ⟨c10, p11, h12⟩ := SlR.get s0_0 hu8
      obtain rfl := h12
      refine Cov.dq (.idxR s0_0 rfl rfl hu8 sl22 ty3.sz) rfl ?_
      refine Cov.dq (.load_rp p11 List.mem_cons_self rfl ty3 rfl) rfl ?_
      refine Cov.dq (.assign rfl) rfl ?_
      refine Cov.draw_end ?_
      refine Cov.seq ?_
      refine Cov.region rfl ?_
      refine Cov.q .ro (.move rfl) rfl ?_
      refine Cov.q .ro (.nilCheck rfl rfl) rfl ?_
      refine Cov.q .ro (.fieldAddr 1 rfl fl55_1 ty3.sz rfl) rfl ?_
      refine Cov.q .ro (.load_own 0 rfl rfl ty3 rfl) rfl ?_
      refine Cov.q .ro (.addw rfl rfl) rfl ?_
      refine Cov.q .ro (.nilCheck rfl rfl) rfl ?_
      refine Cov.q .ro (.fieldAddr 1 rfl fl55_1 ty3.sz rfl) rfl ?_
      refine Cov.store 0 [_, _] [_] .ro rfl rfl rfl ty3 rfl rfl rfl rfl ?_
      refine Cov.region_end ?_
      refine Cov.prune [(1, _), (5, _)] ⟨rfl, rfl, trivial⟩ ?_
      refine Cov.seq ?_
      refine Cov.region rfl ?_
      refine Cov.q .ro (.move rfl) rfl ?_
      refine Cov.q .ro (.move rfl) rfl ?_
      obtain ⟨u13, hu13, r14⟩ := bind_some r9; clear r9
      refine Cov.callS (b1 := []) (b2 := [_]) (s1 := []) [_, _] [] .ro rfl rfl Try.call23 rfl rfl (make_Mod_c (G := G) List.mem_cons_self  hu13) rfl (fun v16 bo so h15 => ?_)
      obtain ⟨rfl, rfl, rfl⟩ := h15
      refine Cov.same (bl' := [_]) (sl' := []) rfl rfl rfl ?_
      refine Cov.q .ro (.assign rfl) rfl ?_
      refine Cov.region_end ?_
      cases r14
      refine Cov.retS (c := ⟨29, none⟩) (.inr ⟨_, rfl⟩) [.tmp 4] [_] rfl Try.func29 Try.results29 ⟨RV.tmp rfl, trivial⟩ (fun _ h => List.mem_cons_of_mem _ h) ⟨a0_0, k0_0, rfl, rfl, rfl, s0_0⟩
  · intro hb2
    refine Cov.split 8 rfl (fun c1 => ?_) (fun c1 => ?_)
    · refine Cov.dgq_off rfl rfl rfl ?_
      refine Cov.dgq_off rfl rfl rfl ?_
      refine Cov.dgq_off rfl rfl rfl ?_
      refine Cov.dgq_off rfl rfl rfl ?_
      refine Cov.dgq_off rfl rfl rfl ?_
      refine Cov.dgq_off rfl rfl rfl ?_
      refine Cov.dgq_off rfl rfl rfl ?_
      refine Cov.dgq_off rfl rfl rfl ?_
      refine Cov.dgq_off rfl rfl rfl ?_
      refine Cov.dgq_off rfl rfl rfl ?_
      refine Cov.dq (.pick_t rfl rfl) rfl ?_
      refine Cov.prune _ ?_ (Cov.same rfl rfl rfl (hb2 () trivial))
      exact ⟨dor_t c1, rfl, rfl, trivial⟩
    · refine Cov.dgq_on rfl ?_
      refine Cov.dq (.move rfl) rfl ?_
      refine Cov.dgq_on rfl ?_
      refine Cov.dq (.nilCheck rfl rfl) rfl ?_
      refine Cov.dgq_on rfl ?_
      refine Cov.dq (.fieldAddr 1 rfl fl55_1 ty3.sz rfl) rfl ?_
      refine Cov.dgq_on rfl ?_
      refine Cov.dq (.load_own 0 rfl rfl ty3 rfl) rfl ?_
      refine Cov.dgq_on rfl ?_
      refine Cov.dq (.move rfl) rfl ?_
      refine Cov.dgq_on rfl ?_
      refine Cov.dq (.nilCheck rfl rfl) rfl ?_
      refine Cov.dgq_on rfl ?_
      refine Cov.dq (.fieldAddr 0 rfl fl55_0 ty22.sz rfl) rfl ?_
      refine Cov.dgq_on rfl ?_
      refine Cov.dq (.load_own 0 rfl rfl ty22 rfl) rfl ?_
      refine Cov.dgq_on rfl ?_
      refine Cov.dq (.len_sl rfl rfl sl22) rfl ?_
      refine Cov.dgq_on rfl ?_
      refine Cov.dq (.geq rfl rfl) rfl ?_
      refine Cov.dq (.pick_f rfl rfl) rfl ?_
      refine Cov.prune _ ?_ (Cov.same rfl rfl rfl (hb2 () trivial))
      exact ⟨dor_f c1, rfl, rfl, trivial⟩

set_option maxHeartbeats 4000000 in
theorem make_Word_c {Fs : List Hp} {G : Hp} {p0 : Nat} {a0_0 : Option Addr} {k0_0 : Nat} {x0_0 : List Int} {x0_1 : Int} {r : (ByteArray × ((List Int) × Int))} (hG : G ∈ Fs) (s0_0 : SlR (Rep.int .i64) G a0_0 k0_0 x0_0) (h : make_Word (x0_0, x0_1) = some r) : RetW Try.prog 12 #[.pointer (some ⟨p0, 0, none⟩)] Fs [(p0, .cells #[.slice a0_0 x0_0.length k0_0, .int .i64 x0_1] 55 (0, 0))] [] (fun v bo so G => ∃ a0 : Option Addr, ∃ k0 : Nat, v = .string r.1 ∧ bo = [(p0, .cells #[.slice a0 r.2.1.length k0, .int .i64 r.2.2] 55 (0, 0))] ∧ so = [] ∧ SlR (Rep.int .i64) G a0 k0 r.2.1) := by
  unfold make_Word at h
  try dsimp only at h
  refine RetW.of (vs := [_]) Try.func12 rfl Try.ntmps12 [(0, _)] ⟨rfl, trivial⟩ rfl hG fun w0 S0 hS0 B0 => ?_
  refine Cov.seq ?_
  refine Cov.region rfl ?_
  refine Cov.q .ro (.assign rfl) rfl ?_
  refine Cov.region_end ?_
  refine Cov.seq ?_
  refine Cov.region rfl ?_
  refine Cov.q .ro (.assign rfl) rfl ?_
  refine Cov.region_end ?_
  refine Cov.seq ?_
  refine Cov.seq ?_
  refine Cov.region rfl ?_
  refine Cov.q .ro (.move rfl) rfl ?_
  obtain ⟨u1, hu1, r2⟩ := bind_some h; clear h
  refine Cov.callS (b1 := [_]) (b2 := []) (s1 := []) [_, _] [] .ro rfl rfl Try.call29 rfl rfl (make_Deck_Next_c (G := G) List.mem_cons_self s0_0 hu1) rfl (fun v4 bo so h3 => ?_)
  obtain ⟨a5, k6, rfl, rfl, rfl, s7⟩ := h3
  refine Cov.same (bl' := [_]) (sl' := []) rfl rfl rfl ?_
  refine Cov.q .ro (.assign rfl) rfl ?_
  refine Cov.region_end ?_
  refine Cov.cutB (β := List Int × Option Addr × Nat × List Value × List Int × Option Addr × Nat × Int) (fun y => [(3, .slice y.2.1 y.1.length y.2.2.1)]) [] (fun y => G :: Fs) (fun y => [(p0, .cells #[.slice y.2.2.2.2.2.1 y.2.2.2.2.1.length y.2.2.2.2.2.2.1, .int .i64 y.2.2.2.2.2.2.2] 55 (0, 0))]) [] (fun y => [.s (.slice y.2.1 y.1.length y.2.2.1) 5 1 y.1.length y.2.2.2.1]) [] (fun y => OL (Rep.int .u8) G y.2.2.2.1 y.1 ∧ SlR (Rep.int .i64) G y.2.2.2.2.2.1 y.2.2.2.2.2.2.1 y.2.2.2.2.1 ∧ make_Word_J1 y.1 y.2.2.2.2.1 y.2.2.2.2.2.2.2 = some r) trivial [] rfl [] rfl ?_ ?_
  · intro y hI
    obtain ⟨v97, a98, k99, cs100, v103, a104, k105, v107⟩ := y
    obtain ⟨o101, s106, r109⟩ := hI
    try dsimp only at o101 s106 r109
    refine Cov.prune [(3, .slice a98 v97.length k99)] ⟨rfl, trivial⟩ ?_
    refine Cov.same (bl' := [(p0, .cells #[.slice a104 v103.length k105, .int .i64 v107] 55 (0, 0))]) (sl' := [.s (.slice a98 v97.length k99) 5 1 v97.length cs100]) (Fs' := G :: Fs) rfl rfl rfl ?_
    unfold make_Word_J1 at r109
    try dsimp only at r109
    refine Cov.seq ?_
    refine Cov.region rfl ?_
    refine Cov.q .ro (.move rfl) rfl ?_
    refine Cov.freezeR 0 rfl rfl o101 [] rfl B0 (fun G110 e111 B112 s113 => ?_)
    refine Cov.q .ro (.b2s s113 List.mem_cons_self rfl Try.underlying57 Try.underlying5 Try.underlying9) rfl ?_
    refine Cov.q .ro (.assign rfl) rfl ?_
    refine Cov.region_end ?_
    cases r109
    refine Cov.retW (c := ⟨12, none⟩) (.inr ⟨_, rfl⟩) [.tmp 2] [_] rfl Try.func12 Try.results12 ⟨RV.tmp rfl, trivial⟩ (fun _ h => List.mem_cons_of_mem _ h) List.mem_cons_self B112 (by subst hS0; simp [blks]) (fun G' hg => ⟨a104, k105, rfl, rfl, rfl, (SlR.mono hg (SlR.mono e111 s106))⟩)
  · intro hb115
    refine Cov.block ?_
    refine Cov.own_nil 5 1 ?_
    refine Cov.loop2 (α := Nat × List Int × Option Addr × Nat × List Value × Int × List Int × Option Addr × Nat × Int) (fun y => [(3, .slice y.2.2.1 y.2.1.length y.2.2.2.1), (4, .int .i64 y.2.2.2.2.2.1)]) [(0, _)] (fun y => []) (fun y => [(p0, .cells #[.slice y.2.2.2.2.2.2.2.1 y.2.2.2.2.2.2.1.length y.2.2.2.2.2.2.2.2.1, .int .i64 y.2.2.2.2.2.2.2.2.2] 55 (0, 0))]) [] (fun y => [.s (.slice y.2.2.1 y.2.1.length y.2.2.2.1) 5 1 y.2.1.length y.2.2.2.2.1]) [] (fun y => OL (Rep.int .u8) G y.2.2.2.2.1 y.2.1 ∧ SlR (Rep.int .i64) G y.2.2.2.2.2.2.2.1 y.2.2.2.2.2.2.2.2.1 y.2.2.2.2.2.2.1 ∧ make_Word_L2 make_Word_J1 y.1 y.2.1 y.2.2.2.2.2.1 y.2.2.2.2.2.2.1 y.2.2.2.2.2.2.2.2.2 = some r) (fun y => y.1) (big, ([] : List Int), none, 0, [], u1.1, u1.2.1, a5, k6, u1.2.2) ⟨(OL.nil (Rp' := (Rep.int .u8))), s7, r2⟩ ⟨rfl, rfl, rfl, trivial⟩ rfl rfl rfl (fun y hI hb183 => ?_)
    obtain ⟨n168, v170, a171, k172, cs173, v176, v177, a178, k179, v181⟩ := y
    obtain ⟨o174, s180, r182⟩ := hI
    try dsimp only at o174 s180 r182
    refine Cov.prune [(3, .slice a171 v170.length k172), (4, .int .i64 v176), (0, _)] ⟨rfl, rfl, rfl, trivial⟩ ?_
    refine Cov.same (bl' := [(p0, .cells #[.slice a178 v177.length k179, .int .i64 v181] 55 (0, 0))]) (sl' := [.s (.slice a171 v170.length k172) 5 1 v170.length cs173]) (Fs' := G :: Fs) rfl rfl rfl ?_
    obtain ⟨m185, rfl⟩ : ∃ m, n168 = m + 1 := by cases n168 with | zero => exact absurd (show (none : Option _) = some _ from r182) (by simp) | succ m => exact ⟨m, rfl⟩
    have r184 : make_Word_B2 make_Word_J1 (make_Word_L2 make_Word_J1 m185) v170 v176 v177 v181 = some r := r182; clear r182; unfold make_Word_B2 at r184; try dsimp only at r184
    refine Cov.seq ?_
    refine Cov.seq ?_
    refine Cov.region rfl ?_
    refine Cov.q .ro (.move rfl) rfl ?_
    refine Cov.q .ro (.geq rfl rfl) rfl ?_
    refine Cov.region_end ?_
    refine Cov.cond_dec rfl (fun c186 => ?_) (fun c186 => ?_)
    · have r187 := ifT r184 c186; clear r184
      refine Cov.skip ?_
      refine Cov.seq ?_
      refine Cov.block ?_
      refine Cov.region rfl ?_
      refine Cov.q .ro (.move rfl) rfl ?_
      refine Cov.q .ro (.move rfl) rfl ?_
      obtain ⟨u188, hu188, r189⟩ := bind_some r187; clear r187
      refine Cov.callS (b1 := [_]) (b2 := []) (s1 := []) [_, _] [] .ro rfl rfl Try.call29 rfl rfl (make_Deck_Next_c (G := G) List.mem_cons_self s180 hu188) rfl (fun v191 bo so h190 => ?_)
      obtain ⟨a192, k193, rfl, rfl, rfl, s194⟩ := h190
      refine Cov.same (bl' := [_]) (sl' := [_]) rfl rfl rfl ?_
      refine Cov.q .ro (.addw rfl rfl) rfl ?_
      refine Cov.q .ro (.convw Try.underlying3 Try.underlying5 rfl) rfl ?_
      refine Cov.lit [_] [(0, _)] .ro sl57 ty5 rfl rfl rfl rfl rfl rfl (fun b195 hb195 => ?_)
      have o196 : OL (Rep.int .u8) G [.int .u8 (wu8 (w64 (97 + u188.1)))] ([(wu8 (w64 (97 + u188.1)))] : List Int) := ((OL.cons rfl (Rep.intI .u8 (wu8 (w64 (97 + u188.1)))) (OL.nil (Rp' := (Rep.int .u8)))) :)
      refine Cov.reval 16 (n' := ([(wu8 (w64 (97 + u188.1)))] : List Int).length) rfl rfl ?_
      obtain ⟨u202, hu202, r203⟩ := bind_some r189; clear r189
      refine Cov.appO (Q := (Rep.int .u8)) 0 .ro sl57 ty5 rfl rfl rfl rfl rfl rfl o174 o196 rfl rfl rfl B0 hu202 rfl (fun a198 k199 cs200 o201 => ?_)
      refine Cov.q .ro (.assign rfl) rfl ?_
      refine Cov.region_end ?_
      refine Cov.inBlock ?_
      refine Cov.region rfl ?_
      refine Cov.q .ro (.move rfl) rfl ?_
      refine Cov.q .ro (.subw rfl rfl) rfl ?_
      refine Cov.q .ro (.assign rfl) rfl ?_
      refine Cov.region_end ?_
      refine Cov.prune _ ?_ (Cov.same rfl rfl rfl (hb183 (m185, u202, a198, k199, cs200, (w64 (v176 - 1)), u188.2.1, a192, k193, u188.2.2) ⟨o201, s194, r203⟩ (Nat.lt_succ_self _)))
      exact ⟨rfl, rfl, rfl, trivial⟩
    · have r205 := ifF r184 c186; clear r184
      refine Cov.exit rfl ?_
      refine Cov.prune _ ?_ (Cov.same rfl rfl rfl (hb115 (v170, a171, k172, cs173, v177, a178, k179, v181) ⟨o174, s180, r205⟩))
      exact ⟨rfl, trivial⟩

set_option maxHeartbeats 4000000 in
theorem make_Words_c {Fs : List Hp} {G : Hp} {p0 : Nat} {a0_0 : Option Addr} {k0_0 : Nat} {x0_0 : List Int} {x0_1 : Int} {x1 : Int} {r : ((List ByteArray) × ((List Int) × Int))} (hG : G ∈ Fs) (s0_0 : SlR (Rep.int .i64) G a0_0 k0_0 x0_0) (h : make_Words (x0_0, x0_1) x1 = some r) : RetW Try.prog 28 #[.pointer (some ⟨p0, 0, none⟩), .int .i64 x1] Fs [(p0, .cells #[.slice a0_0 x0_0.length k0_0, .int .i64 x0_1] 55 (0, 0))] [] (fun v bo so G => ∃ a0 : Option Addr, ∃ k0 : Nat, ∃ (oa0 : Option Addr) (ok0 : Nat) (oc0 : List Value), v = .slice oa0 r.1.length ok0 ∧ bo = [(p0, .cells #[.slice a0 r.2.1.length k0, .int .i64 r.2.2] 55 (0, 0))] ∧ so = [.s (.slice oa0 r.1.length ok0) 9 1 r.1.length oc0] ∧ SlR (Rep.int .i64) G a0 k0 r.2.1 ∧ OL Rep.str G oc0 r.1) := by
  unfold make_Words at h
  try dsimp only at h
  refine RetW.of (vs := [_, _]) Try.func28 rfl Try.ntmps28 [(0, _), (1, _)] ⟨rfl, rfl, trivial⟩ rfl hG fun w0 S0 hS0 B0 => ?_
  refine Cov.seq ?_
  refine Cov.region rfl ?_
  refine Cov.q .ro (.assign rfl) rfl ?_
  refine Cov.region_end ?_
  refine Cov.seq ?_
  refine Cov.region rfl ?_
  refine Cov.q .ro (.assign rfl) rfl ?_
  refine Cov.region_end ?_
  refine Cov.seq ?_
  refine Cov.seq ?_
  refine Cov.region rfl ?_
  refine Cov.q .ro (.move rfl) rfl ?_
  refine Cov.q .ro (.move rfl) rfl ?_
  refine Cov.q .ro (.addw rfl rfl) rfl ?_
  obtain ⟨u1, hu1, r2⟩ := bind_some h; clear h
  refine Cov.callS (b1 := [_]) (b2 := []) (s1 := []) [_, _] [] .ro rfl rfl Try.call29 rfl rfl (make_Deck_Next_c (G := G) List.mem_cons_self s0_0 hu1) rfl (fun v4 bo so h3 => ?_)
  obtain ⟨a5, k6, rfl, rfl, rfl, s7⟩ := h3
  refine Cov.same (bl' := [_]) (sl' := []) rfl rfl rfl ?_
  refine Cov.q .ro (.assign rfl) rfl ?_
  refine Cov.region_end ?_
  refine Cov.block ?_
  refine Cov.own_nil 9 1 ?_
  refine Cov.loop2 (α := Nat × Hp × List ByteArray × Option Addr × Nat × List Value × Int × List Int × Option Addr × Nat × Int) (fun y => [(5, .slice y.2.2.2.1 y.2.2.1.length y.2.2.2.2.1), (6, .int .i64 y.2.2.2.2.2.2.1)]) [(0, _)] (fun y => [y.2.1]) (fun y => [(p0, .cells #[.slice y.2.2.2.2.2.2.2.2.1 y.2.2.2.2.2.2.2.1.length y.2.2.2.2.2.2.2.2.2.1, .int .i64 y.2.2.2.2.2.2.2.2.2.2] 55 (0, 0))]) [] (fun y => [.s (.slice y.2.2.2.1 y.2.2.1.length y.2.2.2.2.1) 9 1 y.2.2.1.length y.2.2.2.2.2.1]) [] (fun y => HpLe G y.2.1 ∧ Bd w0 S0 Fs y.2.1 ∧ OL Rep.str y.2.1 y.2.2.2.2.2.1 y.2.2.1 ∧ SlR (Rep.int .i64) y.2.1 y.2.2.2.2.2.2.2.2.1 y.2.2.2.2.2.2.2.2.2.1 y.2.2.2.2.2.2.2.1 ∧ make_Words_L3 y.1 y.2.2.1 y.2.2.2.2.2.2.1 y.2.2.2.2.2.2.2.1 y.2.2.2.2.2.2.2.2.2.2 = some r) (fun y => y.1) (big, G, ([] : List ByteArray), none, 0, [], u1.1, u1.2.1, a5, k6, u1.2.2) ⟨(HpLe.refl _), B0, (OL.nil (Rp' := Rep.str)), s7, r2⟩ ⟨rfl, rfl, rfl, trivial⟩ rfl rfl rfl (fun y hI hb268 => ?_)
  obtain ⟨n249, G251, v255, a256, k257, cs258, v261, v262, a263, k264, v266⟩ := y
  obtain ⟨e252, B253, o259, s265, r267⟩ := hI
  try dsimp only at e252 B253 o259 s265 r267
  refine Cov.prune [(5, .slice a256 v255.length k257), (6, .int .i64 v261), (0, _)] ⟨rfl, rfl, rfl, trivial⟩ ?_
  refine Cov.same (bl' := [(p0, .cells #[.slice a263 v262.length k264, .int .i64 v266] 55 (0, 0))]) (sl' := [.s (.slice a256 v255.length k257) 9 1 v255.length cs258]) (Fs' := G251 :: Fs) rfl rfl rfl ?_
  obtain ⟨m270, rfl⟩ : ∃ m, n249 = m + 1 := by cases n249 with | zero => exact absurd (show (none : Option _) = some _ from r267) (by simp) | succ m => exact ⟨m, rfl⟩
  have r269 : make_Words_B3 (make_Words_L3 m270) v255 v261 v262 v266 = some r := r267; clear r267; unfold make_Words_B3 at r269; try dsimp only at r269
  refine Cov.seq ?_
  refine Cov.seq ?_
  refine Cov.region rfl ?_
  refine Cov.q .ro (.move rfl) rfl ?_
  refine Cov.q .ro (.gtr rfl rfl) rfl ?_
  refine Cov.region_end ?_
  refine Cov.cond_dec rfl (fun c271 => ?_) (fun c271 => ?_)
  · have r272 := ifT r269 c271; clear r269
    refine Cov.skip ?_
    refine Cov.seq ?_
    refine Cov.block ?_
    refine Cov.seq ?_
    refine Cov.region rfl ?_
    refine Cov.q .ro (.move rfl) rfl ?_
    obtain ⟨u273, hu273, r274⟩ := bind_some r272; clear r272
    refine Cov.callW (b1 := [_]) (b2 := []) (s1 := []) [_] [] .ro rfl rfl Try.call12 rfl rfl (make_Word_c (G := G251) List.mem_cons_self s265 hu273) rfl B253 (fun v276 bo so G277 e278 B279 h275 => ?_)
    obtain ⟨a281, k282, rfl, rfl, rfl, s283⟩ := h275
    refine Cov.same (bl' := [_]) (sl' := [_]) rfl rfl rfl ?_
    refine Cov.q .ro (.assign rfl) rfl ?_
    refine Cov.region_end ?_
    refine Cov.seq ?_
    refine Cov.region rfl ?_
    refine Cov.q .ro (.assign rfl) rfl ?_
    refine Cov.region_end ?_
    refine Cov.seq ?_
    refine Cov.seq ?_
    refine Cov.region rfl ?_
    refine Cov.q .ro (.move rfl) rfl ?_
    refine Cov.q .ro (.len_sl rfl rfl sl27) rfl ?_
    refine Cov.q .ro (.move rfl) rfl ?_
    refine Cov.region_end ?_
    refine Cov.cutB (β := Bool × Int) (fun y => [(8, .bool y.1)]) [(5, _), (6, _), (0, _), (7, _)] (fun y => G277 :: Fs) (fun y => [(p0, .cells #[.slice a281 u273.2.1.length k282, .int .i64 y.2] 55 (0, 0))]) [] (fun y => []) [_] (fun y => (make_Words_J1 (make_Words_L3 m270) v261 u273.1 u273.2.1 v255) y.1 y.2 = some r) ⟨rfl, rfl, rfl, rfl, trivial⟩ [] rfl [0] rfl ?_ ?_
    · intro y hI
      obtain ⟨v323, v324⟩ := y
      have r326 := hI; clear hI
      try dsimp only at r326
      refine Cov.prune [(8, .bool v323), (5, _), (6, _), (0, _), (7, _)] ⟨rfl, rfl, rfl, rfl, rfl, trivial⟩ ?_
      refine Cov.same (bl' := [(p0, .cells #[.slice a281 u273.2.1.length k282, .int .i64 v324] 55 (0, 0))]) (sl' := [_]) (Fs' := G277 :: Fs) rfl rfl rfl ?_
      unfold make_Words_J1 at r326
      try dsimp only at r326
      refine Cov.seq ?_
      refine Cov.region rfl ?_
      refine Cov.q .ro (.move rfl) rfl ?_
      refine Cov.q .ro (.not rfl) rfl ?_
      refine Cov.region_end ?_
      refine Cov.cond rfl (fun c331 => ?_) (fun c331 => ?_)
      · have r332 := ifT r326 c331; clear r326
        refine Cov.region rfl ?_
        refine Cov.q .ro (.move rfl) rfl ?_
        refine Cov.q .ro (.move rfl) rfl ?_
        refine Cov.lit [_] [(0, _)] .ro sl27 ty9 rfl rfl rfl rfl rfl rfl (fun b333 hb333 => ?_)
        have o334 : OL Rep.str G277 [.string u273.1] ([u273.1] : List ByteArray) := ((OL.cons rfl (Rep.strI u273.1) (OL.nil (Rp' := Rep.str))) :)
        refine Cov.reval 38 (n' := ([u273.1] : List ByteArray).length) rfl rfl ?_
        obtain ⟨u340, hu340, r341⟩ := bind_some r332; clear r332
        refine Cov.appO (Q := Rep.str) 0 .ro sl27 ty9 rfl rfl rfl rfl rfl rfl (OL.mono e278 o259) o334 rfl rfl rfl B279 hu340 rfl (fun a336 k337 cs338 o339 => ?_)
        refine Cov.q .ro (.assign rfl) rfl ?_
        refine Cov.region_end ?_
        refine Cov.inBlock ?_
        refine Cov.region rfl ?_
        refine Cov.q .ro (.move rfl) rfl ?_
        refine Cov.q .ro (.subw rfl rfl) rfl ?_
        refine Cov.q .ro (.assign rfl) rfl ?_
        refine Cov.region_end ?_
        refine Cov.prune _ ?_ (Cov.same rfl rfl rfl (hb268 (m270, G277, u340, a336, k337, cs338, (w64 (v261 - 1)), u273.2.1, a281, k282, v324) ⟨(HpLe.trans e252 e278), B279, o339, s283, r341⟩ (Nat.lt_succ_self _)))
        exact ⟨rfl, rfl, rfl, trivial⟩
      · have r343 := ifBF r326 c331; clear r326
        refine Cov.skip ?_
        refine Cov.inBlock ?_
        refine Cov.region rfl ?_
        refine Cov.q .ro (.move rfl) rfl ?_
        refine Cov.q .ro (.subw rfl rfl) rfl ?_
        refine Cov.q .ro (.assign rfl) rfl ?_
        refine Cov.region_end ?_
        refine Cov.prune _ ?_ (Cov.same rfl rfl rfl (hb268 (m270, G277, v255, a256, k257, cs258, (w64 (v261 - 1)), u273.2.1, a281, k282, v324) ⟨(HpLe.trans e252 e278), B279, (OL.mono e278 o259), s283, r343⟩ (Nat.lt_succ_self _)))
        exact ⟨rfl, rfl, rfl, trivial⟩
    · intro hb344
      refine Cov.block ?_
      refine Cov.loop2 (α := Nat × List ByteArray × Bool) (fun y => [(8, .bool y.2.2), (23, .int .i64 (y.1 : Int))]) [(5, _), (6, _), (0, _), (7, _), (21, _), (22, _)] (fun y => []) (fun y => []) [_] (fun y => []) [_] (fun y => List.drop y.1 v255 = y.2.1 ∧ make_Words_L2 (make_Words_J1 (make_Words_L3 m270) v261 u273.1 u273.2.1 v255) u273.1 u273.2.2 y.2.1 y.2.2 = some r) (fun y => y.2.1.length) (0, v255, false) ⟨rfl, r274⟩ ⟨rfl, rfl, rfl, rfl, rfl, rfl, rfl, rfl, trivial⟩ rfl rfl rfl (fun y hI hb367 => ?_)
      obtain ⟨i362, w363, v365⟩ := y
      obtain ⟨g364, r366⟩ := hI
      try dsimp only at g364 r366
      refine Cov.prune [(8, .bool v365), (23, .int .i64 (i362 : Int)), (5, _), (6, _), (0, _), (7, _), (21, _), (22, _)] ⟨rfl, rfl, rfl, rfl, rfl, rfl, rfl, rfl, trivial⟩ ?_
      refine Cov.same (bl' := [_]) (sl' := [_]) (Fs' := G277 :: Fs) rfl rfl rfl ?_
      cases w363 with
      | nil =>
        rw [make_Words_L2] at r366; try dsimp only at r366
        refine Cov.seq ?_
        refine Cov.region rfl ?_
        refine Cov.q .ro (.lss rfl rfl) rfl ?_
        refine Cov.region_end ?_
        refine Cov.seq ?_
        refine Cov.cond_dec rfl (fun c => absurd c (drop_nil g364)) (fun _ => ?_)
        refine Cov.exit rfl ?_
        refine Cov.prune _ ?_ (Cov.same rfl rfl rfl (hb344 (v365, u273.2.2) r366))
        exact ⟨rfl, rfl, rfl, rfl, rfl, trivial⟩
      | cons x375 xs376 =>
        have r374 : make_Words_B2 (make_Words_J1 (make_Words_L3 m270) v261 u273.1 u273.2.1 v255) u273.1 u273.2.2 (make_Words_L2 (make_Words_J1 (make_Words_L3 m270) v261 u273.1 u273.2.1 v255) u273.1 u273.2.2 xs376) x375 v365 = some r := r366; clear r366; unfold make_Words_B2 at r374; try dsimp only at r374
        refine Cov.seq ?_
        refine Cov.region rfl ?_
        refine Cov.q .ro (.lss rfl rfl) rfl ?_
        refine Cov.region_end ?_
        refine Cov.seq ?_
        refine Cov.cond_dec rfl (fun _ => ?_) (fun c => absurd (drop_lt g364) c)
        refine Cov.skip ?_
        refine Cov.seq ?_
        refine Cov.block ?_
        refine Cov.seq ?_
        refine Cov.region rfl ?_
        obtain ⟨c377, p378, h379⟩ := OL.get (OL.mono e278 o259) (drop_idx g364)
        obtain rfl := h379
        refine Cov.q .ro (.idxO 0 rfl rfl rfl (drop_idx g364) sl27 ty9.sz) rfl ?_
        refine Cov.q .ro (.loadO 0 0 rfl (drop_idx g364) p378 rfl (.inl ⟨rfl, rfl⟩) ty9 rfl) rfl ?_
        refine Cov.q .ro (.assign rfl) rfl ?_
        refine Cov.region_end ?_
        refine Cov.region rfl ?_
        refine Cov.q .ro (.move rfl) rfl ?_
        refine Cov.q .ro (.move rfl) rfl ?_
        refine Cov.cutR 4 (β := Unit) (fun y => [(32, .bool (decide ((v365 = true) ∨ (x375 = u273.1))))]) [(8, _), (23, _), (5, _), (6, _), (0, _), (7, _), (21, _), (22, _)] (fun y => G277 :: Fs) (fun y => []) [_] (fun y => []) [_] (fun y => True) ⟨rfl, rfl, rfl, rfl, rfl, rfl, rfl, rfl, trivial⟩ [0] rfl [0] rfl ?_ ?_
        · rintro _ _
          refine Cov.prune [(32, .bool (decide ((v365 = true) ∨ (x375 = u273.1)))), (8, _), (23, _), (5, _), (6, _), (0, _), (7, _), (21, _), (22, _)] ⟨rfl, rfl, rfl, rfl, rfl, rfl, rfl, rfl, rfl, trivial⟩ ?_
          refine Cov.same (bl' := [_]) (sl' := [_]) (Fs' := G277 :: Fs) rfl rfl rfl ?_
          refine Cov.q .ro (.assign rfl) rfl ?_
          refine Cov.region_end ?_
          refine Cov.inBlock ?_
          refine Cov.region rfl ?_
          refine Cov.q .ro (.addw rfl rfl) rfl ?_
          refine Cov.q .ro (.move rfl) rfl ?_
          refine Cov.region_end ?_
          refine Cov.prune _ ?_ (Cov.same rfl rfl rfl (hb367 ((i362 + 1), xs376, (decide ((v365 = true) ∨ (x375 = u273.1)))) ⟨(drop_succ g364), r374⟩ (Nat.lt_succ_self _)))
          exact ⟨rfl, (congrArg (fun z => some (Value.int .i64 z)) (idx_wrap (OL.len' o259) g364)), rfl, rfl, rfl, rfl, rfl, rfl, trivial⟩
        · intro hb381
          refine Cov.split_b 28 rfl (fun c380 => ?_) (fun c380 => ?_)
          · refine Cov.g_off rfl rfl rfl ?_
            refine Cov.g_off rfl rfl rfl ?_
            refine Cov.g_off rfl rfl rfl ?_
            refine Cov.q .ro (.pick_t rfl rfl) rfl ?_
            refine Cov.prune _ ?_ (Cov.same rfl rfl rfl (hb381 () trivial))
            exact ⟨dor_t c380, rfl, rfl, rfl, rfl, rfl, rfl, rfl, rfl, trivial⟩
          · refine Cov.g_on rfl ?_
            refine Cov.q .ro (.move rfl) rfl ?_
            refine Cov.g_on rfl ?_
            refine Cov.q .ro (.move rfl) rfl ?_
            refine Cov.g_on rfl ?_
            refine Cov.q .ro (.eql_s rfl rfl) rfl ?_
            refine Cov.q .ro (.pick_f rfl rfl) rfl ?_
            refine Cov.prune _ ?_ (Cov.same rfl rfl rfl (hb381 () trivial))
            exact ⟨dor_f (bne_of c380), rfl, rfl, rfl, rfl, rfl, rfl, rfl, rfl, trivial⟩
  · have r384 := ifF r269 c271; clear r269
    refine Cov.exit rfl ?_
    refine Cov.seq ?_
    refine Cov.region rfl ?_
    refine Cov.q .ro (.move rfl) rfl ?_
    refine Cov.q .ro (.assign rfl) rfl ?_
    refine Cov.region_end ?_
    cases r384
    refine Cov.retW (c := ⟨28, none⟩) (.inr ⟨_, rfl⟩) [.tmp 4] [_] rfl Try.func28 Try.results28 ⟨RV.tmp rfl, trivial⟩ (fun _ h => List.mem_cons_of_mem _ h) List.mem_cons_self B253 (by subst hS0; simp [blks]) (fun G' hg => ⟨a263, k264, a256, k257, cs258, rfl, rfl, rfl, (SlR.mono hg s265), (OL.mono hg o259)⟩)

set_option maxHeartbeats 4000000 in
theorem make_Fence_c {Fs : List Hp} {G : Hp} {p0 : Nat} {a0_0 : Option Addr} {k0_0 : Nat} {x0_0 : List Int} {x0_1 : Int} {r : ((Int × (List ByteArray)) × ((List Int) × Int))} (hG : G ∈ Fs) (s0_0 : SlR (Rep.int .i64) G a0_0 k0_0 x0_0) (h : make_Fence (x0_0, x0_1) = some r) : RetW Try.prog 11 #[.pointer (some ⟨p0, 0, none⟩)] Fs [(p0, .cells #[.slice a0_0 x0_0.length k0_0, .int .i64 x0_1] 55 (0, 0))] [] (fun v bo so G => ∃ a0 : Option Addr, ∃ k0 : Nat, ∃ a1 : Option Addr, ∃ k1 : Nat, v = .agg #[.int .i64 r.1.1, .slice a0 r.1.2.length k0] ∧ bo = [(p0, .cells #[.slice a1 r.2.1.length k1, .int .i64 r.2.2] 55 (0, 0))] ∧ so = [] ∧ SlR Rep.str G a0 k0 r.1.2 ∧ SlR (Rep.int .i64) G a1 k1 r.2.1) := by
  unfold make_Fence at h
  try dsimp only at h
  refine RetW.of (vs := [_]) Try.func11 rfl Try.ntmps11 [(0, _)] ⟨rfl, trivial⟩ rfl hG fun w0 S0 hS0 B0 => ?_
  refine Cov.seq ?_
  refine Cov.region rfl ?_
  refine Cov.alloc .ro ty29 rfl (fun b1 hb1 => ?_)
  refine Cov.region_end ?_
  refine Cov.seq ?_
  refine Cov.region rfl ?_
  refine Cov.q .ro (.move rfl) rfl ?_
  obtain ⟨u2, hu2, r3⟩ := bind_some h; clear h
  refine Cov.pull 1 rfl [_, _] rfl ?_
  refine Cov.callW (b1 := [_]) (b2 := [_]) (s1 := []) [_, _] [] .ro rfl rfl Try.call28 rfl rfl (make_Words_c (G := G) List.mem_cons_self s0_0 hu2) rfl B0 (fun v5 bo so G6 e7 B8 h4 => ?_)
  obtain ⟨a15, k16, a11, k12, cs13, rfl, rfl, rfl, s17, o14⟩ := h4
  refine Cov.same (bl' := [_, _]) (sl' := [_]) rfl rfl rfl ?_
  refine Cov.lit [_] [(0, _)] .ro sl27 ty9 rfl rfl rfl rfl rfl rfl (fun b18 hb18 => ?_)
  have o19 : OL Rep.str G6 [.string ⟨#[109]⟩] ([⟨#[109]⟩] : List ByteArray) := ((OL.cons rfl (Rep.strI ⟨#[109]⟩) (OL.nil (Rp' := Rep.str))) :)
  refine Cov.reval 10 (n' := ([⟨#[109]⟩] : List ByteArray).length) rfl rfl ?_
  obtain ⟨u25, hu25, r26⟩ := bind_some r3; clear r3
  refine Cov.appO (Q := Rep.str) 0 .ro sl27 ty9 rfl rfl rfl rfl rfl rfl o14 o19 rfl rfl rfl B8 hu25 rfl (fun a21 k22 cs23 o24 => ?_)
  refine Cov.q .ro (.assign rfl) rfl ?_
  refine Cov.region_end ?_
  refine Cov.seq ?_
  refine Cov.region rfl ?_
  refine Cov.q .ro (.assign rfl) rfl ?_
  refine Cov.region_end ?_
  refine Cov.seq ?_
  refine Cov.seq ?_
  refine Cov.region rfl ?_
  refine Cov.q .ro (.move rfl) rfl ?_
  refine Cov.q .ro (.len_sl rfl rfl sl27) rfl ?_
  refine Cov.q .ro (.move rfl) rfl ?_
  refine Cov.region_end ?_
  refine Cov.cutB (β := List ByteArray × Option Addr × Nat × List Value × Int × Int) (fun y => [(4, .slice y.2.1 y.1.length y.2.2.1)]) [(0, _), (2, _)] (fun y => G6 :: Fs) (fun y => [(p0, .cells #[.slice a15 u2.2.1.length k16, .int .i64 y.2.2.2.2.1] 55 (0, 0)), (b1, .cells #[.int .i64 y.2.2.2.2.2, .slice none 0 0] 29 (0, 0))]) [] (fun y => [.s (.slice y.2.1 y.1.length y.2.2.1) 9 1 y.1.length y.2.2.2.1]) [_] (fun y => OL Rep.str G6 y.2.2.2.1 y.1 ∧ (make_Fence_J1 u2.2.1) y.1 y.2.2.2.2.1 y.2.2.2.2.2 = some r) ⟨rfl, rfl, trivial⟩ [] rfl [0] rfl ?_ ?_
  · intro y hI
    obtain ⟨v637, a638, k639, cs640, v643, v644⟩ := y
    obtain ⟨o641, r646⟩ := hI
    try dsimp only at o641 r646
    refine Cov.prune [(4, .slice a638 v637.length k639), (0, _), (2, _)] ⟨rfl, rfl, rfl, trivial⟩ ?_
    refine Cov.same (bl' := [(p0, .cells #[.slice a15 u2.2.1.length k16, .int .i64 v643] 55 (0, 0)), (b1, .cells #[.int .i64 v644, .slice none 0 0] 29 (0, 0))]) (sl' := [.s (.slice a638 v637.length k639) 9 1 v637.length cs640, _]) (Fs' := G6 :: Fs) rfl rfl rfl ?_
    unfold make_Fence_J1 at r646
    try dsimp only at r646
    refine Cov.seq ?_
    refine Cov.region rfl ?_
    refine Cov.q .ro (.move rfl) rfl ?_
    obtain ⟨u649, hu649, r650⟩ := bind_some r646; clear r646
    refine Cov.callS (b1 := [_]) (b2 := [_]) (s1 := []) [_, _] [] .ro rfl rfl Try.call29 rfl rfl (make_Deck_Next_c (G := G6) List.mem_cons_self s17 hu649) rfl (fun v652 bo so h651 => ?_)
    obtain ⟨a653, k654, rfl, rfl, rfl, s655⟩ := h651
    refine Cov.same (bl' := [_, _]) (sl' := [_, _]) rfl rfl rfl ?_
    refine Cov.q .ro (.addw rfl rfl) rfl ?_
    refine Cov.q .ro (.move rfl) rfl ?_
    refine Cov.q .ro (.build [_, _] [(0, _), (1, _)] ty29 pl29 rfl rfl) rfl ?_
    refine Cov.store 1 [_, _] [_, _] .ro rfl rfl rfl ty29 rfl rfl rfl rfl ?_
    refine Cov.region_end ?_
    refine Cov.freezeR 0 rfl rfl o641 [_] rfl B8 (fun G656 e657 B658 s659 => ?_)
    cases r650
    refine Cov.drop 0 1 _ [] rfl rfl ?_
    refine Cov.pull 1 rfl [_, _] rfl ?_
    refine Cov.retWD 1 (c := ⟨11, none⟩) (.inr ⟨_, rfl⟩) [.cell 2 29] [_] rfl Try.func11 Try.results11 ⟨RV.cell_a 0 [_, _] rfl rfl ty29 rfl, trivial⟩ (fun _ h => List.mem_cons_of_mem _ h) List.mem_cons_self B658 (by subst hS0; simp [blks]) (fun G' hg => ⟨a638, k639, a653, k654, rfl, rfl, rfl, (SlR.mono hg s659), (SlR.mono hg (SlR.mono e657 s655))⟩)
  · intro hb661
    refine Cov.block ?_
    refine Cov.own_nil 9 1 ?_
    refine Cov.pull 1 rfl [_, _] rfl ?_
    refine Cov.pull 1 rfl [_, _] rfl ?_
    refine Cov.loop2 (α := Nat × List ByteArray × List ByteArray × Option Addr × Nat × List Value × Int × Int) (fun y => [(4, .slice y.2.2.2.1 y.2.2.1.length y.2.2.2.2.1), (14, .int .i64 (y.1 : Int))]) [(0, _), (2, _), (12, _), (13, _)] (fun y => []) (fun y => [(p0, .cells #[.slice a15 u2.2.1.length k16, .int .i64 y.2.2.2.2.2.2.1] 55 (0, 0)), (b1, .cells #[.int .i64 y.2.2.2.2.2.2.2, .slice none 0 0] 29 (0, 0))]) [] (fun y => [.s (.slice y.2.2.2.1 y.2.2.1.length y.2.2.2.2.1) 9 1 y.2.2.1.length y.2.2.2.2.2.1]) [_] (fun y => OL Rep.str G6 y.2.2.2.2.2.1 y.2.2.1 ∧ List.drop y.1 u25 = y.2.1 ∧ make_Fence_L4 (make_Fence_J1 u2.2.1) y.2.1 y.2.2.1 y.2.2.2.2.2.2.1 y.2.2.2.2.2.2.2 = some r) (fun y => y.2.1.length) (0, u25, ([] : List ByteArray), none, 0, [], u2.2.2, 0) ⟨(OL.nil (Rp' := Rep.str)), rfl, r26⟩ ⟨rfl, rfl, rfl, rfl, rfl, rfl, trivial⟩ rfl rfl rfl (fun y hI hb1073 => ?_)
    obtain ⟨i1061, w1062, v1064, a1065, k1066, cs1067, v1070, v1071⟩ := y
    obtain ⟨o1068, g1063, r1072⟩ := hI
    try dsimp only at o1068 g1063 r1072
    refine Cov.prune [(4, .slice a1065 v1064.length k1066), (14, .int .i64 (i1061 : Int)), (0, _), (2, _), (12, _), (13, _)] ⟨rfl, rfl, rfl, rfl, rfl, rfl, trivial⟩ ?_
    refine Cov.same (bl' := [(p0, .cells #[.slice a15 u2.2.1.length k16, .int .i64 v1070] 55 (0, 0)), (b1, .cells #[.int .i64 v1071, .slice none 0 0] 29 (0, 0))]) (sl' := [.s (.slice a1065 v1064.length k1066) 9 1 v1064.length cs1067, _]) (Fs' := G6 :: Fs) rfl rfl rfl ?_
    cases w1062 with
    | nil =>
      rw [make_Fence_L4] at r1072; try dsimp only at r1072
      refine Cov.seq ?_
      refine Cov.region rfl ?_
      refine Cov.q .ro (.lss rfl rfl) rfl ?_
      refine Cov.region_end ?_
      refine Cov.seq ?_
      refine Cov.cond_dec rfl (fun c => absurd c (drop_nil g1063)) (fun _ => ?_)
      refine Cov.exit rfl ?_
      refine Cov.prune _ ?_ (Cov.same rfl rfl rfl (hb661 (v1064, a1065, k1066, cs1067, v1070, v1071) ⟨o1068, r1072⟩))
      exact ⟨rfl, rfl, rfl, trivial⟩
    | cons x1078 xs1079 =>
      have r1077 : make_Fence_B4 (make_Fence_J1 u2.2.1) (make_Fence_L4 (make_Fence_J1 u2.2.1) xs1079) x1078 v1064 v1070 v1071 = some r := r1072; clear r1072; unfold make_Fence_B4 at r1077; try dsimp only at r1077
      refine Cov.seq ?_
      refine Cov.region rfl ?_
      refine Cov.q .ro (.lss rfl rfl) rfl ?_
      refine Cov.region_end ?_
      refine Cov.seq ?_
      refine Cov.cond_dec rfl (fun _ => ?_) (fun c => absurd (drop_lt g1063) c)
      refine Cov.skip ?_
      refine Cov.seq ?_
      refine Cov.block ?_
      refine Cov.seq ?_
      refine Cov.region rfl ?_
      obtain ⟨c1080, p1081, h1082⟩ := OL.get o24 (drop_idx g1063)
      obtain rfl := h1082
      refine Cov.q .ro (.idxO 1 rfl rfl rfl (drop_idx g1063) sl27 ty9.sz) rfl ?_
      refine Cov.q .ro (.loadO 1 0 rfl (drop_idx g1063) p1081 rfl (.inl ⟨rfl, rfl⟩) ty9 rfl) rfl ?_
      refine Cov.q .ro (.assign rfl) rfl ?_
      refine Cov.region_end ?_
      refine Cov.seq ?_
      refine Cov.region rfl ?_
      refine Cov.q .ro (.move rfl) rfl ?_
      refine Cov.q .ro (.len_sl rfl rfl sl27) rfl ?_
      refine Cov.q .ro (.assign rfl) rfl ?_
      refine Cov.region_end ?_
      refine Cov.seq ?_
      refine Cov.cutB (β := Int × Int × Int) (fun y => [(7, .int .i64 y.1)]) [(4, _), (14, _), (0, _), (2, _), (12, _), (13, _), (6, _)] (fun y => G6 :: Fs) (fun y => [(p0, .cells #[.slice a15 u2.2.1.length k16, .int .i64 y.2.1] 55 (0, 0)), (b1, .cells #[.int .i64 y.2.2, .slice none 0 0] 29 (0, 0))]) [] (fun y => []) [_, _] (fun y => (make_Fence_J2 (make_Fence_L4 (make_Fence_J1 u2.2.1) xs1079) x1078 v1064) y.1 y.2.1 y.2.2 = some r) ⟨rfl, rfl, rfl, rfl, rfl, rfl, rfl, trivial⟩ [] rfl [0, 1] rfl ?_ ?_
      · intro y hI
        obtain ⟨v1146, v1147, v1148⟩ := y
        have r1150 := hI; clear hI
        try dsimp only at r1150
        refine Cov.prune [(7, .int .i64 v1146), (4, _), (14, _), (0, _), (2, _), (12, _), (13, _), (6, _)] ⟨rfl, rfl, rfl, rfl, rfl, rfl, rfl, rfl, trivial⟩ ?_
        refine Cov.same (bl' := [(p0, .cells #[.slice a15 u2.2.1.length k16, .int .i64 v1147] 55 (0, 0)), (b1, .cells #[.int .i64 v1148, .slice none 0 0] 29 (0, 0))]) (sl' := [_, _]) (Fs' := G6 :: Fs) rfl rfl rfl ?_
        unfold make_Fence_J2 at r1150
        try dsimp only at r1150
        refine Cov.seq ?_
        refine Cov.seq ?_
        refine Cov.region rfl ?_
        refine Cov.q .ro (.move rfl) rfl ?_
        refine Cov.q .ro (.gtr rfl rfl) rfl ?_
        refine Cov.q .ro (.move rfl) rfl ?_
        obtain ⟨u1164, h1165, r1166⟩ := bind_some r1150; clear r1150
        refine Cov.cutR 8 (β := Unit) (fun y => [(43, .bool u1164)]) [(7, _), (4, _), (14, _), (0, _), (2, _), (12, _), (13, _), (6, _)] (fun y => G6 :: Fs) (fun y => []) [_, _] (fun y => []) [_, _] (fun y => True) ⟨rfl, rfl, rfl, rfl, rfl, rfl, rfl, rfl, trivial⟩ [0, 1] rfl [0, 1] rfl ?_ ?_
        · rintro _ _
          refine Cov.prune [(43, .bool u1164), (7, _), (4, _), (14, _), (0, _), (2, _), (12, _), (13, _), (6, _)] ⟨rfl, rfl, rfl, rfl, rfl, rfl, rfl, rfl, rfl, trivial⟩ ?_
          refine Cov.same (bl' := [_, _]) (sl' := [_, _]) (Fs' := G6 :: Fs) rfl rfl rfl ?_
          refine Cov.region_end ?_
          refine Cov.cond rfl (fun c1169 => ?_) (fun c1169 => ?_)
          · have r1170 := ifT r1166 c1169; clear r1166
            refine Cov.exit rfl ?_
            refine Cov.region rfl ?_
            refine Cov.q .ro (.addw rfl rfl) rfl ?_
            refine Cov.q .ro (.move rfl) rfl ?_
            refine Cov.region_end ?_
            refine Cov.prune _ ?_ (Cov.same rfl rfl rfl (hb1073 ((i1061 + 1), xs1079, v1064, a1065, k1066, cs1067, v1147, v1148) ⟨o1068, (drop_succ g1063), r1170⟩ (Nat.lt_succ_self _)))
            exact ⟨rfl, (congrArg (fun z => some (Value.int .i64 z)) (idx_wrap (OL.len' o24) g1063)), rfl, rfl, rfl, rfl, trivial⟩
          · have r1171 := ifBF r1166 c1169; clear r1166
            refine Cov.skip ?_
            refine Cov.seq ?_
            refine Cov.region rfl ?_
            refine Cov.q .ro (.move rfl) rfl ?_
            refine Cov.lit [_] [(0, _)] .ro sl27 ty9 rfl rfl rfl rfl rfl rfl (fun b1172 hb1172 => ?_)
            have o1173 : OL Rep.str G6 [.string ByteArray.empty] ([ByteArray.empty] : List ByteArray) := ((OL.cons rfl (Rep.strI ByteArray.empty) (OL.nil (Rp' := Rep.str))) :)
            refine Cov.reval 45 (n' := ([ByteArray.empty] : List ByteArray).length) rfl rfl ?_
            obtain ⟨u1179, hu1179, r1180⟩ := bind_some r1171; clear r1171
            refine Cov.appO (Q := Rep.str) 0 .ro sl27 ty9 rfl rfl rfl rfl rfl rfl o1068 o1173 rfl rfl rfl B8 hu1179 rfl (fun a1175 k1176 cs1177 o1178 => ?_)
            refine Cov.q .ro (.assign rfl) rfl ?_
            refine Cov.region_end ?_
            refine Cov.seq ?_
            refine Cov.drawL (.q 0 (.q 1 (.q 2 (.q 3 (.q 4 (.q 5 (.q 6 (.e 7 2 .nil)))))))) [_, _] (by kernel_rfl) (by kernel_rfl) (pick_mem [0, 1] rfl) ?_
            refine Cov.dq (.move rfl) rfl ?_
            refine Cov.dq (.move rfl) rfl ?_
            refine Cov.dq (.addw rfl rfl) rfl ?_
            obtain ⟨u1182, hu1182, r1183⟩ := bind_some r1180; clear r1180
            refine Cov.owncap 0 rfl (fun h1184 => ?_)
            refine Cov.dq (.sliceO rfl rfl hu1182 h1184 sl27 ty9.sz (fun h => .yes' rfl h) (fun _ => .no)) rfl ?_
            refine Cov.dq (.move rfl) rfl ?_
            refine Cov.dq (.move rfl) rfl ?_
            obtain ⟨u1185, hu1185, r1186⟩ := bind_some r1183; clear r1183
            refine Cov.owncap 0 rfl (fun h1187 => ?_)
            refine Cov.dq (.sliceO rfl rfl hu1185 h1187 sl27 ty9.sz (fun h => .yes' rfl h) (fun _ => .no)) rfl ?_
            refine Cov.copySelf 0 (Q := Rep.str) .d2 sl27 ty9.sz rfl rfl rfl o1178 hu1182 hu1185 rfl rfl rfl (fun cs1188 hlcs1188 o1189 => ?_)
            refine Cov.reval 4 hlcs1188 rfl ?_
            refine Cov.reval 46 hlcs1188 rfl ?_
            refine Cov.reval 47 hlcs1188 rfl ?_
            refine Cov.reval 51 hlcs1188 rfl ?_
            refine Cov.draw_end ?_
            refine Cov.region rfl ?_
            refine Cov.q .ro (.move rfl) rfl ?_
            refine Cov.q .ro (.move rfl) rfl ?_
            refine Cov.q .ro (.move rfl) rfl ?_
            obtain ⟨u1191, hu1191, r1192⟩ := bind_some r1186; clear r1186
            obtain ⟨c1193, p1194, h1195⟩ := OL.get o1189 hu1191
            obtain rfl := h1195
            refine Cov.q .ro (.idxO 0 rfl rfl rfl hu1191 sl27 ty9.sz) rfl ?_
            obtain ⟨u1196, hu1196, r1197⟩ := bind_some r1192; clear r1192
            refine Cov.storeR 0 0 (Q := Rep.str) .ro rfl rfl o1189 hu1196 rfl (.inl ⟨rfl, rfl⟩) rfl ty9 p1194 ((Rep.strI x1078) :) rfl rfl (fun cs1198 hlcs1198 o1199 => ?_)
            refine Cov.reval 4 hlcs1198 rfl ?_
            refine Cov.reval 46 hlcs1198 rfl ?_
            refine Cov.reval 47 hlcs1198 rfl ?_
            refine Cov.reval 51 hlcs1198 rfl ?_
            refine Cov.reval 55 hlcs1198 rfl ?_
            refine Cov.region_end ?_
            refine Cov.prune [(4, _), (14, _), (0, _), (2, _), (12, _), (13, _)] ⟨rfl, rfl, rfl, rfl, rfl, rfl, trivial⟩ ?_
            refine Cov.inBlock ?_
            refine Cov.region rfl ?_
            refine Cov.q .ro (.addw rfl rfl) rfl ?_
            refine Cov.q .ro (.move rfl) rfl ?_
            refine Cov.region_end ?_
            refine Cov.prune _ ?_ (Cov.same rfl rfl rfl (hb1073 ((i1061 + 1), xs1079, u1196, a1175, k1176, cs1198, v1147, v1148) ⟨o1199, (drop_succ g1063), r1197⟩ (Nat.lt_succ_self _)))
            exact ⟨rfl, (congrArg (fun z => some (Value.int .i64 z)) (idx_wrap (OL.len' o24) g1063)), rfl, rfl, rfl, rfl, trivial⟩
        · intro hb1163
          refine Cov.split 35 rfl (fun c1162 => ?_) (fun c1162 => ?_)
          · have r1201 := ifT h1165 c1162
            refine Cov.g_on rfl ?_
            refine Cov.q .ro (.move rfl) rfl ?_
            refine Cov.g_on rfl ?_
            refine Cov.q .ro (.move rfl) rfl ?_
            refine Cov.g_on rfl ?_
            refine Cov.q .ro (.subw rfl rfl) rfl ?_
            refine Cov.g_on rfl ?_
            obtain ⟨u1202, hu1202, r1203⟩ := bind_some r1201; clear r1201
            obtain ⟨c1204, p1205, h1206⟩ := OL.get o1068 hu1202
            obtain rfl := h1206
            refine Cov.q .ro (.idxO 0 rfl rfl rfl hu1202 sl27 ty9.sz) rfl ?_
            refine Cov.g_on rfl ?_
            refine Cov.q .ro (.loadO 0 0 rfl hu1202 p1205 rfl (.inl ⟨rfl, rfl⟩) ty9 rfl) rfl ?_
            refine Cov.g_on rfl ?_
            refine Cov.q .ro (.move rfl) rfl ?_
            refine Cov.g_on rfl ?_
            refine Cov.q .ro (.eql_s rfl rfl) rfl ?_
            refine Cov.q .ro (.pick_t rfl rfl) rfl ?_
            refine Cov.prune _ ?_ (Cov.same rfl rfl rfl (hb1163 () trivial))
            exact ⟨sval r1203, rfl, rfl, rfl, rfl, rfl, rfl, rfl, rfl, trivial⟩
          · have r1207 := ifF h1165 c1162
            refine Cov.g_off rfl rfl rfl ?_
            refine Cov.g_off rfl rfl rfl ?_
            refine Cov.g_off rfl rfl rfl ?_
            refine Cov.g_off rfl rfl rfl ?_
            refine Cov.g_off rfl rfl rfl ?_
            refine Cov.g_off rfl rfl rfl ?_
            refine Cov.g_off rfl rfl rfl ?_
            refine Cov.q .ro (.pick_f rfl rfl) rfl ?_
            refine Cov.prune _ ?_ (Cov.same rfl rfl rfl (hb1163 () trivial))
            exact ⟨sval r1207, rfl, rfl, rfl, rfl, rfl, rfl, rfl, rfl, trivial⟩
      · intro hb1208
        refine Cov.block ?_
        refine Cov.loop2 (α := Nat × Int) (fun y => [(7, .int .i64 y.2)]) [(4, _), (14, _), (0, _), (2, _), (12, _), (13, _), (6, _)] (fun y => []) (fun y => []) [_, _] (fun y => []) [_, _] (fun y => make_Fence_L3 (make_Fence_J2 (make_Fence_L4 (make_Fence_J1 u2.2.1) xs1079) x1078 v1064) x1078 v1070 v1071 v1064 y.1 y.2 = some r) (fun y => y.1) (big, (v1064.length : Int)) r1077 ⟨rfl, rfl, rfl, rfl, rfl, rfl, rfl, rfl, trivial⟩ rfl rfl rfl (fun y hI hb1239 => ?_)
        obtain ⟨n1235, v1237⟩ := y
        have r1238 := hI; clear hI
        try dsimp only at r1238
        refine Cov.prune [(7, .int .i64 v1237), (4, _), (14, _), (0, _), (2, _), (12, _), (13, _), (6, _)] ⟨rfl, rfl, rfl, rfl, rfl, rfl, rfl, rfl, trivial⟩ ?_
        refine Cov.same (bl' := [_, _]) (sl' := [_, _]) (Fs' := G6 :: Fs) rfl rfl rfl ?_
        obtain ⟨m1249, rfl⟩ : ∃ m, n1235 = m + 1 := by cases n1235 with | zero => exact absurd (show (none : Option _) = some _ from r1238) (by simp) | succ m => exact ⟨m, rfl⟩
        have r1248 : make_Fence_B3 (make_Fence_J2 (make_Fence_L4 (make_Fence_J1 u2.2.1) xs1079) x1078 v1064) x1078 v1070 v1071 v1064 (make_Fence_L3 (make_Fence_J2 (make_Fence_L4 (make_Fence_J1 u2.2.1) xs1079) x1078 v1064) x1078 v1070 v1071 v1064 m1249) v1237 = some r := r1238; clear r1238; unfold make_Fence_B3 at r1248; try dsimp only at r1248
        refine Cov.seq ?_
        refine Cov.seq ?_
        refine Cov.region rfl ?_
        refine Cov.q .ro (.move rfl) rfl ?_
        refine Cov.q .ro (.gtr rfl rfl) rfl ?_
        refine Cov.q .ro (.move rfl) rfl ?_
        obtain ⟨u1257, h1258, r1259⟩ := bind_some r1248; clear r1248
        refine Cov.cutR 8 (β := Unit) (fun y => [(30, .bool u1257)]) [(7, _), (4, _), (14, _), (0, _), (2, _), (12, _), (13, _), (6, _)] (fun y => G6 :: Fs) (fun y => []) [_, _] (fun y => []) [_, _] (fun y => True) ⟨rfl, rfl, rfl, rfl, rfl, rfl, rfl, rfl, trivial⟩ [0, 1] rfl [0, 1] rfl ?_ ?_
        · rintro _ _
          refine Cov.prune [(30, .bool u1257), (7, _), (4, _), (14, _), (0, _), (2, _), (12, _), (13, _), (6, _)] ⟨rfl, rfl, rfl, rfl, rfl, rfl, rfl, rfl, rfl, trivial⟩ ?_
          refine Cov.same (bl' := [_, _]) (sl' := [_, _]) (Fs' := G6 :: Fs) rfl rfl rfl ?_
          refine Cov.region_end ?_
          refine Cov.cond rfl (fun c1262 => ?_) (fun c1262 => ?_)
          · have r1263 := ifT r1259 c1262; clear r1259
            refine Cov.skip ?_
            refine Cov.block ?_
            refine Cov.region rfl ?_
            refine Cov.q .ro (.move rfl) rfl ?_
            refine Cov.q .ro (.subw rfl rfl) rfl ?_
            refine Cov.q .ro (.assign rfl) rfl ?_
            refine Cov.region_end ?_
            refine Cov.inBlock ?_
            refine Cov.prune _ ?_ (Cov.same rfl rfl rfl (hb1239 (m1249, (w64 (v1237 - 1))) r1263 (Nat.lt_succ_self _)))
            exact ⟨rfl, rfl, rfl, rfl, rfl, rfl, rfl, rfl, trivial⟩
          · have r1264 := ifBF r1259 c1262; clear r1259
            refine Cov.exit rfl ?_
            refine Cov.prune _ ?_ (Cov.same rfl rfl rfl (hb1208 (v1237, v1070, v1071) r1264))
            exact ⟨rfl, rfl, rfl, rfl, rfl, rfl, rfl, rfl, trivial⟩
        · intro hb1256
          refine Cov.split 22 rfl (fun c1255 => ?_) (fun c1255 => ?_)
          · have r1265 := ifT h1258 c1255
            refine Cov.g_on rfl ?_
            refine Cov.q .ro (.move rfl) rfl ?_
            refine Cov.g_on rfl ?_
            refine Cov.q .ro (.move rfl) rfl ?_
            refine Cov.g_on rfl ?_
            refine Cov.q .ro (.subw rfl rfl) rfl ?_
            refine Cov.g_on rfl ?_
            obtain ⟨u1266, hu1266, r1267⟩ := bind_some r1265; clear r1265
            obtain ⟨c1268, p1269, h1270⟩ := OL.get o1068 hu1266
            obtain rfl := h1270
            refine Cov.q .ro (.idxO 0 rfl rfl rfl hu1266 sl27 ty9.sz) rfl ?_
            refine Cov.g_on rfl ?_
            refine Cov.q .ro (.loadO 0 0 rfl hu1266 p1269 rfl (.inl ⟨rfl, rfl⟩) ty9 rfl) rfl ?_
            refine Cov.g_on rfl ?_
            refine Cov.q .ro (.move rfl) rfl ?_
            refine Cov.g_on rfl ?_
            refine Cov.q .ro (.gtr_d rfl rfl) rfl ?_
            refine Cov.q .ro (.pick_t rfl rfl) rfl ?_
            refine Cov.prune _ ?_ (Cov.same rfl rfl rfl (hb1256 () trivial))
            exact ⟨sval r1267, rfl, rfl, rfl, rfl, rfl, rfl, rfl, rfl, trivial⟩
          · have r1271 := ifF h1258 c1255
            refine Cov.g_off rfl rfl rfl ?_
            refine Cov.g_off rfl rfl rfl ?_
            refine Cov.g_off rfl rfl rfl ?_
            refine Cov.g_off rfl rfl rfl ?_
            refine Cov.g_off rfl rfl rfl ?_
            refine Cov.g_off rfl rfl rfl ?_
            refine Cov.g_off rfl rfl rfl ?_
            refine Cov.q .ro (.pick_f rfl rfl) rfl ?_
            refine Cov.prune _ ?_ (Cov.same rfl rfl rfl (hb1256 () trivial))
            exact ⟨sval r1271, rfl, rfl, rfl, rfl, rfl, rfl, rfl, rfl, trivial⟩

set_option maxHeartbeats 4000000 in
theorem ref21_SameKeys_c {Fs : List Hp} {G : Hp} {a0 : Option Addr} {k0 : Nat} {x0 : List ByteArray} {a1 : Option Addr} {k1 : Nat} {x1 : List ByteArray} {r : Bool} (hG : G ∈ Fs) (s0 : SlR Rep.str G a0 k0 x0) (s1 : SlR Rep.str G a1 k1 x1) (h : ref21_SameKeys x0 x1 = some r) : RetS Try.prog 15 #[.slice a0 x0.length k0, .slice a1 x1.length k1] Fs [] [] (fun v bo so => v = .bool r ∧ bo = [] ∧ so = []) := by
  unfold ref21_SameKeys at h
  try dsimp only at h
  refine RetS.of (vs := [_, _]) Try.func15 rfl Try.ntmps15 [(0, _), (1, _)] ⟨rfl, rfl, trivial⟩ rfl hG fun w0 S0 hS0 B0 => ?_
  refine Cov.seq ?_
  refine Cov.region rfl ?_
  refine Cov.q .ro (.assign rfl) rfl ?_
  refine Cov.region_end ?_
  refine Cov.seq ?_
  refine Cov.seq ?_
  refine Cov.region rfl ?_
  refine Cov.q .ro (.move rfl) rfl ?_
  refine Cov.q .ro (.len_sl rfl rfl sl27) rfl ?_
  refine Cov.q .ro (.move rfl) rfl ?_
  refine Cov.q .ro (.len_sl rfl rfl sl27) rfl ?_
  refine Cov.q .ro (.neq rfl rfl) rfl ?_
  refine Cov.region_end ?_
  refine Cov.cond_dec rfl (fun c1 => ?_) (fun c1 => ?_)
  · have r2 := ifT h c1; clear h
    refine Cov.seq ?_
    refine Cov.region rfl ?_
    refine Cov.q .ro (.assign rfl) rfl ?_
    refine Cov.region_end ?_
    cases r2
    refine Cov.retS (c := ⟨15, none⟩) (.inr ⟨_, rfl⟩) [.tmp 4] [_] rfl Try.func15 Try.results15 ⟨RV.tmp rfl, trivial⟩ (fun _ h => List.mem_cons_of_mem _ h) ⟨rfl, rfl, rfl⟩
  · have r3 := ifF h c1; clear h
    refine Cov.skip ?_
    refine Cov.seq ?_
    refine Cov.seq ?_
    refine Cov.region rfl ?_
    refine Cov.q .ro (.move rfl) rfl ?_
    refine Cov.q .ro (.len_sl rfl rfl sl27) rfl ?_
    refine Cov.q .ro (.move rfl) rfl ?_
    refine Cov.region_end ?_
    refine Cov.block ?_
    refine Cov.loop2 (α := Nat × List ByteArray) (fun y => [(13, .int .i64 (y.1 : Int))]) [(0, _), (1, _), (12, _)] (fun y => []) (fun y => []) [] (fun y => []) [] (fun y => List.drop y.1 x0 = y.2 ∧ ref21_SameKeys_L1 x1 y.2 y.1  = some r) (fun y => y.2.length) (0, x0) ⟨rfl, r3⟩ ⟨rfl, rfl, rfl, rfl, trivial⟩ rfl rfl rfl (fun y hI hb27 => ?_)
    obtain ⟨i23, w24⟩ := y
    obtain ⟨g25, r26⟩ := hI
    try dsimp only at g25 r26
    refine Cov.prune [(13, .int .i64 (i23 : Int)), (0, _), (1, _), (12, _)] ⟨rfl, rfl, rfl, rfl, trivial⟩ ?_
    refine Cov.same (bl' := []) (sl' := []) (Fs' := G :: Fs) rfl rfl rfl ?_
    cases w24 with
    | nil =>
      rw [ref21_SameKeys_L1] at r26; try dsimp only at r26
      refine Cov.seq ?_
      refine Cov.region rfl ?_
      refine Cov.q .ro (.lss rfl rfl) rfl ?_
      refine Cov.region_end ?_
      refine Cov.seq ?_
      refine Cov.cond_dec rfl (fun c => absurd c (drop_nil g25)) (fun _ => ?_)
      refine Cov.exit rfl ?_
      refine Cov.seq ?_
      refine Cov.region rfl ?_
      refine Cov.q .ro (.assign rfl) rfl ?_
      refine Cov.region_end ?_
      cases r26
      refine Cov.retS (c := ⟨15, none⟩) (.inr ⟨_, rfl⟩) [.tmp 4] [_] rfl Try.func15 Try.results15 ⟨RV.tmp rfl, trivial⟩ (fun _ h => List.mem_cons_of_mem _ h) ⟨rfl, rfl, rfl⟩
    | cons x32 xs33 =>
      have r31 : ref21_SameKeys_B1 x1 (ref21_SameKeys_L1 x1 xs33 (i23 + 1)) x32 i23  = some r := r26; clear r26; unfold ref21_SameKeys_B1 at r31; try dsimp only at r31
      refine Cov.seq ?_
      refine Cov.region rfl ?_
      refine Cov.q .ro (.lss rfl rfl) rfl ?_
      refine Cov.region_end ?_
      refine Cov.seq ?_
      refine Cov.cond_dec rfl (fun _ => ?_) (fun c => absurd (drop_lt g25) c)
      refine Cov.skip ?_
      refine Cov.seq ?_
      refine Cov.block ?_
      refine Cov.seq ?_
      refine Cov.region rfl ?_
      refine Cov.q .ro (.move rfl) rfl ?_
      refine Cov.q .ro (.assign rfl) rfl ?_
      refine Cov.region_end ?_
      refine Cov.seq ?_
      refine Cov.drawL (.q 0 (.q 1 (.q 2 (.q 3 (.q 4 (.q 5 (.q 6 (.q 7 (.q 8 .nil))))))))) [] (by kernel_rfl) (by kernel_rfl) (pick_mem [] rfl) ?_
      refine Cov.dq (.move rfl) rfl ?_
      refine Cov.dq (.move rfl) rfl ?_
      obtain ⟨c34, p35, h36⟩ := SlR.get s0 (drop_idx g25)
      obtain rfl := h36
      refine Cov.dq (.idxR s0 rfl rfl (drop_idx g25) sl27 ty9.sz) rfl ?_
      refine Cov.dq (.load_rp p35 List.mem_cons_self rfl ty9 rfl) rfl ?_
      refine Cov.dq (.move rfl) rfl ?_
      refine Cov.dq (.move rfl) rfl ?_
      obtain ⟨u37, hu37, r38⟩ := bind_some r31; clear r31
      obtain ⟨c39, p40, h41⟩ := SlR.get s1 hu37
      obtain rfl := h41
      refine Cov.dq (.idxR s1 rfl rfl hu37 sl27 ty9.sz) rfl ?_
      refine Cov.dq (.load_rp p40 List.mem_cons_self rfl ty9 rfl) rfl ?_
      refine Cov.dq (.neq_s rfl rfl) rfl ?_
      refine Cov.draw_end ?_
      refine Cov.cond_dec rfl (fun c42 => ?_) (fun c42 => ?_)
      · have r43 := ifT r38 c42; clear r38
        refine Cov.seq ?_
        refine Cov.region rfl ?_
        refine Cov.q .ro (.assign rfl) rfl ?_
        refine Cov.region_end ?_
        refine Cov.prune [(4, _)] ⟨rfl, trivial⟩ ?_
        cases r43
        refine Cov.retS (c := ⟨15, none⟩) (.inr ⟨_, rfl⟩) [.tmp 4] [_] rfl Try.func15 Try.results15 ⟨RV.tmp rfl, trivial⟩ (fun _ h => List.mem_cons_of_mem _ h) ⟨rfl, rfl, rfl⟩
      · have r44 := ifF r38 c42; clear r38
        refine Cov.skip ?_
        refine Cov.inBlock ?_
        refine Cov.region rfl ?_
        refine Cov.q .ro (.addw rfl rfl) rfl ?_
        refine Cov.q .ro (.move rfl) rfl ?_
        refine Cov.region_end ?_
        refine Cov.prune [(13, _), (0, _), (1, _), (12, _)] ⟨rfl, rfl, rfl, rfl, trivial⟩ ?_
        refine Cov.prune _ ?_ (Cov.same rfl rfl rfl (hb27 ((i23 + 1), xs33) ⟨(drop_succ g25), r44⟩ (Nat.lt_succ_self _)))
        exact ⟨(congrArg (fun z => some (Value.int .i64 z)) (idx_wrap (SlR.len s0) g25)), rfl, rfl, rfl, trivial⟩

set_option maxHeartbeats 4000000 in
theorem ref20_Key_c {Fs : List Hp} {G : Hp} {x0 : ByteArray} {r : Bool} (hG : G ∈ Fs)  (h : ref20_Key x0 = some r) : RetS Try.prog 39 #[.string x0] Fs [] [] (fun v bo so => v = .bool r ∧ bo = [] ∧ so = []) := by
  unfold ref20_Key at h
  try dsimp only at h
  refine RetS.of (vs := [_]) Try.func39 rfl Try.ntmps39 [(0, _)] ⟨rfl, trivial⟩ rfl hG fun w0 S0 hS0 B0 => ?_
  refine Cov.seq ?_
  refine Cov.region rfl ?_
  refine Cov.q .ro (.assign rfl) rfl ?_
  refine Cov.region_end ?_
  refine Cov.seq ?_
  refine Cov.region rfl ?_
  refine Cov.q .ro (.move rfl) rfl ?_
  refine Cov.q .ro (.len_s rfl Try.underlying9) rfl ?_
  refine Cov.q .ro (.geq rfl rfl) rfl ?_
  refine Cov.q .ro (.move rfl) rfl ?_
  refine Cov.cutR 4 (β := Unit) (fun y => [(10, .bool (decide ((1 ≤ (x0.size : Int)) ∧ ((x0.size : Int) ≤ 32))))]) [(2, _)] (fun y => G :: Fs) (fun y => []) [] (fun y => []) [] (fun y => True) ⟨rfl, trivial⟩ [] rfl [] rfl ?_ ?_
  · rintro _ _
    refine Cov.prune [(10, .bool (decide ((1 ≤ (x0.size : Int)) ∧ ((x0.size : Int) ≤ 32)))), (2, _)] ⟨rfl, rfl, trivial⟩ ?_
    refine Cov.same (bl' := []) (sl' := []) (Fs' := G :: Fs) rfl rfl rfl ?_
    refine Cov.q .ro (.assign rfl) rfl ?_
    refine Cov.region_end ?_
    cases h
    refine Cov.retS (c := ⟨39, none⟩) (.inr ⟨_, rfl⟩) [.tmp 2] [_] rfl Try.func39 Try.results39 ⟨RV.tmp rfl, trivial⟩ (fun _ h => List.mem_cons_of_mem _ h) ⟨rfl, rfl, rfl⟩
  · intro hb2
    refine Cov.split 6 rfl (fun c1 => ?_) (fun c1 => ?_)
    · refine Cov.g_on rfl ?_
      refine Cov.q .ro (.move rfl) rfl ?_
      refine Cov.g_on rfl ?_
      refine Cov.q .ro (.len_s rfl Try.underlying9) rfl ?_
      refine Cov.g_on rfl ?_
      refine Cov.q .ro (.leq rfl rfl) rfl ?_
      refine Cov.q .ro (.pick_t rfl rfl) rfl ?_
      refine Cov.prune _ ?_ (Cov.same rfl rfl rfl (hb2 () trivial))
      exact ⟨dand_t c1, rfl, trivial⟩
    · refine Cov.g_off rfl rfl rfl ?_
      refine Cov.g_off rfl rfl rfl ?_
      refine Cov.g_off rfl rfl rfl ?_
      refine Cov.q .ro (.pick_f rfl rfl) rfl ?_
      refine Cov.prune _ ?_ (Cov.same rfl rfl rfl (hb2 () trivial))
      exact ⟨dand_f c1, rfl, trivial⟩

end Go.Proofs.Ytdchjmophffphaa
