/- The walks. Printed by wip/lift/drive.py. -/
import Derived.Test.YthgmcgldmahgeaaW1
namespace Go.Proofs.Ythgmcgldmahgeaa
open Go.RowKit
set_option linter.unusedSimpArgs false
set_option linter.unusedVariables false
set_option synthInstance.maxSize 2000
set_option synthInstance.maxHeartbeats 400000

set_option maxHeartbeats 4000000 in
set_option maxRecDepth 100000 in
theorem ref03_Check_c {Fs : List Hp} {G : Hp} {x0_0 : Int} {r : Int} (hG : G ∈ Fs)  (h : ref03_Check x0_0 = some r) : RetS Try.prog 38 #[.agg #[.int .i64 x0_0]] Fs [] [] (fun v bo so => v = .int .i64 r ∧ bo = [] ∧ so = []) := by
  unfold ref03_Check at h
  try dsimp only at h
  refine RetS.of (vs := [_]) Try.func38 rfl Try.ntmps38 [(0, _)] ⟨rfl, trivial⟩ rfl hG fun w0 S0 hS0 B0 => ?_
  refine Cov.seq ?_
  refine Cov.region rfl ?_
  refine Cov.box [_] .ro rfl rfl rfl (fun b1 hb1 => ?_)
  refine Cov.q .ro (.assign rfl) rfl ?_
  refine Cov.region_end ?_
  refine Cov.seq ?_
  refine Cov.seq ?_
  refine Cov.region rfl ?_
  refine Cov.q .ro (.fieldAddr 0 rfl fl24_0 ty3.sz rfl) rfl ?_
  refine Cov.q .ro (.load_own 0 rfl rfl ty3 rfl) rfl ?_
  refine Cov.q .ro (.lss rfl rfl) rfl ?_
  refine Cov.q .ro (.move rfl) rfl ?_
  refine Cov.cutR 4 (β := Unit) (fun y => [(11, .bool (decide ((x0_0 < 2) ∨ (65521 < x0_0))))]) [(1, _)] (fun y => G :: Fs) (fun y => []) [_] (fun y => []) [] (fun y => True) ⟨rfl, trivial⟩ [0] rfl [] rfl ?_ ?_
  · rintro _ _
    refine Cov.prune [(11, .bool (decide ((x0_0 < 2) ∨ (65521 < x0_0)))), (1, _)] ⟨rfl, rfl, trivial⟩ ?_
    refine Cov.same (bl' := [_]) (sl' := []) (Fs' := G :: Fs) rfl rfl rfl ?_
    refine Cov.region_end ?_
    refine Cov.cond_dec rfl (fun c6 => ?_) (fun c6 => ?_)
    · have r7 := ifT h c6; clear h
      refine Cov.seq ?_
      refine Cov.region rfl ?_
      refine Cov.q .ro (.assign rfl) rfl ?_
      refine Cov.region_end ?_
      cases r7
      refine Cov.drop 1 0 [] _ rfl rfl ?_
      refine Cov.retS (c := ⟨38, none⟩) (.inr ⟨_, rfl⟩) [.tmp 2] [_] rfl Try.func38 Try.results38 ⟨RV.tmp rfl, trivial⟩ (fun _ h => List.mem_cons_of_mem _ h) ⟨rfl, rfl, rfl⟩
    · have r8 := ifF h c6; clear h
      refine Cov.skip ?_
      refine Cov.seq ?_
      refine Cov.seq ?_
      refine Cov.region rfl ?_
      refine Cov.q .ro (.assign rfl) rfl ?_
      refine Cov.region_end ?_
      refine Cov.block ?_
      refine Cov.loop2 (α := Nat × Int) (fun y => [(3, .int .i64 y.2)]) [(1, _)] (fun y => []) (fun y => []) [_] (fun y => []) [] (fun y => ref03_Check_L1 x0_0 y.1 y.2 = some r) (fun y => y.1) (big, 2) r8 ⟨rfl, rfl, trivial⟩ rfl rfl rfl (fun y hI hb24 => ?_)
      obtain ⟨n20, v22⟩ := y
      have r23 := hI; clear hI
      try dsimp only at r23
      refine Cov.prune [(3, .int .i64 v22), (1, _)] ⟨rfl, rfl, trivial⟩ ?_
      refine Cov.same (bl' := [_]) (sl' := []) (Fs' := G :: Fs) rfl rfl rfl ?_
      obtain ⟨m27, rfl⟩ : ∃ m, n20 = m + 1 := by cases n20 with | zero => exact absurd (show (none : Option _) = some _ from r23) (by simp) | succ m => exact ⟨m, rfl⟩
      have r26 : ref03_Check_B1 x0_0 (ref03_Check_L1 x0_0 m27) v22 = some r := r23; clear r23; unfold ref03_Check_B1 at r26; try dsimp only at r26
      refine Cov.seq ?_
      refine Cov.seq ?_
      refine Cov.region rfl ?_
      refine Cov.q .ro (.move rfl) rfl ?_
      refine Cov.q .ro (.move rfl) rfl ?_
      refine Cov.q .ro (.mulw rfl rfl) rfl ?_
      refine Cov.q .ro (.fieldAddr 0 rfl fl24_0 ty3.sz rfl) rfl ?_
      refine Cov.q .ro (.load_own 0 rfl rfl ty3 rfl) rfl ?_
      refine Cov.q .ro (.leq rfl rfl) rfl ?_
      refine Cov.region_end ?_
      refine Cov.cond_dec rfl (fun c28 => ?_) (fun c28 => ?_)
      · have r29 := ifT r26 c28; clear r26
        refine Cov.skip ?_
        refine Cov.seq ?_
        refine Cov.block ?_
        refine Cov.seq ?_
        refine Cov.region rfl ?_
        refine Cov.q .ro (.fieldAddr 0 rfl fl24_0 ty3.sz rfl) rfl ?_
        refine Cov.q .ro (.load_own 0 rfl rfl ty3 rfl) rfl ?_
        refine Cov.q .ro (.move rfl) rfl ?_
        obtain ⟨u30, hu30, r31⟩ := bind_some r29; clear r29
        refine Cov.q .ro (.remt rfl rfl (nz_some hu30)) rfl ?_
        refine Cov.q .ro (.eql rfl rfl) rfl ?_
        refine Cov.region_end ?_
        refine Cov.cond_dec rfl (fun c32 => ?_) (fun c32 => ?_)
        · have r33 := ifT r31 c32; clear r31
          refine Cov.seq ?_
          refine Cov.region rfl ?_
          refine Cov.q .ro (.assign rfl) rfl ?_
          refine Cov.region_end ?_
          refine Cov.prune [(2, _)] ⟨rfl, trivial⟩ ?_
          cases r33
          refine Cov.drop 1 0 [] _ rfl rfl ?_
          refine Cov.retS (c := ⟨38, none⟩) (.inr ⟨_, rfl⟩) [.tmp 2] [_] rfl Try.func38 Try.results38 ⟨RV.tmp rfl, trivial⟩ (fun _ h => List.mem_cons_of_mem _ h) ⟨rfl, rfl, rfl⟩
        · have r34 := ifF r31 c32; clear r31
          refine Cov.skip ?_
          refine Cov.inBlock ?_
          refine Cov.region rfl ?_
          refine Cov.q .ro (.move rfl) rfl ?_
          refine Cov.q .ro (.addw rfl rfl) rfl ?_
          refine Cov.q .ro (.assign rfl) rfl ?_
          refine Cov.region_end ?_
          refine Cov.prune [(3, _), (1, _)] ⟨rfl, rfl, trivial⟩ ?_
          refine Cov.prune _ ?_ (Cov.same rfl rfl rfl (hb24 (m27, (w64 (v22 + 1))) r34 (Nat.lt_succ_self _)))
          exact ⟨rfl, rfl, trivial⟩
      · have r35 := ifF r26 c28; clear r26
        refine Cov.exit rfl ?_
        refine Cov.seq ?_
        refine Cov.region rfl ?_
        refine Cov.q .ro (.assign rfl) rfl ?_
        refine Cov.region_end ?_
        cases r35
        refine Cov.drop 1 0 [] _ rfl rfl ?_
        refine Cov.retS (c := ⟨38, none⟩) (.inr ⟨_, rfl⟩) [.tmp 2] [_] rfl Try.func38 Try.results38 ⟨RV.tmp rfl, trivial⟩ (fun _ h => List.mem_cons_of_mem _ h) ⟨rfl, rfl, rfl⟩
  · intro hb3
    refine Cov.split 7 rfl (fun c2 => ?_) (fun c2 => ?_)
    · refine Cov.g_off rfl rfl rfl ?_
      refine Cov.g_off rfl rfl rfl ?_
      refine Cov.g_off rfl rfl rfl ?_
      refine Cov.q .ro (.pick_t rfl rfl) rfl ?_
      refine Cov.prune _ ?_ (Cov.same rfl rfl rfl (hb3 () trivial))
      exact ⟨dor_t c2, rfl, trivial⟩
    · refine Cov.g_on rfl ?_
      refine Cov.q .ro (.fieldAddr 0 rfl fl24_0 ty3.sz rfl) rfl ?_
      refine Cov.g_on rfl ?_
      refine Cov.q .ro (.load_own 0 rfl rfl ty3 rfl) rfl ?_
      refine Cov.g_on rfl ?_
      refine Cov.q .ro (.gtr rfl rfl) rfl ?_
      refine Cov.q .ro (.pick_f rfl rfl) rfl ?_
      refine Cov.prune _ ?_ (Cov.same rfl rfl rfl (hb3 () trivial))
      exact ⟨dor_f c2, rfl, trivial⟩

set_option maxHeartbeats 4000000 in
set_option maxRecDepth 100000 in
theorem ref13_digits_c {Fs : List Hp} {G : Hp} {x0_0 : Int} {r : Int} (hG : G ∈ Fs)  (h : ref13_digits x0_0 = some r) : RetS Try.prog 39 #[.agg #[.int .i64 x0_0]] Fs [] [] (fun v bo so => v = .int .i64 r ∧ bo = [] ∧ so = []) := by
  unfold ref13_digits at h
  try dsimp only at h
  refine RetS.of (vs := [_]) Try.func39 rfl Try.ntmps39 [(0, _)] ⟨rfl, trivial⟩ rfl hG fun w0 S0 hS0 B0 => ?_
  refine Cov.seq ?_
  refine Cov.region rfl ?_
  refine Cov.box [_] .ro rfl rfl rfl (fun b1 hb1 => ?_)
  refine Cov.q .ro (.assign rfl) rfl ?_
  refine Cov.region_end ?_
  refine Cov.seq ?_
  refine Cov.region rfl ?_
  refine Cov.q .ro (.assign rfl) rfl ?_
  refine Cov.region_end ?_
  refine Cov.seq ?_
  refine Cov.seq ?_
  refine Cov.region rfl ?_
  refine Cov.q .ro (.assign rfl) rfl ?_
  refine Cov.region_end ?_
  refine Cov.block ?_
  refine Cov.loop2 (α := Nat × Int × Int) (fun y => [(3, .int .i64 y.2.1), (4, .int .i64 y.2.2)]) [(1, _)] (fun y => []) (fun y => []) [_] (fun y => []) [] (fun y => ref13_digits_L1 x0_0 y.1 y.2.1 y.2.2 = some r) (fun y => y.1) (big, 0, 1) h ⟨rfl, rfl, rfl, trivial⟩ rfl rfl rfl (fun y hI hb14 => ?_)
  obtain ⟨n9, v11, v12⟩ := y
  have r13 := hI; clear hI
  try dsimp only at r13
  refine Cov.prune [(3, .int .i64 v11), (4, .int .i64 v12), (1, _)] ⟨rfl, rfl, rfl, trivial⟩ ?_
  refine Cov.same (bl' := [_]) (sl' := []) (Fs' := G :: Fs) rfl rfl rfl ?_
  obtain ⟨m17, rfl⟩ : ∃ m, n9 = m + 1 := by cases n9 with | zero => exact absurd (show (none : Option _) = some _ from r13) (by simp) | succ m => exact ⟨m, rfl⟩
  have r16 : ref13_digits_B1 x0_0 (ref13_digits_L1 x0_0 m17) v11 v12 = some r := r13; clear r13; unfold ref13_digits_B1 at r16; try dsimp only at r16
  refine Cov.seq ?_
  refine Cov.seq ?_
  refine Cov.region rfl ?_
  refine Cov.q .ro (.move rfl) rfl ?_
  refine Cov.q .ro (.lss rfl rfl) rfl ?_
  refine Cov.region_end ?_
  refine Cov.cond_dec rfl (fun c18 => ?_) (fun c18 => ?_)
  · have r19 := ifT r16 c18; clear r16
    refine Cov.skip ?_
    refine Cov.seq ?_
    refine Cov.block ?_
    refine Cov.region rfl ?_
    refine Cov.q .ro (.move rfl) rfl ?_
    refine Cov.q .ro (.addw rfl rfl) rfl ?_
    refine Cov.q .ro (.assign rfl) rfl ?_
    refine Cov.region_end ?_
    refine Cov.inBlock ?_
    refine Cov.region rfl ?_
    refine Cov.q .ro (.move rfl) rfl ?_
    refine Cov.q .ro (.fieldAddr 0 rfl fl24_0 ty3.sz rfl) rfl ?_
    refine Cov.q .ro (.load_own 0 rfl rfl ty3 rfl) rfl ?_
    refine Cov.q .ro (.mulw rfl rfl) rfl ?_
    refine Cov.q .ro (.assign rfl) rfl ?_
    refine Cov.region_end ?_
    refine Cov.prune _ ?_ (Cov.same rfl rfl rfl (hb14 (m17, (w64 (v11 + 1)), (w64 (v12 * x0_0))) r19 (Nat.lt_succ_self _)))
    exact ⟨rfl, rfl, rfl, trivial⟩
  · have r20 := ifF r16 c18; clear r16
    refine Cov.exit rfl ?_
    refine Cov.seq ?_
    refine Cov.region rfl ?_
    refine Cov.q .ro (.move rfl) rfl ?_
    refine Cov.q .ro (.assign rfl) rfl ?_
    refine Cov.region_end ?_
    cases r20
    refine Cov.drop 1 0 [] _ rfl rfl ?_
    refine Cov.retS (c := ⟨39, none⟩) (.inr ⟨_, rfl⟩) [.tmp 2] [_] rfl Try.func39 Try.results39 ⟨RV.tmp rfl, trivial⟩ (fun _ h => List.mem_cons_of_mem _ h) ⟨rfl, rfl, rfl⟩

set_option maxHeartbeats 4000000 in
set_option maxRecDepth 100000 in
theorem ref13_need_c {Fs : List Hp} {G : Hp} {x0_0 : Int} {x1 : Int} {x2 : Int} {r : Int} (hG : G ∈ Fs)  (h : ref13_need x0_0 x1 x2 = some r) : RetS Try.prog 43 #[.agg #[.int .i64 x0_0], .int .i64 x1, .int .i64 x2] Fs [] [] (fun v bo so => v = .int .i64 r ∧ bo = [] ∧ so = []) := by
  unfold ref13_need at h
  try dsimp only at h
  refine RetS.of (vs := [_, _, _]) Try.func43 rfl Try.ntmps43 [(0, _), (1, _), (2, _)] ⟨rfl, rfl, rfl, trivial⟩ rfl hG fun w0 S0 hS0 B0 => ?_
  refine Cov.seq ?_
  refine Cov.region rfl ?_
  refine Cov.box [_] .ro rfl rfl rfl (fun b1 hb1 => ?_)
  refine Cov.q .ro (.assign rfl) rfl ?_
  refine Cov.region_end ?_
  refine Cov.seq ?_
  refine Cov.region rfl ?_
  refine Cov.q .ro (.move rfl) rfl ?_
  refine Cov.q .ro (.load_own_a 0 [_] rfl rfl ty24 rfl) rfl ?_
  obtain ⟨u2, hu2, r3⟩ := bind_some h; clear h
  refine Cov.callS (b1 := []) (b2 := [_]) (s1 := []) [_] [] .ro rfl rfl Try.call39 rfl rfl (ref13_digits_c (G := G) List.mem_cons_self  hu2) rfl (fun v5 bo so h4 => ?_)
  obtain ⟨rfl, rfl, rfl⟩ := h4
  refine Cov.same (bl' := [_]) (sl' := []) rfl rfl rfl ?_
  refine Cov.q .ro (.mulw rfl rfl) rfl ?_
  refine Cov.q .ro (.move rfl) rfl ?_
  refine Cov.q .ro (.addw rfl rfl) rfl ?_
  refine Cov.q .ro (.subw rfl rfl) rfl ?_
  refine Cov.q .ro (.move rfl) rfl ?_
  obtain ⟨u6, hu6, r7⟩ := bind_some r3; clear r3
  refine Cov.q .ro (.quow rfl rfl (nz_some hu6)) rfl ?_
  refine Cov.q .ro (.max2 rfl rfl) rfl ?_
  refine Cov.q .ro (.assign rfl) rfl ?_
  refine Cov.region_end ?_
  refine Cov.prune [(6, _)] ⟨rfl, trivial⟩ ?_
  cases r7
  refine Cov.drop 1 0 [] _ rfl rfl ?_
  refine Cov.retS (c := ⟨43, none⟩) (.inr ⟨_, rfl⟩) [.tmp 6] [_] rfl Try.func43 Try.results43 ⟨RV.tmp rfl, trivial⟩ (fun _ h => List.mem_cons_of_mem _ h) ⟨rfl, rfl, rfl⟩

set_option maxHeartbeats 4000000 in
set_option maxRecDepth 100000 in
theorem ref13_Encode_c {Fs : List Hp} {G : Hp} {x0_0 : Int} {x1 : Int} {a2 : Option Addr} {k2 : Nat} {x2 : List ByteArray} {r : ((List (List Int)) × (Int × (List (Int × Int × Int))) × Int)} (hG : G ∈ Fs) (s2 : SlR Rep.str G a2 k2 x2) (h : ref13_Encode x0_0 x1 x2 = some r) : RetW Try.prog 20 #[.agg #[.int .i64 x0_0], .int .i64 x1, .slice a2 x2.length k2] Fs [] [] (fun v bo so G => ∃ a0 : Option Addr, ∃ k0 : Nat, ∃ a1 : Option Addr, ∃ k1 : Nat, v = .tuple #[.slice a0 r.1.length k0, .agg #[.int .i64 r.2.1.1, .slice a1 r.2.1.2.length k1], .int .i64 r.2.2] ∧ bo = [] ∧ so = [] ∧ SlR (Rep.sl (Rep.int .i64)) G a0 k0 r.1 ∧ SlR (Rep.pair (Rep.int .i64) (Rep.pair (Rep.int .i64) (Rep.int .i64))) G a1 k1 r.2.1.2) := by
  unfold ref13_Encode at h
  try dsimp only at h
  refine RetW.of (vs := [_, _, _]) Try.func20 rfl Try.ntmps20 [(0, _), (1, _), (2, _)] ⟨rfl, rfl, rfl, trivial⟩ rfl hG fun w0 S0 hS0 B0 => ?_
  refine Cov.seq ?_
  refine Cov.region rfl ?_
  refine Cov.box [_] .ro rfl rfl rfl (fun b1 hb1 => ?_)
  refine Cov.q .ro (.assign rfl) rfl ?_
  refine Cov.alloc .ro ty34 rfl (fun b2 hb2 => ?_)
  refine Cov.q .ro (.assign rfl) rfl ?_
  refine Cov.region_end ?_
  refine Cov.seq ?_
  refine Cov.seq ?_
  refine Cov.region rfl ?_
  refine Cov.q .ro (.load_own_a 1 [_] rfl rfl ty24 rfl) rfl ?_
  obtain ⟨u3, hu3, r4⟩ := bind_some h; clear h
  refine Cov.callS (b1 := []) (b2 := [_, _]) (s1 := []) [_] [] .ro rfl rfl Try.call38 rfl rfl (ref03_Check_c (G := G) List.mem_cons_self  hu3) rfl (fun v6 bo so h5 => ?_)
  obtain ⟨rfl, rfl, rfl⟩ := h5
  refine Cov.same (bl' := [_, _]) (sl' := []) rfl rfl rfl ?_
  refine Cov.q .ro (.assign rfl) rfl ?_
  refine Cov.region_end ?_
  refine Cov.seq ?_
  refine Cov.region rfl ?_
  refine Cov.q .ro (.move rfl) rfl ?_
  refine Cov.q .ro (.neq rfl rfl) rfl ?_
  refine Cov.region_end ?_
  refine Cov.cond_dec rfl (fun c7 => ?_) (fun c7 => ?_)
  · have r8 := ifT r4 c7; clear r4
    refine Cov.seq ?_
    refine Cov.region rfl ?_
    refine Cov.q .ro (.build [_, _] [] ty34 pl34 rfl rfl) rfl ?_
    refine Cov.q .ro (.move rfl) rfl ?_
    refine Cov.q .ro (.assign rfl) rfl ?_
    refine Cov.store 0 [_, _] [_, _] .ro rfl rfl rfl ty34 rfl rfl rfl rfl ?_
    refine Cov.q .ro (.assign rfl) rfl ?_
    refine Cov.region_end ?_
    cases r8
    refine Cov.retWD 2 (c := ⟨20, none⟩) (.inr ⟨_, rfl⟩) [.tmp 6, .cell 7 34, .tmp 8] [_, _, _] rfl Try.func20 Try.results20 ⟨RV.tmp rfl, RV.cell_a 0 [_, _] rfl rfl ty34 rfl, RV.tmp rfl, trivial⟩ (fun _ h => List.mem_cons_of_mem _ h) List.mem_cons_self B0 (by subst hS0; simp [blks]) (fun G' hg => ⟨none, 0, none, 0, rfl, rfl, rfl, (SlR.mono hg (SlR.nil (Rp' := (Rep.sl (Rep.int .i64))))), (SlR.mono hg (SlR.nil (Rp' := (Rep.pair (Rep.int .i64) (Rep.pair (Rep.int .i64) (Rep.int .i64))))))⟩)
  · have r9 := ifF r4 c7; clear r4
    refine Cov.skip ?_
    refine Cov.seq ?_
    refine Cov.seq ?_
    refine Cov.region rfl ?_
    refine Cov.q .ro (.move rfl) rfl ?_
    refine Cov.q .ro (.lss rfl rfl) rfl ?_
    refine Cov.q .ro (.move rfl) rfl ?_
    refine Cov.cutR 3 (β := Unit) (fun y => [(33, .bool (decide ((x1 < 1) ∨ (64 < x1))))]) [(1, _), (2, _), (3, _), (7, _)] (fun y => G :: Fs) (fun y => []) [_, _] (fun y => []) [] (fun y => True) ⟨rfl, rfl, rfl, rfl, trivial⟩ [0, 1] rfl [] rfl ?_ ?_
    · rintro _ _
      refine Cov.prune [(33, .bool (decide ((x1 < 1) ∨ (64 < x1)))), (1, _), (2, _), (3, _), (7, _)] ⟨rfl, rfl, rfl, rfl, rfl, trivial⟩ ?_
      refine Cov.same (bl' := [_, _]) (sl' := []) (Fs' := G :: Fs) rfl rfl rfl ?_
      refine Cov.region_end ?_
      refine Cov.cond_dec rfl (fun c14 => ?_) (fun c14 => ?_)
      · have r15 := ifT r9 c14; clear r9
        refine Cov.seq ?_
        refine Cov.region rfl ?_
        refine Cov.q .ro (.build [_, _] [] ty34 pl34 rfl rfl) rfl ?_
        refine Cov.q .ro (.assign rfl) rfl ?_
        refine Cov.store 0 [_, _] [_, _] .ro rfl rfl rfl ty34 rfl rfl rfl rfl ?_
        refine Cov.q .ro (.assign rfl) rfl ?_
        refine Cov.region_end ?_
        cases r15
        refine Cov.retWD 2 (c := ⟨20, none⟩) (.inr ⟨_, rfl⟩) [.tmp 6, .cell 7 34, .tmp 8] [_, _, _] rfl Try.func20 Try.results20 ⟨RV.tmp rfl, RV.cell_a 0 [_, _] rfl rfl ty34 rfl, RV.tmp rfl, trivial⟩ (fun _ h => List.mem_cons_of_mem _ h) List.mem_cons_self B0 (by subst hS0; simp [blks]) (fun G' hg => ⟨none, 0, none, 0, rfl, rfl, rfl, (SlR.mono hg (SlR.nil (Rp' := (Rep.sl (Rep.int .i64))))), (SlR.mono hg (SlR.nil (Rp' := (Rep.pair (Rep.int .i64) (Rep.pair (Rep.int .i64) (Rep.int .i64))))))⟩)
      · have r16 := ifF r9 c14; clear r9
        refine Cov.skip ?_
        refine Cov.seq ?_
        refine Cov.seq ?_
        refine Cov.region rfl ?_
        refine Cov.q .ro (.move rfl) rfl ?_
        refine Cov.q .ro (.len_sl rfl rfl sl25) rfl ?_
        refine Cov.q .ro (.gtr rfl rfl) rfl ?_
        refine Cov.region_end ?_
        refine Cov.cond_dec rfl (fun c17 => ?_) (fun c17 => ?_)
        · have r18 := ifT r16 c17; clear r16
          refine Cov.seq ?_
          refine Cov.region rfl ?_
          refine Cov.q .ro (.build [_, _] [] ty34 pl34 rfl rfl) rfl ?_
          refine Cov.q .ro (.assign rfl) rfl ?_
          refine Cov.store 0 [_, _] [_, _] .ro rfl rfl rfl ty34 rfl rfl rfl rfl ?_
          refine Cov.q .ro (.assign rfl) rfl ?_
          refine Cov.region_end ?_
          cases r18
          refine Cov.retWD 2 (c := ⟨20, none⟩) (.inr ⟨_, rfl⟩) [.tmp 6, .cell 7 34, .tmp 8] [_, _, _] rfl Try.func20 Try.results20 ⟨RV.tmp rfl, RV.cell_a 0 [_, _] rfl rfl ty34 rfl, RV.tmp rfl, trivial⟩ (fun _ h => List.mem_cons_of_mem _ h) List.mem_cons_self B0 (by subst hS0; simp [blks]) (fun G' hg => ⟨none, 0, none, 0, rfl, rfl, rfl, (SlR.mono hg (SlR.nil (Rp' := (Rep.sl (Rep.int .i64))))), (SlR.mono hg (SlR.nil (Rp' := (Rep.pair (Rep.int .i64) (Rep.pair (Rep.int .i64) (Rep.int .i64))))))⟩)
        · have r19 := ifF r16 c17; clear r16
          refine Cov.skip ?_
          refine Cov.seq ?_
          refine Cov.region rfl ?_
          refine Cov.q .ro (.assign rfl) rfl ?_
          refine Cov.region_end ?_
          refine Cov.seq ?_
          refine Cov.seq ?_
          refine Cov.region rfl ?_
          refine Cov.q .ro (.move rfl) rfl ?_
          refine Cov.q .ro (.len_sl rfl rfl sl25) rfl ?_
          refine Cov.q .ro (.move rfl) rfl ?_
          refine Cov.region_end ?_
          refine Cov.cutB (β := Int × Int × Int) (fun y => [(10, .int .i64 y.1)]) [(1, _), (2, _), (3, _), (7, _)] (fun y => G :: Fs) (fun y => [(b2, .cells #[.int .i64 y.2.1, .slice none 0 0] 34 (0, 0)), (b1, .cells #[.int .i64 y.2.2] 24 (0, 0))]) [] (fun y => []) [] (fun y => (ref13_Encode_J9 x1 x2) y.1 y.2.1 y.2.2 = some r) ⟨rfl, rfl, rfl, rfl, trivial⟩ [] rfl [] rfl ?_ ?_
          · intro y hI
            obtain ⟨v64, v65, v66⟩ := y
            have r68 := hI; clear hI
            try dsimp only at r68
            refine Cov.prune [(10, .int .i64 v64), (1, _), (2, _), (3, _), (7, _)] ⟨rfl, rfl, rfl, rfl, rfl, trivial⟩ ?_
            refine Cov.same (bl' := [(b2, .cells #[.int .i64 v65, .slice none 0 0] 34 (0, 0)), (b1, .cells #[.int .i64 v66] 24 (0, 0))]) (sl' := []) (Fs' := G :: Fs) rfl rfl rfl ?_
            unfold ref13_Encode_J9 at r68
            try dsimp only at r68
            refine Cov.seq ?_
            refine Cov.seq ?_
            refine Cov.region rfl ?_
            refine Cov.q .ro (.move rfl) rfl ?_
            refine Cov.q .ro (.gtr rfl rfl) rfl ?_
            refine Cov.region_end ?_
            refine Cov.cond_dec rfl (fun c71 => ?_) (fun c71 => ?_)
            · have r72 := ifT r68 c71; clear r68
              refine Cov.seq ?_
              refine Cov.region rfl ?_
              refine Cov.q .ro (.build [_, _] [] ty34 pl34 rfl rfl) rfl ?_
              refine Cov.q .ro (.assign rfl) rfl ?_
              refine Cov.store 0 [_, _] [_, _] .ro rfl rfl rfl ty34 rfl rfl rfl rfl ?_
              refine Cov.q .ro (.assign rfl) rfl ?_
              refine Cov.region_end ?_
              cases r72
              refine Cov.retWD 2 (c := ⟨20, none⟩) (.inr ⟨_, rfl⟩) [.tmp 6, .cell 7 34, .tmp 8] [_, _, _] rfl Try.func20 Try.results20 ⟨RV.tmp rfl, RV.cell_a 0 [_, _] rfl rfl ty34 rfl, RV.tmp rfl, trivial⟩ (fun _ h => List.mem_cons_of_mem _ h) List.mem_cons_self B0 (by subst hS0; simp [blks]) (fun G' hg => ⟨none, 0, none, 0, rfl, rfl, rfl, (SlR.mono hg (SlR.nil (Rp' := (Rep.sl (Rep.int .i64))))), (SlR.mono hg (SlR.nil (Rp' := (Rep.pair (Rep.int .i64) (Rep.pair (Rep.int .i64) (Rep.int .i64))))))⟩)
            · have r73 := ifF r68 c71; clear r68
              refine Cov.skip ?_
              refine Cov.seq ?_
              refine Cov.region rfl ?_
              refine Cov.q .ro (.assign rfl) rfl ?_
              refine Cov.region_end ?_
              refine Cov.seq ?_
              refine Cov.region rfl ?_
              refine Cov.q .ro (.move rfl) rfl ?_
              refine Cov.q .ro (.build [_, _] [(0, _)] ty34 pl34 rfl rfl) rfl ?_
              refine Cov.alloc .ro ty34 rfl (fun b74 hb74 => ?_)
              refine Cov.store 0 [_, _] [_, _, _] .ro rfl rfl rfl ty34 rfl rfl rfl rfl ?_
              refine Cov.region_end ?_
              refine Cov.seq ?_
              refine Cov.seq ?_
              refine Cov.region rfl ?_
              refine Cov.q .ro (.move rfl) rfl ?_
              refine Cov.q .ro (.len_sl rfl rfl sl25) rfl ?_
              refine Cov.q .ro (.move rfl) rfl ?_
              refine Cov.region_end ?_
              refine Cov.cutB (β := Hp × List (List Int) × Option Addr × Nat × List Value × Int × (List (Int × Int × Int)) × Option Addr × Nat × List Value × Int × Int) (fun y => [(13, .slice y.2.2.1 y.2.1.length y.2.2.2.1)]) [(7, _), (14, _)] (fun y => y.1 :: Fs) (fun y => [(b74, .cells #[.int .i64 y.2.2.2.2.2.1, .slice y.2.2.2.2.2.2.2.1 y.2.2.2.2.2.2.1.length y.2.2.2.2.2.2.2.2.1] 34 (0, 0)), (b2, .cells #[.int .i64 y.2.2.2.2.2.2.2.2.2.2.1, .slice none 0 0] 34 (0, 0)), (b1, .cells #[.int .i64 y.2.2.2.2.2.2.2.2.2.2.2] 24 (0, 0))]) [] (fun y => [.s (.slice y.2.2.1 y.2.1.length y.2.2.2.1) 22 1 y.2.1.length y.2.2.2.2.1, .s (.slice y.2.2.2.2.2.2.2.1 y.2.2.2.2.2.2.1.length y.2.2.2.2.2.2.2.2.1) 56 3 y.2.2.2.2.2.2.1.length y.2.2.2.2.2.2.2.2.2.1]) [] (fun y => HpLe G y.1 ∧ Bd w0 S0 Fs y.1 ∧ OL (Rep.sl (Rep.int .i64)) y.1 y.2.2.2.2.1 y.2.1 ∧ OL (Rep.pair (Rep.int .i64) (Rep.pair (Rep.int .i64) (Rep.int .i64))) y.1 y.2.2.2.2.2.2.2.2.2.1 y.2.2.2.2.2.2.1 ∧ ref13_Encode_J1 y.2.1 y.2.2.2.2.2.1 y.2.2.2.2.2.2.1 y.2.2.2.2.2.2.2.2.2.2.1 y.2.2.2.2.2.2.2.2.2.2.2 = some r) ⟨rfl, rfl, trivial⟩ [] rfl [] rfl ?_ ?_
              · intro y hI
                obtain ⟨G2216, v2220, a2221, k2222, cs2223, v2226, v2227, a2228, k2229, cs2230, v2233, v2234⟩ := y
                obtain ⟨e2217, B2218, o2224, o2231, r2236⟩ := hI
                try dsimp only at e2217 B2218 o2224 o2231 r2236
                refine Cov.prune [(13, .slice a2221 v2220.length k2222), (7, _), (14, _)] ⟨rfl, rfl, rfl, trivial⟩ ?_
                refine Cov.same (bl' := [(b74, .cells #[.int .i64 v2226, .slice a2228 v2227.length k2229] 34 (0, 0)), (b2, .cells #[.int .i64 v2233, .slice none 0 0] 34 (0, 0)), (b1, .cells #[.int .i64 v2234] 24 (0, 0))]) (sl' := [.s (.slice a2221 v2220.length k2222) 22 1 v2220.length cs2223, .s (.slice a2228 v2227.length k2229) 56 3 v2227.length cs2230]) (Fs' := G2216 :: Fs) rfl rfl rfl ?_
                unfold ref13_Encode_J1 at r2236
                try dsimp only at r2236
                refine Cov.seq ?_
                refine Cov.freezeR 0 rfl rfl o2224 [_] rfl B2218 (fun G2237 e2238 B2239 s2240 => ?_)
                refine Cov.drawL (.q 0 (.q 1 (.q 2 (.e 3 1 (.q 4 .nil))))) [_, _] (by kernel_rfl) (by kernel_rfl) (pick_mem [0, 2] rfl) ?_
                refine Cov.dq (.move rfl) rfl ?_
                refine Cov.dq (.load_own_a 0 [_, _] rfl rfl ty34 rfl) rfl ?_
                refine Cov.dq (.assign rfl) rfl ?_
                refine Cov.store 1 [_, _] [_, _, _] .d1 rfl rfl rfl ty34 rfl rfl rfl rfl ?_
                refine Cov.clsL (HpLe.refl _) (pick_mem [0, 2] rfl) ?_
                refine Cov.dq (.assign rfl) rfl ?_
                refine Cov.draw_end ?_
                refine Cov.freezeR 0 rfl rfl (OL.mono e2238 o2231) [] rfl B2239 (fun G2242 e2243 B2244 s2245 => ?_)
                cases r2236
                refine Cov.retWD 3 (c := ⟨20, none⟩) (.inr ⟨_, rfl⟩) [.tmp 6, .cell 7 34, .tmp 8] [_, _, _] rfl Try.func20 Try.results20 ⟨RV.tmp rfl, RV.cell_a 1 [_, _] rfl rfl ty34 rfl, RV.tmp rfl, trivial⟩ (fun _ h => List.mem_cons_of_mem _ h) List.mem_cons_self B2244 (by subst hS0; simp [blks]) (fun G' hg => ⟨a2221, k2222, a2228, k2229, rfl, rfl, rfl, (SlR.mono hg (SlR.mono e2243 s2240)), (SlR.mono hg s2245)⟩)
              · intro hb2247
                refine Cov.block ?_
                refine Cov.own_nil 22 1 ?_
                refine Cov.own_nil 56 3 ?_
                refine Cov.pull 2 rfl [_, _, _] rfl ?_
                refine Cov.pull 2 rfl [_, _, _] rfl ?_
                refine Cov.pull 2 rfl [_, _, _] rfl ?_
                refine Cov.pullS 1 rfl [_, _] rfl ?_
                refine Cov.loop2 (α := Nat × List ByteArray × Hp × List (List Int) × Option Addr × Nat × List Value × Int × (List (Int × Int × Int)) × Option Addr × Nat × List Value × Int × Int) (fun y => [(13, .slice y.2.2.2.2.1 y.2.2.2.1.length y.2.2.2.2.2.1), (64, .int .i64 (y.1 : Int))]) [(1, _), (3, _), (7, _), (14, _), (62, _), (63, _)] (fun y => [y.2.2.1]) (fun y => [(b74, .cells #[.int .i64 y.2.2.2.2.2.2.2.1, .slice y.2.2.2.2.2.2.2.2.2.1 y.2.2.2.2.2.2.2.2.1.length y.2.2.2.2.2.2.2.2.2.2.1] 34 (0, 0)), (b2, .cells #[.int .i64 y.2.2.2.2.2.2.2.2.2.2.2.2.1, .slice none 0 0] 34 (0, 0)), (b1, .cells #[.int .i64 y.2.2.2.2.2.2.2.2.2.2.2.2.2] 24 (0, 0))]) [] (fun y => [.s (.slice y.2.2.2.2.1 y.2.2.2.1.length y.2.2.2.2.2.1) 22 1 y.2.2.2.1.length y.2.2.2.2.2.2.1, .s (.slice y.2.2.2.2.2.2.2.2.2.1 y.2.2.2.2.2.2.2.2.1.length y.2.2.2.2.2.2.2.2.2.2.1) 56 3 y.2.2.2.2.2.2.2.2.1.length y.2.2.2.2.2.2.2.2.2.2.2.1]) [] (fun y => HpLe G y.2.2.1 ∧ Bd w0 S0 Fs y.2.2.1 ∧ OL (Rep.sl (Rep.int .i64)) y.2.2.1 y.2.2.2.2.2.2.1 y.2.2.2.1 ∧ OL (Rep.pair (Rep.int .i64) (Rep.pair (Rep.int .i64) (Rep.int .i64))) y.2.2.1 y.2.2.2.2.2.2.2.2.2.2.2.1 y.2.2.2.2.2.2.2.2.1 ∧ List.drop y.1 x2 = y.2.1 ∧ ref13_Encode_L8 ref13_Encode_J1 x1 y.2.1 y.2.2.2.1 y.2.2.2.2.2.2.2.1 y.2.2.2.2.2.2.2.2.1 y.2.2.2.2.2.2.2.2.2.2.2.2.1 y.2.2.2.2.2.2.2.2.2.2.2.2.2 = some r) (fun y => y.2.1.length) (0, x2, G, ([] : List (List Int)), none, 0, [], x1, ([] : List (Int × Int × Int)), none, 0, [], v65, v66) ⟨(HpLe.refl _), B0, (OL.nil (Rp' := (Rep.sl (Rep.int .i64)))), (OL.nil (Rp' := (Rep.pair (Rep.int .i64) (Rep.pair (Rep.int .i64) (Rep.int .i64))))), rfl, r73⟩ ⟨rfl, rfl, rfl, rfl, rfl, rfl, rfl, rfl, trivial⟩ rfl rfl rfl (fun y hI hb3671 => ?_)
                obtain ⟨i3648, w3649, G3651, v3655, a3656, k3657, cs3658, v3661, v3662, a3663, k3664, cs3665, v3668, v3669⟩ := y
                obtain ⟨e3652, B3653, o3659, o3666, g3650, r3670⟩ := hI
                try dsimp only at e3652 B3653 o3659 o3666 g3650 r3670
                refine Cov.prune [(13, .slice a3656 v3655.length k3657), (64, .int .i64 (i3648 : Int)), (1, _), (3, _), (7, _), (14, _), (62, _), (63, _)] ⟨rfl, rfl, rfl, rfl, rfl, rfl, rfl, rfl, trivial⟩ ?_
                refine Cov.same (bl' := [(b74, .cells #[.int .i64 v3661, .slice a3663 v3662.length k3664] 34 (0, 0)), (b2, .cells #[.int .i64 v3668, .slice none 0 0] 34 (0, 0)), (b1, .cells #[.int .i64 v3669] 24 (0, 0))]) (sl' := [.s (.slice a3656 v3655.length k3657) 22 1 v3655.length cs3658, .s (.slice a3663 v3662.length k3664) 56 3 v3662.length cs3665]) (Fs' := G3651 :: Fs) rfl rfl rfl ?_
                cases w3649 with
                | nil =>
                  rw [ref13_Encode_L8] at r3670; try dsimp only at r3670
                  refine Cov.seq ?_
                  refine Cov.region rfl ?_
                  refine Cov.q .ro (.lss rfl rfl) rfl ?_
                  refine Cov.region_end ?_
                  refine Cov.seq ?_
                  refine Cov.cond_dec rfl (fun c => absurd c (drop_nil g3650)) (fun _ => ?_)
                  refine Cov.exit rfl ?_
                  refine Cov.prune _ ?_ (Cov.same rfl rfl rfl (hb2247 (G3651, v3655, a3656, k3657, cs3658, v3661, v3662, a3663, k3664, cs3665, v3668, v3669) ⟨e3652, B3653, o3659, o3666, r3670⟩))
                  exact ⟨rfl, rfl, rfl, trivial⟩
                | cons x3676 xs3677 =>
                  have r3675 : ref13_Encode_B8 ref13_Encode_J1 x1 (ref13_Encode_L8 ref13_Encode_J1 x1 xs3677) x3676 v3655 v3661 v3662 v3668 v3669 = some r := r3670; clear r3670; unfold ref13_Encode_B8 at r3675; try dsimp only at r3675
                  refine Cov.seq ?_
                  refine Cov.region rfl ?_
                  refine Cov.q .ro (.lss rfl rfl) rfl ?_
                  refine Cov.region_end ?_
                  refine Cov.seq ?_
                  refine Cov.cond_dec rfl (fun _ => ?_) (fun c => absurd (drop_lt g3650) c)
                  refine Cov.skip ?_
                  refine Cov.seq ?_
                  refine Cov.block ?_
                  refine Cov.seq ?_
                  refine Cov.region rfl ?_
                  obtain ⟨c3678, p3679, h3680⟩ := SlR.get (SlR.mono e3652 s2) (drop_idx g3650)
                  obtain rfl := h3680
                  refine Cov.q .ro (.idxR (SlR.mono e3652 s2) rfl rfl (drop_idx g3650) sl25 ty9.sz) rfl ?_
                  refine Cov.q .ro (.load_rp p3679 List.mem_cons_self rfl ty9 rfl) rfl ?_
                  refine Cov.q .ro (.assign rfl) rfl ?_
                  refine Cov.region_end ?_
                  refine Cov.seq ?_
                  refine Cov.region rfl ?_
                  refine Cov.q .ro (.load_own_a 2 [_] rfl rfl ty24 rfl) rfl ?_
                  refine Cov.q .ro (.move rfl) rfl ?_
                  refine Cov.q .ro (.move rfl) rfl ?_
                  refine Cov.q .ro (.len_s rfl Try.underlying9) rfl ?_
                  obtain ⟨u3681, hu3681, r3682⟩ := bind_some r3675; clear r3675
                  refine Cov.callS (b1 := []) (b2 := [_, _, _]) (s1 := []) [_, _, _] [] .ro rfl rfl Try.call43 rfl rfl (ref13_need_c (G := G3651) List.mem_cons_self  hu3681) rfl (fun v3684 bo so h3683 => ?_)
                  obtain ⟨rfl, rfl, rfl⟩ := h3683
                  refine Cov.same (bl' := [_, _, _]) (sl' := [_, _]) rfl rfl rfl ?_
                  refine Cov.q .ro (.assign rfl) rfl ?_
                  refine Cov.region_end ?_
                  refine Cov.seq ?_
                  refine Cov.region rfl ?_
                  refine Cov.q .ro (.move rfl) rfl ?_
                  refine Cov.q .ro (.move rfl) rfl ?_
                  refine Cov.q .ro (.mulw rfl rfl) rfl ?_
                  obtain ⟨u3685, hu3685, r3686⟩ := bind_some r3682; clear r3682
                  refine Cov.makeC (G := G3651) (Q := (Rep.int .i64)) .ro sl22 ty3 rfl rfl hu3685 rfl rfl (fun b3687 cs3688 hb3687 o3689 => ?_)
                  refine Cov.q .ro (.assign rfl) rfl ?_
                  refine Cov.region_end ?_
                  refine Cov.seq ?_
                  refine Cov.seq ?_
                  refine Cov.region rfl ?_
                  refine Cov.q .ro (.assign rfl) rfl ?_
                  refine Cov.region_end ?_
                  refine Cov.cutB (β := List Int × Option Addr × Nat × List Value × Int × Int × Int) (fun y => [(18, .slice y.2.1 y.1.length y.2.2.1)]) [(13, _), (64, _), (1, _), (3, _), (7, _), (14, _), (62, _), (63, _), (16, _), (17, _)] (fun y => G3651 :: Fs) (fun y => [(b74, .cells #[.int .i64 y.2.2.2.2.1, .slice a3663 v3662.length k3664] 34 (0, 0)), (b2, .cells #[.int .i64 y.2.2.2.2.2.1, .slice none 0 0] 34 (0, 0)), (b1, .cells #[.int .i64 y.2.2.2.2.2.2] 24 (0, 0))]) [] (fun y => [.s (.slice y.2.1 y.1.length y.2.2.1) 3 1 y.1.length y.2.2.2.1]) [_, _] (fun y => OL (Rep.int .i64) G3651 y.2.2.2.1 y.1 ∧ (ref13_Encode_J5 (ref13_Encode_L8 ref13_Encode_J1 x1 xs3677) x1 x3676 u3681 v3655 v3662) y.1 y.2.2.2.2.1 y.2.2.2.2.2.1 y.2.2.2.2.2.2 = some r) ⟨rfl, rfl, rfl, rfl, rfl, rfl, rfl, rfl, rfl, rfl, trivial⟩ [] rfl [1, 2] rfl ?_ ?_
                  · intro y hI
                    obtain ⟨v3884, a3885, k3886, cs3887, v3890, v3891, v3892⟩ := y
                    obtain ⟨o3888, r3894⟩ := hI
                    try dsimp only at o3888 r3894
                    refine Cov.prune [(18, .slice a3885 v3884.length k3886), (13, _), (64, _), (1, _), (3, _), (7, _), (14, _), (62, _), (63, _), (16, _), (17, _)] ⟨rfl, rfl, rfl, rfl, rfl, rfl, rfl, rfl, rfl, rfl, rfl, trivial⟩ ?_
                    refine Cov.same (bl' := [(b74, .cells #[.int .i64 v3890, .slice a3663 v3662.length k3664] 34 (0, 0)), (b2, .cells #[.int .i64 v3891, .slice none 0 0] 34 (0, 0)), (b1, .cells #[.int .i64 v3892] 24 (0, 0))]) (sl' := [.s (.slice a3885 v3884.length k3886) 3 1 v3884.length cs3887, _, _]) (Fs' := G3651 :: Fs) rfl rfl rfl ?_
                    unfold ref13_Encode_J5 at r3894
                    try dsimp only at r3894
                    refine Cov.seq ?_
                    refine Cov.cutB (β := List Int × Option Addr × Nat × List Value × Int × Int × Int) (fun y => [(18, .slice y.2.1 y.1.length y.2.2.1)]) [(13, _), (64, _), (1, _), (3, _), (7, _), (14, _), (62, _), (63, _), (16, _), (17, _)] (fun y => G3651 :: Fs) (fun y => [(b74, .cells #[.int .i64 y.2.2.2.2.1, .slice a3663 v3662.length k3664] 34 (0, 0)), (b2, .cells #[.int .i64 y.2.2.2.2.2.1, .slice none 0 0] 34 (0, 0)), (b1, .cells #[.int .i64 y.2.2.2.2.2.2] 24 (0, 0))]) [] (fun y => [.s (.slice y.2.1 y.1.length y.2.2.1) 3 1 y.1.length y.2.2.2.1]) [_, _] (fun y => OL (Rep.int .i64) G3651 y.2.2.2.1 y.1 ∧ (ref13_Encode_J3 (ref13_Encode_L8 ref13_Encode_J1 x1 xs3677) x1 x3676 u3681 v3655 v3662) y.1 y.2.2.2.2.1 y.2.2.2.2.2.1 y.2.2.2.2.2.2 = some r) ⟨rfl, rfl, rfl, rfl, rfl, rfl, rfl, rfl, rfl, rfl, trivial⟩ [] rfl [1, 2] rfl ?_ ?_
                    · intro y hI
                      obtain ⟨v3960, a3961, k3962, cs3963, v3966, v3967, v3968⟩ := y
                      obtain ⟨o3964, r3970⟩ := hI
                      try dsimp only at o3964 r3970
                      refine Cov.prune [(18, .slice a3961 v3960.length k3962), (13, _), (64, _), (1, _), (3, _), (7, _), (14, _), (62, _), (63, _), (16, _), (17, _)] ⟨rfl, rfl, rfl, rfl, rfl, rfl, rfl, rfl, rfl, rfl, rfl, trivial⟩ ?_
                      refine Cov.same (bl' := [(b74, .cells #[.int .i64 v3966, .slice a3663 v3662.length k3664] 34 (0, 0)), (b2, .cells #[.int .i64 v3967, .slice none 0 0] 34 (0, 0)), (b1, .cells #[.int .i64 v3968] 24 (0, 0))]) (sl' := [.s (.slice a3961 v3960.length k3962) 3 1 v3960.length cs3963, _, _]) (Fs' := G3651 :: Fs) rfl rfl rfl ?_
                      unfold ref13_Encode_J3 at r3970
                      try dsimp only at r3970
                      refine Cov.seq ?_
                      refine Cov.region rfl ?_
                      refine Cov.q .ro (.fieldAddr 1 rfl fl34_1 ty32.sz rfl) rfl ?_
                      refine Cov.q .ro (.load_own 0 rfl rfl ty32 rfl) rfl ?_
                      refine Cov.q .ro (.move rfl) rfl ?_
                      refine Cov.q .ro (.len_sl rfl rfl sl26) rfl ?_
                      refine Cov.q .ro (.move rfl) rfl ?_
                      refine Cov.q .ro (.move rfl) rfl ?_
                      refine Cov.q .ro (.len_s rfl Try.underlying9) rfl ?_
                      refine Cov.q .ro (.build [_, _, _] [(0, _), (1, _), (2, _)] ty56 pl56 rfl rfl) rfl ?_
                      refine Cov.lit [_, _, _] [(0, _)] .ro sl32 ty56 rfl rfl rfl rfl rfl rfl (fun b3979 hb3979 => ?_)
                      have o3980 : OL (Rep.pair (Rep.int .i64) (Rep.pair (Rep.int .i64) (Rep.int .i64))) G3651 [.int .i64 (v3655.length : Int), .int .i64 u3681, .int .i64 (x3676.size : Int)] ([((v3655.length : Int), u3681, (x3676.size : Int))] : List (Int × Int × Int)) := ((OL.cons rfl (Rep.pairI (Rep.intI .i64 (v3655.length : Int)) (Rep.pairI (Rep.intI .i64 u3681) (Rep.intI .i64 (x3676.size : Int)))) (OL.nil (Rp' := (Rep.pair (Rep.int .i64) (Rep.pair (Rep.int .i64) (Rep.int .i64)))))) :)
                      refine Cov.reval 120 (n' := ([((v3655.length : Int), u3681, (x3676.size : Int))] : List (Int × Int × Int)).length) rfl rfl ?_
                      obtain ⟨u3986, hu3986, r3987⟩ := bind_some r3970; clear r3970
                      refine Cov.appO (Q := (Rep.pair (Rep.int .i64) (Rep.pair (Rep.int .i64) (Rep.int .i64)))) 2 .ro sl32 ty56 rfl rfl rfl rfl rfl rfl o3666 o3980 rfl rfl rfl B3653 hu3986 rfl (fun a3982 k3983 cs3984 o3985 => ?_)
                      refine Cov.q .ro (.fieldAddr 1 rfl fl34_1 ty32.sz rfl) rfl ?_
                      refine Cov.store 0 [_, _] [_, _, _] .ro rfl rfl rfl ty32 rfl rfl rfl rfl ?_
                      refine Cov.region_end ?_
                      refine Cov.seq ?_
                      refine Cov.region rfl ?_
                      refine Cov.q .ro (.assign rfl) rfl ?_
                      refine Cov.region_end ?_
                      refine Cov.block ?_
                      refine Cov.freezeR 0 rfl rfl o3964 [_, _] rfl B3653 (fun G4035 e4036 B4037 s4038 => ?_)
                      refine Cov.loop2 (α := Nat × Hp × List (List Int) × Option Addr × Nat × List Value × Int) (fun y => [(13, .slice y.2.2.2.1 y.2.2.1.length y.2.2.2.2.1), (21, .int .i64 y.2.2.2.2.2.2)]) [(18, _), (64, _), (1, _), (3, _), (7, _), (14, _), (62, _), (63, _), (17, _)] (fun y => [y.2.1]) (fun y => []) [_, _, _] (fun y => [.s (.slice y.2.2.2.1 y.2.2.1.length y.2.2.2.2.1) 22 1 y.2.2.1.length y.2.2.2.2.2.1]) [_] (fun y => HpLe G4035 y.2.1 ∧ Bd w0 S0 Fs y.2.1 ∧ OL (Rep.sl (Rep.int .i64)) y.2.1 y.2.2.2.2.2.1 y.2.2.1 ∧ ref13_Encode_L2 (ref13_Encode_L8 ref13_Encode_J1 x1 xs3677) v3960 x1 u3681 v3966 v3967 v3968 u3986 y.1 y.2.2.1 y.2.2.2.2.2.2 = some r) (fun y => y.1) (big, G4035, v3655, a3656, k3657, cs3658, 0) ⟨(HpLe.refl _), B4037, (OL.mono e4036 o3659), r3987⟩ ⟨rfl, rfl, rfl, rfl, rfl, rfl, rfl, rfl, rfl, rfl, rfl, trivial⟩ rfl rfl rfl (fun y hI hb4094 => ?_)
                      obtain ⟨n4080, G4082, v4086, a4087, k4088, cs4089, v4092⟩ := y
                      obtain ⟨e4083, B4084, o4090, r4093⟩ := hI
                      try dsimp only at e4083 B4084 o4090 r4093
                      refine Cov.prune [(13, .slice a4087 v4086.length k4088), (21, .int .i64 v4092), (18, _), (64, _), (1, _), (3, _), (7, _), (14, _), (62, _), (63, _), (17, _)] ⟨rfl, rfl, rfl, rfl, rfl, rfl, rfl, rfl, rfl, rfl, rfl, trivial⟩ ?_
                      refine Cov.same (bl' := [_, _, _]) (sl' := [.s (.slice a4087 v4086.length k4088) 22 1 v4086.length cs4089, _]) (Fs' := G4082 :: Fs) rfl rfl rfl ?_
                      obtain ⟨m4106, rfl⟩ : ∃ m, n4080 = m + 1 := by cases n4080 with | zero => exact absurd (show (none : Option _) = some _ from r4093) (by simp) | succ m => exact ⟨m, rfl⟩
                      have r4105 : ref13_Encode_B2 (ref13_Encode_L8 ref13_Encode_J1 x1 xs3677) v3960 x1 u3681 v3966 v3967 v3968 u3986 (ref13_Encode_L2 (ref13_Encode_L8 ref13_Encode_J1 x1 xs3677) v3960 x1 u3681 v3966 v3967 v3968 u3986 m4106) v4086 v4092 = some r := r4093; clear r4093; unfold ref13_Encode_B2 at r4105; try dsimp only at r4105
                      refine Cov.seq ?_
                      refine Cov.seq ?_
                      refine Cov.region rfl ?_
                      refine Cov.q .ro (.move rfl) rfl ?_
                      refine Cov.q .ro (.move rfl) rfl ?_
                      refine Cov.q .ro (.lss rfl rfl) rfl ?_
                      refine Cov.region_end ?_
                      refine Cov.cond_dec rfl (fun c4107 => ?_) (fun c4107 => ?_)
                      · have r4108 := ifT r4105 c4107; clear r4105
                        refine Cov.skip ?_
                        refine Cov.seq ?_
                        refine Cov.block ?_
                        refine Cov.region rfl ?_
                        refine Cov.q .ro (.move rfl) rfl ?_
                        refine Cov.q .ro (.move rfl) rfl ?_
                        refine Cov.q .ro (.move rfl) rfl ?_
                        refine Cov.q .ro (.move rfl) rfl ?_
                        refine Cov.q .ro (.mulw rfl rfl) rfl ?_
                        refine Cov.q .ro (.move rfl) rfl ?_
                        refine Cov.q .ro (.addw rfl rfl) rfl ?_
                        refine Cov.q .ro (.move rfl) rfl ?_
                        refine Cov.q .ro (.mulw rfl rfl) rfl ?_
                        obtain ⟨u4109, hu4109, r4110⟩ := bind_some r4108; clear r4108
                        obtain ⟨a4111, k4112, h4113, s4114⟩ := SlR.sub (SlR.mono e4083 s4038) hu4109
                        refine Cov.q .ro (.sliceR (SlR.mono e4083 s4038) rfl hu4109 sl22 ty3.sz (fun h => .yes' rfl h) (fun h => .yes' rfl h) h4113) rfl ?_
                        refine Cov.own_nil 3 1 ?_
                        obtain ⟨u4120, hu4120, r4121⟩ := bind_some r4110; clear r4110
                        refine Cov.appR (Q := (Rep.int .i64)) 0 .ro sl22 ty3 rfl rfl rfl rfl rfl (OL.nil (Rp' := (Rep.int .i64))) rfl rfl s4114 rfl List.mem_cons_self hu4120 rfl (fun a4116 k4117 cs4118 o4119 => ?_)
                        refine Cov.freezeR 0 rfl rfl o4119 [_, _] rfl B4084 (fun G4123 e4124 B4125 s4126 => ?_)
                        refine Cov.lit [_] [(0, _)] .ro sl26 ty22 rfl rfl rfl rfl rfl rfl (fun b4128 hb4128 => ?_)
                        have o4129 : OL (Rep.sl (Rep.int .i64)) G4123 [.slice a4116 u4120.length k4117] ([u4120] : List (List Int)) := ((OL.cons rfl (Rep.slI s4126) (OL.nil (Rp' := (Rep.sl (Rep.int .i64))))) :)
                        refine Cov.reval 139 (n' := ([u4120] : List (List Int)).length) rfl rfl ?_
                        obtain ⟨u4135, hu4135, r4136⟩ := bind_some r4121; clear r4121
                        refine Cov.appO (Q := (Rep.sl (Rep.int .i64))) 0 .ro sl26 ty22 rfl rfl rfl rfl rfl rfl (OL.mono e4124 o4090) o4129 rfl rfl rfl B4125 hu4135 rfl (fun a4131 k4132 cs4133 o4134 => ?_)
                        refine Cov.q .ro (.assign rfl) rfl ?_
                        refine Cov.region_end ?_
                        refine Cov.prune [(13, _), (21, _), (18, _), (64, _), (1, _), (3, _), (7, _), (14, _), (62, _), (63, _), (17, _)] ⟨rfl, rfl, rfl, rfl, rfl, rfl, rfl, rfl, rfl, rfl, rfl, trivial⟩ ?_
                        refine Cov.inBlock ?_
                        refine Cov.region rfl ?_
                        refine Cov.q .ro (.move rfl) rfl ?_
                        refine Cov.q .ro (.addw rfl rfl) rfl ?_
                        refine Cov.q .ro (.assign rfl) rfl ?_
                        refine Cov.region_end ?_
                        refine Cov.prune _ ?_ (Cov.same rfl rfl rfl (hb4094 (m4106, G4123, u4135, a4131, k4132, cs4133, (w64 (v4092 + 1))) ⟨(HpLe.trans e4083 e4124), B4125, o4134, r4136⟩ (Nat.lt_succ_self _)))
                        exact ⟨rfl, rfl, rfl, rfl, rfl, rfl, rfl, rfl, rfl, rfl, rfl, trivial⟩
                      · have r4138 := ifF r4105 c4107; clear r4105
                        refine Cov.exit rfl ?_
                        refine Cov.inBlock ?_
                        refine Cov.region rfl ?_
                        refine Cov.q .ro (.addw rfl rfl) rfl ?_
                        refine Cov.q .ro (.move rfl) rfl ?_
                        refine Cov.region_end ?_
                        refine Cov.prune _ ?_ (Cov.same rfl rfl rfl (hb3671 ((i3648 + 1), xs3677, G4082, v4086, a4087, k4088, cs4089, v3966, u3986, a3982, k3983, cs3984, v3967, v3968) ⟨(HpLe.trans (HpLe.trans e3652 e4036) e4083), B4084, o4090, (OL.mono (HpLe.trans e4036 e4083) o3985), (drop_succ g3650), r4138⟩ (Nat.lt_succ_self _)))
                        exact ⟨rfl, (congrArg (fun z => some (Value.int .i64 z)) (idx_wrap (SlR.len s2) g3650)), rfl, rfl, rfl, rfl, rfl, rfl, trivial⟩
                    · intro hb4139
                      refine Cov.block ?_
                      refine Cov.loop2 (α := Nat × List Int × Option Addr × Nat × List Value) (fun y => [(18, .slice y.2.2.1 y.2.1.length y.2.2.2.1)]) [(13, _), (64, _), (1, _), (3, _), (7, _), (14, _), (62, _), (63, _), (16, _), (17, _)] (fun y => []) (fun y => []) [_, _, _] (fun y => [.s (.slice y.2.2.1 y.2.1.length y.2.2.2.1) 3 1 y.2.1.length y.2.2.2.2]) [_, _] (fun y => OL (Rep.int .i64) G3651 y.2.2.2.2 y.2.1 ∧ ref13_Encode_L4 (ref13_Encode_J3 (ref13_Encode_L8 ref13_Encode_J1 x1 xs3677) x1 x3676 u3681 v3655 v3662) x1 u3681 v3890 v3891 v3892 y.1 y.2.1 = some r) (fun y => y.1) (big, v3884, a3885, k3886, cs3887) ⟨o3888, r3894⟩ ⟨rfl, rfl, rfl, rfl, rfl, rfl, rfl, rfl, rfl, rfl, rfl, trivial⟩ rfl rfl rfl (fun y hI hb4170 => ?_)
                      obtain ⟨n4161, v4163, a4164, k4165, cs4166⟩ := y
                      obtain ⟨o4167, r4169⟩ := hI
                      try dsimp only at o4167 r4169
                      refine Cov.prune [(18, .slice a4164 v4163.length k4165), (13, _), (64, _), (1, _), (3, _), (7, _), (14, _), (62, _), (63, _), (16, _), (17, _)] ⟨rfl, rfl, rfl, rfl, rfl, rfl, rfl, rfl, rfl, rfl, rfl, trivial⟩ ?_
                      refine Cov.same (bl' := [_, _, _]) (sl' := [.s (.slice a4164 v4163.length k4165) 3 1 v4163.length cs4166, _, _]) (Fs' := G3651 :: Fs) rfl rfl rfl ?_
                      obtain ⟨m4183, rfl⟩ : ∃ m, n4161 = m + 1 := by cases n4161 with | zero => exact absurd (show (none : Option _) = some _ from r4169) (by simp) | succ m => exact ⟨m, rfl⟩
                      have r4182 : ref13_Encode_B4 (ref13_Encode_J3 (ref13_Encode_L8 ref13_Encode_J1 x1 xs3677) x1 x3676 u3681 v3655 v3662) x1 u3681 v3890 v3891 v3892 (ref13_Encode_L4 (ref13_Encode_J3 (ref13_Encode_L8 ref13_Encode_J1 x1 xs3677) x1 x3676 u3681 v3655 v3662) x1 u3681 v3890 v3891 v3892 m4183) v4163 = some r := r4169; clear r4169; unfold ref13_Encode_B4 at r4182; try dsimp only at r4182
                      refine Cov.seq ?_
                      refine Cov.seq ?_
                      refine Cov.region rfl ?_
                      refine Cov.q .ro (.move rfl) rfl ?_
                      refine Cov.q .ro (.len_sl rfl rfl sl22) rfl ?_
                      refine Cov.q .ro (.move rfl) rfl ?_
                      refine Cov.q .ro (.move rfl) rfl ?_
                      refine Cov.q .ro (.mulw rfl rfl) rfl ?_
                      refine Cov.q .ro (.lss rfl rfl) rfl ?_
                      refine Cov.region_end ?_
                      refine Cov.cond_dec rfl (fun c4184 => ?_) (fun c4184 => ?_)
                      · have r4185 := ifT r4182 c4184; clear r4182
                        refine Cov.skip ?_
                        refine Cov.block ?_
                        refine Cov.region rfl ?_
                        refine Cov.q .ro (.move rfl) rfl ?_
                        refine Cov.lit [_] [(0, _)] .ro sl22 ty3 rfl rfl rfl rfl rfl rfl (fun b4186 hb4186 => ?_)
                        have o4187 : OL (Rep.int .i64) G3651 [.int .i64 0] ([0] : List Int) := ((OL.cons rfl (Rep.intI .i64 0) (OL.nil (Rp' := (Rep.int .i64)))) :)
                        refine Cov.reval 110 (n' := ([0] : List Int).length) rfl rfl ?_
                        obtain ⟨u4193, hu4193, r4194⟩ := bind_some r4185; clear r4185
                        refine Cov.appO (Q := (Rep.int .i64)) 0 .ro sl22 ty3 rfl rfl rfl rfl rfl rfl o4167 o4187 rfl rfl rfl B3653 hu4193 rfl (fun a4189 k4190 cs4191 o4192 => ?_)
                        refine Cov.q .ro (.assign rfl) rfl ?_
                        refine Cov.region_end ?_
                        refine Cov.inBlock ?_
                        refine Cov.prune _ ?_ (Cov.same rfl rfl rfl (hb4170 (m4183, u4193, a4189, k4190, cs4191) ⟨o4192, r4194⟩ (Nat.lt_succ_self _)))
                        exact ⟨rfl, rfl, rfl, rfl, rfl, rfl, rfl, rfl, rfl, rfl, rfl, trivial⟩
                      · have r4196 := ifF r4182 c4184; clear r4182
                        refine Cov.exit rfl ?_
                        refine Cov.prune _ ?_ (Cov.same rfl rfl rfl (hb4139 (v4163, a4164, k4165, cs4166, v3890, v3891, v3892) ⟨o4167, r4196⟩))
                        exact ⟨rfl, rfl, rfl, rfl, rfl, rfl, rfl, rfl, rfl, rfl, rfl, trivial⟩
                  · intro hb4197
                    refine Cov.block ?_
                    refine Cov.pull 2 rfl [_, _, _] rfl ?_
                    refine Cov.pull 2 rfl [_, _, _] rfl ?_
                    refine Cov.pull 2 rfl [_, _, _] rfl ?_
                    refine Cov.loop2 (α := Nat × List Int × Option Addr × Nat × List Value × Int × Int × Int × Int) (fun y => [(18, .slice y.2.2.1 y.2.1.length y.2.2.2.1), (19, .int .i64 y.2.2.2.2.2.1)]) [(13, _), (64, _), (1, _), (3, _), (7, _), (14, _), (62, _), (63, _), (16, _), (17, _)] (fun y => []) (fun y => [(b74, .cells #[.int .i64 y.2.2.2.2.2.2.1, .slice a3663 v3662.length k3664] 34 (0, 0)), (b2, .cells #[.int .i64 y.2.2.2.2.2.2.2.1, .slice none 0 0] 34 (0, 0)), (b1, .cells #[.int .i64 y.2.2.2.2.2.2.2.2] 24 (0, 0))]) [] (fun y => [.s (.slice y.2.2.1 y.2.1.length y.2.2.2.1) 3 1 y.2.1.length y.2.2.2.2.1]) [_, _] (fun y => OL (Rep.int .i64) G3651 y.2.2.2.2.1 y.2.1 ∧ ref13_Encode_L7 (ref13_Encode_J5 (ref13_Encode_L8 ref13_Encode_J1 x1 xs3677) x1 x3676 u3681 v3655 v3662) x3676 y.1 y.2.1 y.2.2.2.2.2.1 y.2.2.2.2.2.2.1 y.2.2.2.2.2.2.2.1 y.2.2.2.2.2.2.2.2 = some r) (fun y => y.1) (big, ([] : List Int), (some ⟨b3687, 0, none⟩), ((w64 (u3681 * x1))).toNat, cs3688, 0, v3661, v3668, v3669) ⟨o3689, r3686⟩ ⟨rfl, rfl, rfl, rfl, rfl, rfl, rfl, rfl, rfl, rfl, rfl, rfl, trivial⟩ rfl rfl rfl (fun y hI hb4300 => ?_)
                    obtain ⟨n4287, v4289, a4290, k4291, cs4292, v4295, v4296, v4297, v4298⟩ := y
                    obtain ⟨o4293, r4299⟩ := hI
                    try dsimp only at o4293 r4299
                    refine Cov.prune [(18, .slice a4290 v4289.length k4291), (19, .int .i64 v4295), (13, _), (64, _), (1, _), (3, _), (7, _), (14, _), (62, _), (63, _), (16, _), (17, _)] ⟨rfl, rfl, rfl, rfl, rfl, rfl, rfl, rfl, rfl, rfl, rfl, rfl, trivial⟩ ?_
                    refine Cov.same (bl' := [(b74, .cells #[.int .i64 v4296, .slice a3663 v3662.length k3664] 34 (0, 0)), (b2, .cells #[.int .i64 v4297, .slice none 0 0] 34 (0, 0)), (b1, .cells #[.int .i64 v4298] 24 (0, 0))]) (sl' := [.s (.slice a4290 v4289.length k4291) 3 1 v4289.length cs4292, _, _]) (Fs' := G3651 :: Fs) rfl rfl rfl ?_
                    obtain ⟨m4310, rfl⟩ : ∃ m, n4287 = m + 1 := by cases n4287 with | zero => exact absurd (show (none : Option _) = some _ from r4299) (by simp) | succ m => exact ⟨m, rfl⟩
                    have r4309 : ref13_Encode_B7 (ref13_Encode_J5 (ref13_Encode_L8 ref13_Encode_J1 x1 xs3677) x1 x3676 u3681 v3655 v3662) x3676 (ref13_Encode_L7 (ref13_Encode_J5 (ref13_Encode_L8 ref13_Encode_J1 x1 xs3677) x1 x3676 u3681 v3655 v3662) x3676 m4310) v4289 v4295 v4296 v4297 v4298 = some r := r4299; clear r4299; unfold ref13_Encode_B7 at r4309; try dsimp only at r4309
                    refine Cov.seq ?_
                    refine Cov.seq ?_
                    refine Cov.region rfl ?_
                    refine Cov.q .ro (.move rfl) rfl ?_
                    refine Cov.q .ro (.move rfl) rfl ?_
                    refine Cov.q .ro (.len_s rfl Try.underlying9) rfl ?_
                    refine Cov.q .ro (.lss rfl rfl) rfl ?_
                    refine Cov.region_end ?_
                    refine Cov.cond_dec rfl (fun c4311 => ?_) (fun c4311 => ?_)
                    · have r4312 := ifT r4309 c4311; clear r4309
                      refine Cov.skip ?_
                      refine Cov.seq ?_
                      refine Cov.block ?_
                      refine Cov.seq ?_
                      refine Cov.region rfl ?_
                      refine Cov.q .ro (.move rfl) rfl ?_
                      refine Cov.q .ro (.move rfl) rfl ?_
                      obtain ⟨u4313, hu4313, r4314⟩ := bind_some r4312; clear r4312
                      refine Cov.q .ro (.sidx rfl rfl Try.underlying9 hu4313) rfl ?_
                      refine Cov.q .ro (.convw Try.underlying5 Try.underlying3 rfl) rfl ?_
                      refine Cov.q .ro (.assign rfl) rfl ?_
                      refine Cov.region_end ?_
                      refine Cov.seq ?_
                      refine Cov.region rfl ?_
                      refine Cov.q .ro (.load_own_a 2 [_] rfl rfl ty24 rfl) rfl ?_
                      obtain ⟨u4315, hu4315, r4316⟩ := bind_some r4314; clear r4314
                      refine Cov.callS (b1 := []) (b2 := [_, _, _]) (s1 := []) [_] [] .ro rfl rfl Try.call39 rfl rfl (ref13_digits_c (G := G3651) List.mem_cons_self  hu4315) rfl (fun v4318 bo so h4317 => ?_)
                      obtain ⟨rfl, rfl, rfl⟩ := h4317
                      refine Cov.same (bl' := [_, _, _]) (sl' := [_, _, _]) rfl rfl rfl ?_
                      refine Cov.q .ro (.move rfl) rfl ?_
                      refine Cov.region_end ?_
                      refine Cov.block ?_
                      refine Cov.loop2 (α := Nat × List Int × Option Addr × Nat × List Value × Int × Int) (fun y => [(18, .slice y.2.2.1 y.2.1.length y.2.2.2.1), (20, .int .i64 y.2.2.2.2.2.1), (89, .int .i64 y.2.2.2.2.2.2)]) [(19, _), (13, _), (64, _), (1, _), (3, _), (7, _), (14, _), (62, _), (63, _), (16, _), (17, _), (88, _)] (fun y => []) (fun y => []) [_, _, _] (fun y => [.s (.slice y.2.2.1 y.2.1.length y.2.2.2.1) 3 1 y.2.1.length y.2.2.2.2.1]) [_, _] (fun y => OL (Rep.int .i64) G3651 y.2.2.2.2.1 y.2.1 ∧ ref13_Encode_L6 (ref13_Encode_L7 (ref13_Encode_J5 (ref13_Encode_L8 ref13_Encode_J1 x1 xs3677) x1 x3676 u3681 v3655 v3662) x3676 m4310) v4295 u4315 v4296 v4297 v4298 y.1 y.2.1 y.2.2.2.2.2.1 y.2.2.2.2.2.2 = some r) (fun y => y.1) (big, v4289, a4290, k4291, cs4292, (w64 u4313), 0) ⟨o4293, r4316⟩ ⟨rfl, rfl, rfl, rfl, rfl, rfl, rfl, rfl, rfl, rfl, rfl, rfl, rfl, rfl, rfl, trivial⟩ rfl rfl rfl (fun y hI hb4357 => ?_)
                      obtain ⟨n4346, v4348, a4349, k4350, cs4351, v4354, v4355⟩ := y
                      obtain ⟨o4352, r4356⟩ := hI
                      try dsimp only at o4352 r4356
                      refine Cov.prune [(18, .slice a4349 v4348.length k4350), (20, .int .i64 v4354), (89, .int .i64 v4355), (19, _), (13, _), (64, _), (1, _), (3, _), (7, _), (14, _), (62, _), (63, _), (16, _), (17, _), (88, _)] ⟨rfl, rfl, rfl, rfl, rfl, rfl, rfl, rfl, rfl, rfl, rfl, rfl, rfl, rfl, rfl, trivial⟩ ?_
                      refine Cov.same (bl' := [_, _, _]) (sl' := [.s (.slice a4349 v4348.length k4350) 3 1 v4348.length cs4351, _, _]) (Fs' := G3651 :: Fs) rfl rfl rfl ?_
                      obtain ⟨m4372, rfl⟩ : ∃ m, n4346 = m + 1 := by cases n4346 with | zero => exact absurd (show (none : Option _) = some _ from r4356) (by simp) | succ m => exact ⟨m, rfl⟩
                      have r4371 : ref13_Encode_B6 (ref13_Encode_L7 (ref13_Encode_J5 (ref13_Encode_L8 ref13_Encode_J1 x1 xs3677) x1 x3676 u3681 v3655 v3662) x3676 m4310) v4295 u4315 v4296 v4297 v4298 (ref13_Encode_L6 (ref13_Encode_L7 (ref13_Encode_J5 (ref13_Encode_L8 ref13_Encode_J1 x1 xs3677) x1 x3676 u3681 v3655 v3662) x3676 m4310) v4295 u4315 v4296 v4297 v4298 m4372) v4348 v4354 v4355 = some r := r4356; clear r4356; unfold ref13_Encode_B6 at r4371; try dsimp only at r4371
                      refine Cov.seq ?_
                      refine Cov.region rfl ?_
                      refine Cov.q .ro (.lss rfl rfl) rfl ?_
                      refine Cov.region_end ?_
                      refine Cov.seq ?_
                      refine Cov.cond_dec rfl (fun c4373 => ?_) (fun c4373 => ?_)
                      · have r4374 := ifT r4371 c4373; clear r4371
                        refine Cov.skip ?_
                        refine Cov.seq ?_
                        refine Cov.block ?_
                        refine Cov.seq ?_
                        refine Cov.region rfl ?_
                        refine Cov.q .ro (.move rfl) rfl ?_
                        refine Cov.q .ro (.move rfl) rfl ?_
                        refine Cov.q .ro (.fieldAddr 0 rfl fl24_0 ty3.sz rfl) rfl ?_
                        refine Cov.q .ro (.load_own 2 rfl rfl ty3 rfl) rfl ?_
                        obtain ⟨u4375, hu4375, r4376⟩ := bind_some r4374; clear r4374
                        refine Cov.q .ro (.remt rfl rfl (nz_some hu4375)) rfl ?_
                        refine Cov.lit [_] [(0, _)] .ro sl22 ty3 rfl rfl rfl rfl rfl rfl (fun b4377 hb4377 => ?_)
                        have o4378 : OL (Rep.int .i64) G3651 [.int .i64 (Int.tmod v4354 v4298)] ([(Int.tmod v4354 v4298)] : List Int) := ((OL.cons rfl (Rep.intI .i64 (Int.tmod v4354 v4298)) (OL.nil (Rp' := (Rep.int .i64)))) :)
                        refine Cov.reval 96 (n' := ([(Int.tmod v4354 v4298)] : List Int).length) rfl rfl ?_
                        obtain ⟨u4384, hu4384, r4385⟩ := bind_some r4376; clear r4376
                        refine Cov.appO (Q := (Rep.int .i64)) 0 .ro sl22 ty3 rfl rfl rfl rfl rfl rfl o4352 o4378 rfl rfl rfl B3653 hu4384 rfl (fun a4380 k4381 cs4382 o4383 => ?_)
                        refine Cov.q .ro (.assign rfl) rfl ?_
                        refine Cov.region_end ?_
                        refine Cov.region rfl ?_
                        refine Cov.q .ro (.move rfl) rfl ?_
                        refine Cov.q .ro (.fieldAddr 0 rfl fl24_0 ty3.sz rfl) rfl ?_
                        refine Cov.q .ro (.load_own 2 rfl rfl ty3 rfl) rfl ?_
                        obtain ⟨u4387, hu4387, r4388⟩ := bind_some r4385; clear r4385
                        refine Cov.q .ro (.quow rfl rfl (nz_some hu4387)) rfl ?_
                        refine Cov.q .ro (.assign rfl) rfl ?_
                        refine Cov.region_end ?_
                        refine Cov.inBlock ?_
                        refine Cov.region rfl ?_
                        refine Cov.q .ro (.addw rfl rfl) rfl ?_
                        refine Cov.q .ro (.move rfl) rfl ?_
                        refine Cov.region_end ?_
                        refine Cov.prune [(18, _), (20, _), (89, _), (19, _), (13, _), (64, _), (1, _), (3, _), (7, _), (14, _), (62, _), (63, _), (16, _), (17, _), (88, _)] ⟨rfl, rfl, rfl, rfl, rfl, rfl, rfl, rfl, rfl, rfl, rfl, rfl, rfl, rfl, rfl, trivial⟩ ?_
                        refine Cov.prune _ ?_ (Cov.same rfl rfl rfl (hb4357 (m4372, u4384, a4380, k4381, cs4382, (w64 (Int.tdiv v4354 v4298)), (w64 (v4355 + 1))) ⟨o4383, r4388⟩ (Nat.lt_succ_self _)))
                        exact ⟨rfl, rfl, rfl, rfl, rfl, rfl, rfl, rfl, rfl, rfl, rfl, rfl, rfl, rfl, rfl, trivial⟩
                      · have r4389 := ifF r4371 c4373; clear r4371
                        refine Cov.exit rfl ?_
                        refine Cov.inBlock ?_
                        refine Cov.region rfl ?_
                        refine Cov.q .ro (.move rfl) rfl ?_
                        refine Cov.q .ro (.addw rfl rfl) rfl ?_
                        refine Cov.q .ro (.assign rfl) rfl ?_
                        refine Cov.region_end ?_
                        refine Cov.prune _ ?_ (Cov.same rfl rfl rfl (hb4300 (m4310, v4348, a4349, k4350, cs4351, (w64 (v4295 + 1)), v4296, v4297, v4298) ⟨o4352, r4389⟩ (Nat.lt_succ_self _)))
                        exact ⟨rfl, rfl, rfl, rfl, rfl, rfl, rfl, rfl, rfl, rfl, rfl, rfl, trivial⟩
                    · have r4390 := ifF r4309 c4311; clear r4309
                      refine Cov.exit rfl ?_
                      refine Cov.prune _ ?_ (Cov.same rfl rfl rfl (hb4197 (v4289, a4290, k4291, cs4292, v4296, v4297, v4298) ⟨o4293, r4390⟩))
                      exact ⟨rfl, rfl, rfl, rfl, rfl, rfl, rfl, rfl, rfl, rfl, rfl, trivial⟩
          · intro hb4391
            refine Cov.block ?_
            refine Cov.loop2 (α := Nat × List ByteArray × Int) (fun y => [(10, .int .i64 y.2.2), (41, .int .i64 (y.1 : Int))]) [(1, _), (2, _), (3, _), (7, _), (39, _), (40, _)] (fun y => []) (fun y => []) [_, _] (fun y => []) [] (fun y => List.drop y.1 x2 = y.2.1 ∧ ref13_Encode_L10 (ref13_Encode_J9 x1 x2) x1 x0_0 y.2.1 y.2.2 = some r) (fun y => y.2.1.length) (0, x2, 0) ⟨rfl, r19⟩ ⟨rfl, rfl, rfl, rfl, rfl, rfl, rfl, rfl, trivial⟩ rfl rfl rfl (fun y hI hb4418 => ?_)
            obtain ⟨i4413, w4414, v4416⟩ := y
            obtain ⟨g4415, r4417⟩ := hI
            try dsimp only at g4415 r4417
            refine Cov.prune [(10, .int .i64 v4416), (41, .int .i64 (i4413 : Int)), (1, _), (2, _), (3, _), (7, _), (39, _), (40, _)] ⟨rfl, rfl, rfl, rfl, rfl, rfl, rfl, rfl, trivial⟩ ?_
            refine Cov.same (bl' := [_, _]) (sl' := []) (Fs' := G :: Fs) rfl rfl rfl ?_
            cases w4414 with
            | nil =>
              rw [ref13_Encode_L10] at r4417; try dsimp only at r4417
              refine Cov.seq ?_
              refine Cov.region rfl ?_
              refine Cov.q .ro (.lss rfl rfl) rfl ?_
              refine Cov.region_end ?_
              refine Cov.seq ?_
              refine Cov.cond_dec rfl (fun c => absurd c (drop_nil g4415)) (fun _ => ?_)
              refine Cov.exit rfl ?_
              refine Cov.prune _ ?_ (Cov.same rfl rfl rfl (hb4391 (v4416, 0, x0_0) r4417))
              exact ⟨rfl, rfl, rfl, rfl, rfl, trivial⟩
            | cons x4424 xs4425 =>
              have r4423 : ref13_Encode_B10 (ref13_Encode_J9 x1 x2) x1 x0_0 (ref13_Encode_L10 (ref13_Encode_J9 x1 x2) x1 x0_0 xs4425) x4424 v4416 = some r := r4417; clear r4417; unfold ref13_Encode_B10 at r4423; try dsimp only at r4423
              refine Cov.seq ?_
              refine Cov.region rfl ?_
              refine Cov.q .ro (.lss rfl rfl) rfl ?_
              refine Cov.region_end ?_
              refine Cov.seq ?_
              refine Cov.cond_dec rfl (fun _ => ?_) (fun c => absurd (drop_lt g4415) c)
              refine Cov.skip ?_
              refine Cov.seq ?_
              refine Cov.block ?_
              refine Cov.seq ?_
              refine Cov.region rfl ?_
              obtain ⟨c4426, p4427, h4428⟩ := SlR.get s2 (drop_idx g4415)
              obtain rfl := h4428
              refine Cov.q .ro (.idxR s2 rfl rfl (drop_idx g4415) sl25 ty9.sz) rfl ?_
              refine Cov.q .ro (.load_rp p4427 List.mem_cons_self rfl ty9 rfl) rfl ?_
              refine Cov.q .ro (.assign rfl) rfl ?_
              refine Cov.region_end ?_
              refine Cov.seq ?_
              refine Cov.seq ?_
              refine Cov.region rfl ?_
              refine Cov.q .ro (.move rfl) rfl ?_
              refine Cov.q .ro (.len_s rfl Try.underlying9) rfl ?_
              refine Cov.q .ro (.gtr rfl rfl) rfl ?_
              refine Cov.region_end ?_
              refine Cov.cond_dec rfl (fun c4429 => ?_) (fun c4429 => ?_)
              · have r4430 := ifT r4423 c4429; clear r4423
                refine Cov.seq ?_
                refine Cov.region rfl ?_
                refine Cov.q .ro (.build [_, _] [] ty34 pl34 rfl rfl) rfl ?_
                refine Cov.q .ro (.assign rfl) rfl ?_
                refine Cov.store 0 [_, _] [_, _] .ro rfl rfl rfl ty34 rfl rfl rfl rfl ?_
                refine Cov.q .ro (.assign rfl) rfl ?_
                refine Cov.region_end ?_
                refine Cov.prune [(7, _), (6, _), (8, _)] ⟨rfl, rfl, rfl, trivial⟩ ?_
                cases r4430
                refine Cov.retWD 2 (c := ⟨20, none⟩) (.inr ⟨_, rfl⟩) [.tmp 6, .cell 7 34, .tmp 8] [_, _, _] rfl Try.func20 Try.results20 ⟨RV.tmp rfl, RV.cell_a 0 [_, _] rfl rfl ty34 rfl, RV.tmp rfl, trivial⟩ (fun _ h => List.mem_cons_of_mem _ h) List.mem_cons_self B0 (by subst hS0; simp [blks]) (fun G' hg => ⟨none, 0, none, 0, rfl, rfl, rfl, (SlR.mono hg (SlR.nil (Rp' := (Rep.sl (Rep.int .i64))))), (SlR.mono hg (SlR.nil (Rp' := (Rep.pair (Rep.int .i64) (Rep.pair (Rep.int .i64) (Rep.int .i64))))))⟩)
              · have r4431 := ifF r4423 c4429; clear r4423
                refine Cov.skip ?_
                refine Cov.region rfl ?_
                refine Cov.q .ro (.move rfl) rfl ?_
                refine Cov.q .ro (.load_own_a 1 [_] rfl rfl ty24 rfl) rfl ?_
                refine Cov.q .ro (.move rfl) rfl ?_
                refine Cov.q .ro (.move rfl) rfl ?_
                refine Cov.q .ro (.len_s rfl Try.underlying9) rfl ?_
                obtain ⟨u4432, hu4432, r4433⟩ := bind_some r4431; clear r4431
                refine Cov.callS (b1 := []) (b2 := [_, _]) (s1 := []) [_, _, _] [] .ro rfl rfl Try.call43 rfl rfl (ref13_need_c (G := G) List.mem_cons_self  hu4432) rfl (fun v4435 bo so h4434 => ?_)
                obtain ⟨rfl, rfl, rfl⟩ := h4434
                refine Cov.same (bl' := [_, _]) (sl' := []) rfl rfl rfl ?_
                refine Cov.q .ro (.addw rfl rfl) rfl ?_
                refine Cov.q .ro (.assign rfl) rfl ?_
                refine Cov.region_end ?_
                refine Cov.prune [(10, _), (41, _), (1, _), (2, _), (3, _), (7, _), (39, _), (40, _)] ⟨rfl, rfl, rfl, rfl, rfl, rfl, rfl, rfl, trivial⟩ ?_
                refine Cov.inBlock ?_
                refine Cov.region rfl ?_
                refine Cov.q .ro (.addw rfl rfl) rfl ?_
                refine Cov.q .ro (.move rfl) rfl ?_
                refine Cov.region_end ?_
                refine Cov.prune _ ?_ (Cov.same rfl rfl rfl (hb4418 ((i4413 + 1), xs4425, (w64 (v4416 + u4432))) ⟨(drop_succ g4415), r4433⟩ (Nat.lt_succ_self _)))
                exact ⟨rfl, (congrArg (fun z => some (Value.int .i64 z)) (idx_wrap (SlR.len s2) g4415)), rfl, rfl, rfl, rfl, rfl, rfl, trivial⟩
    · intro hb11
      refine Cov.split 30 rfl (fun c10 => ?_) (fun c10 => ?_)
      · refine Cov.g_off rfl rfl rfl ?_
        refine Cov.g_off rfl rfl rfl ?_
        refine Cov.q .ro (.pick_t rfl rfl) rfl ?_
        refine Cov.prune _ ?_ (Cov.same rfl rfl rfl (hb11 () trivial))
        exact ⟨dor_t c10, rfl, rfl, rfl, rfl, trivial⟩
      · refine Cov.g_on rfl ?_
        refine Cov.q .ro (.move rfl) rfl ?_
        refine Cov.g_on rfl ?_
        refine Cov.q .ro (.gtr rfl rfl) rfl ?_
        refine Cov.q .ro (.pick_f rfl rfl) rfl ?_
        refine Cov.prune _ ?_ (Cov.same rfl rfl rfl (hb11 () trivial))
        exact ⟨dor_f c10, rfl, rfl, rfl, rfl, trivial⟩

set_option maxHeartbeats 4000000 in
set_option maxRecDepth 100000 in
theorem make_Field_c {Fs : List Hp} {G : Hp} {p0 : Nat} {a0_0 : Option Addr} {k0_0 : Nat} {x0_0 : List Int} {x0_1 : Int} {r : (Int × ((List Int) × Int))} (hG : G ∈ Fs) (s0_0 : SlR (Rep.int .i64) G a0_0 k0_0 x0_0) (h : make_Field (x0_0, x0_1) = some r) : RetS Try.prog 25 #[.pointer (some ⟨p0, 0, none⟩)] Fs [(p0, .cells #[.slice a0_0 x0_0.length k0_0, .int .i64 x0_1] 69 (0, 0))] [] (fun v bo so => ∃ a0 : Option Addr, ∃ k0 : Nat, v = .agg #[.int .i64 r.1] ∧ bo = [(p0, .cells #[.slice a0 r.2.1.length k0, .int .i64 r.2.2] 69 (0, 0))] ∧ so = [] ∧ SlR (Rep.int .i64) G a0 k0 r.2.1) := by
  unfold make_Field at h
  try dsimp only at h
  refine RetS.of (vs := [_]) Try.func25 rfl Try.ntmps25 [(0, _)] ⟨rfl, trivial⟩ rfl hG fun w0 S0 hS0 B0 => ?_
  refine Cov.seq ?_
  refine Cov.region rfl ?_
  refine Cov.alloc .ro ty24 rfl (fun b1 hb1 => ?_)
  refine Cov.region_end ?_
  refine Cov.seq ?_
  refine Cov.region rfl ?_
  refine Cov.lit [_, _, _, _, _, _, _, _, _] [(0, _), (1, _), (2, _), (3, _), (4, _), (5, _), (6, _), (7, _), (8, _)] .ro sl22 ty3 rfl rfl rfl rfl rfl rfl (fun b2 hb2 => ?_)
  have o3 : OL (Rep.int .i64) G [.int .i64 2, .int .i64 3, .int .i64 5, .int .i64 7, .int .i64 11, .int .i64 13, .int .i64 17, .int .i64 257, .int .i64 65521] ([2, 3, 5, 7, 11, 13, 17, 257, 65521] : List Int) := ((OL.cons rfl (Rep.intI .i64 2) (OL.cons rfl (Rep.intI .i64 3) (OL.cons rfl (Rep.intI .i64 5) (OL.cons rfl (Rep.intI .i64 7) (OL.cons rfl (Rep.intI .i64 11) (OL.cons rfl (Rep.intI .i64 13) (OL.cons rfl (Rep.intI .i64 17) (OL.cons rfl (Rep.intI .i64 257) (OL.cons rfl (Rep.intI .i64 65521) (OL.nil (Rp' := (Rep.int .i64)))))))))))) :)
  refine Cov.reval 3 (n' := ([2, 3, 5, 7, 11, 13, 17, 257, 65521] : List Int).length) rfl rfl ?_
  refine Cov.q .ro (.move rfl) rfl ?_
  obtain ⟨u5, hu5, r6⟩ := bind_some h; clear h
  refine Cov.pull 1 rfl [_, _] rfl ?_
  refine Cov.callS (b1 := [_]) (b2 := [_]) (s1 := []) [_, _] [] .ro rfl rfl Try.call15 rfl rfl (make_Deck_Next_c (G := G) List.mem_cons_self s0_0 hu5) rfl (fun v8 bo so h7 => ?_)
  obtain ⟨a9, k10, rfl, rfl, rfl, s11⟩ := h7
  refine Cov.same (bl' := [_, _]) (sl' := [_]) rfl rfl rfl ?_
  obtain ⟨u12, hu12, r13⟩ := bind_some r6; clear r6
  obtain ⟨c14, p15, h16⟩ := OL.get o3 hu12
  obtain rfl := h16
  refine Cov.q .ro (.idxO 0 rfl rfl rfl hu12 sl22 ty3.sz) rfl ?_
  refine Cov.q .ro (.loadO 0 0 rfl hu12 p15 rfl (.inl ⟨rfl, rfl⟩) ty3 rfl) rfl ?_
  refine Cov.q .ro (.build [_] [(0, _)] ty24 pl24 rfl rfl) rfl ?_
  refine Cov.store 1 [_] [_, _] .ro rfl rfl rfl ty24 rfl rfl rfl rfl ?_
  refine Cov.region_end ?_
  cases r13
  refine Cov.drop 0 1 _ [] rfl rfl ?_
  refine Cov.pull 1 rfl [_, _] rfl ?_
  refine Cov.retSD 1 (c := ⟨25, none⟩) (.inr ⟨_, rfl⟩) [.cell 2 24] [_] rfl Try.func25 Try.results25 ⟨RV.cell_a 0 [_] rfl rfl ty24 rfl, trivial⟩ (fun _ h => List.mem_cons_of_mem _ h) ⟨a9, k10, rfl, rfl, rfl, s11⟩

set_option maxHeartbeats 4000000 in
set_option maxRecDepth 100000 in
theorem make_Text_c {Fs : List Hp} {G : Hp} {p0 : Nat} {a0_0 : Option Addr} {k0_0 : Nat} {x0_0 : List Int} {x0_1 : Int} {x1 : Int} {r : (ByteArray × ((List Int) × Int))} (hG : G ∈ Fs) (s0_0 : SlR (Rep.int .i64) G a0_0 k0_0 x0_0) (h : make_Text (x0_0, x0_1) x1 = some r) : RetW Try.prog 50 #[.pointer (some ⟨p0, 0, none⟩), .int .i64 x1] Fs [(p0, .cells #[.slice a0_0 x0_0.length k0_0, .int .i64 x0_1] 69 (0, 0))] [] (fun v bo so G => ∃ a0 : Option Addr, ∃ k0 : Nat, v = .string r.1 ∧ bo = [(p0, .cells #[.slice a0 r.2.1.length k0, .int .i64 r.2.2] 69 (0, 0))] ∧ so = [] ∧ SlR (Rep.int .i64) G a0 k0 r.2.1) := by
  unfold make_Text at h
  try dsimp only at h
  refine RetW.of (vs := [_, _]) Try.func50 rfl Try.ntmps50 [(0, _), (1, _)] ⟨rfl, rfl, trivial⟩ rfl hG fun w0 S0 hS0 B0 => ?_
  refine Cov.seq ?_
  refine Cov.region rfl ?_
  refine Cov.q .ro (.assign rfl) rfl ?_
  refine Cov.region_end ?_
  refine Cov.seq ?_
  refine Cov.region rfl ?_
  refine Cov.q .ro (.assign rfl) rfl ?_
  refine Cov.region_end ?_
  refine Cov.seq ?_
  refine Cov.seq ?_
  refine Cov.region rfl ?_
  refine Cov.q .ro (.move rfl) rfl ?_
  refine Cov.q .ro (.move rfl) rfl ?_
  refine Cov.q .ro (.addw rfl rfl) rfl ?_
  obtain ⟨u1, hu1, r2⟩ := bind_some h; clear h
  refine Cov.callS (b1 := [_]) (b2 := []) (s1 := []) [_, _] [] .ro rfl rfl Try.call15 rfl rfl (make_Deck_Next_c (G := G) List.mem_cons_self s0_0 hu1) rfl (fun v4 bo so h3 => ?_)
  obtain ⟨a5, k6, rfl, rfl, rfl, s7⟩ := h3
  refine Cov.same (bl' := [_]) (sl' := []) rfl rfl rfl ?_
  refine Cov.q .ro (.assign rfl) rfl ?_
  refine Cov.region_end ?_
  refine Cov.cutB (β := List Int × Option Addr × Nat × List Value × List Int × Option Addr × Nat × Int) (fun y => [(5, .slice y.2.1 y.1.length y.2.2.1)]) [] (fun y => G :: Fs) (fun y => [(p0, .cells #[.slice y.2.2.2.2.2.1 y.2.2.2.2.1.length y.2.2.2.2.2.2.1, .int .i64 y.2.2.2.2.2.2.2] 69 (0, 0))]) [] (fun y => [.s (.slice y.2.1 y.1.length y.2.2.1) 5 1 y.1.length y.2.2.2.1]) [] (fun y => OL (Rep.int .u8) G y.2.2.2.1 y.1 ∧ SlR (Rep.int .i64) G y.2.2.2.2.2.1 y.2.2.2.2.2.2.1 y.2.2.2.2.1 ∧ make_Text_J1 y.1 y.2.2.2.2.1 y.2.2.2.2.2.2.2 = some r) trivial [] rfl [] rfl ?_ ?_
  · intro y hI
    obtain ⟨v97, a98, k99, cs100, v103, a104, k105, v107⟩ := y
    obtain ⟨o101, s106, r109⟩ := hI
    try dsimp only at o101 s106 r109
    refine Cov.prune [(5, .slice a98 v97.length k99)] ⟨rfl, trivial⟩ ?_
    refine Cov.same (bl' := [(p0, .cells #[.slice a104 v103.length k105, .int .i64 v107] 69 (0, 0))]) (sl' := [.s (.slice a98 v97.length k99) 5 1 v97.length cs100]) (Fs' := G :: Fs) rfl rfl rfl ?_
    unfold make_Text_J1 at r109
    try dsimp only at r109
    refine Cov.seq ?_
    refine Cov.region rfl ?_
    refine Cov.q .ro (.move rfl) rfl ?_
    refine Cov.freezeR 0 rfl rfl o101 [] rfl B0 (fun G110 e111 B112 s113 => ?_)
    refine Cov.q .ro (.b2s s113 List.mem_cons_self rfl Try.underlying61 Try.underlying5 Try.underlying9) rfl ?_
    refine Cov.q .ro (.assign rfl) rfl ?_
    refine Cov.region_end ?_
    cases r109
    refine Cov.retW (c := ⟨50, none⟩) (.inr ⟨_, rfl⟩) [.tmp 4] [_] rfl Try.func50 Try.results50 ⟨RV.tmp rfl, trivial⟩ (fun _ h => List.mem_cons_of_mem _ h) List.mem_cons_self B112 (by subst hS0; simp [blks]) (fun G' hg => ⟨a104, k105, rfl, rfl, rfl, (SlR.mono hg (SlR.mono e111 s106))⟩)
  · intro hb115
    refine Cov.block ?_
    refine Cov.own_nil 5 1 ?_
    refine Cov.loop2 (α := Nat × List Int × Option Addr × Nat × List Value × Int × List Int × Option Addr × Nat × Int) (fun y => [(5, .slice y.2.2.1 y.2.1.length y.2.2.2.1), (6, .int .i64 y.2.2.2.2.2.1)]) [(0, _)] (fun y => []) (fun y => [(p0, .cells #[.slice y.2.2.2.2.2.2.2.1 y.2.2.2.2.2.2.1.length y.2.2.2.2.2.2.2.2.1, .int .i64 y.2.2.2.2.2.2.2.2.2] 69 (0, 0))]) [] (fun y => [.s (.slice y.2.2.1 y.2.1.length y.2.2.2.1) 5 1 y.2.1.length y.2.2.2.2.1]) [] (fun y => OL (Rep.int .u8) G y.2.2.2.2.1 y.2.1 ∧ SlR (Rep.int .i64) G y.2.2.2.2.2.2.2.1 y.2.2.2.2.2.2.2.2.1 y.2.2.2.2.2.2.1 ∧ make_Text_L2 make_Text_J1 y.1 y.2.1 y.2.2.2.2.2.1 y.2.2.2.2.2.2.1 y.2.2.2.2.2.2.2.2.2 = some r) (fun y => y.1) (big, ([] : List Int), none, 0, [], u1.1, u1.2.1, a5, k6, u1.2.2) ⟨(OL.nil (Rp' := (Rep.int .u8))), s7, r2⟩ ⟨rfl, rfl, rfl, trivial⟩ rfl rfl rfl (fun y hI hb183 => ?_)
    obtain ⟨n168, v170, a171, k172, cs173, v176, v177, a178, k179, v181⟩ := y
    obtain ⟨o174, s180, r182⟩ := hI
    try dsimp only at o174 s180 r182
    refine Cov.prune [(5, .slice a171 v170.length k172), (6, .int .i64 v176), (0, _)] ⟨rfl, rfl, rfl, trivial⟩ ?_
    refine Cov.same (bl' := [(p0, .cells #[.slice a178 v177.length k179, .int .i64 v181] 69 (0, 0))]) (sl' := [.s (.slice a171 v170.length k172) 5 1 v170.length cs173]) (Fs' := G :: Fs) rfl rfl rfl ?_
    obtain ⟨m185, rfl⟩ : ∃ m, n168 = m + 1 := by cases n168 with | zero => exact absurd (show (none : Option _) = some _ from r182) (by simp) | succ m => exact ⟨m, rfl⟩
    have r184 : make_Text_B2 make_Text_J1 (make_Text_L2 make_Text_J1 m185) v170 v176 v177 v181 = some r := r182; clear r182; unfold make_Text_B2 at r184; try dsimp only at r184
    refine Cov.seq ?_
    refine Cov.seq ?_
    refine Cov.region rfl ?_
    refine Cov.q .ro (.move rfl) rfl ?_
    refine Cov.q .ro (.gtr rfl rfl) rfl ?_
    refine Cov.region_end ?_
    refine Cov.cond_dec rfl (fun c186 => ?_) (fun c186 => ?_)
    · have r187 := ifT r184 c186; clear r184
      refine Cov.skip ?_
      refine Cov.seq ?_
      refine Cov.block ?_
      refine Cov.region rfl ?_
      refine Cov.q .ro (.move rfl) rfl ?_
      refine Cov.q .ro (.move rfl) rfl ?_
      obtain ⟨u188, hu188, r189⟩ := bind_some r187; clear r187
      refine Cov.callS (b1 := [_]) (b2 := []) (s1 := []) [_, _] [] .ro rfl rfl Try.call15 rfl rfl (make_Deck_Next_c (G := G) List.mem_cons_self s180 hu188) rfl (fun v191 bo so h190 => ?_)
      obtain ⟨a192, k193, rfl, rfl, rfl, s194⟩ := h190
      refine Cov.same (bl' := [_]) (sl' := [_]) rfl rfl rfl ?_
      refine Cov.q .ro (.convw Try.underlying3 Try.underlying5 rfl) rfl ?_
      refine Cov.lit [_] [(0, _)] .ro sl61 ty5 rfl rfl rfl rfl rfl rfl (fun b195 hb195 => ?_)
      have o196 : OL (Rep.int .u8) G [.int .u8 (wu8 u188.1)] ([(wu8 u188.1)] : List Int) := ((OL.cons rfl (Rep.intI .u8 (wu8 u188.1)) (OL.nil (Rp' := (Rep.int .u8)))) :)
      refine Cov.reval 19 (n' := ([(wu8 u188.1)] : List Int).length) rfl rfl ?_
      obtain ⟨u202, hu202, r203⟩ := bind_some r189; clear r189
      refine Cov.appO (Q := (Rep.int .u8)) 0 .ro sl61 ty5 rfl rfl rfl rfl rfl rfl o174 o196 rfl rfl rfl B0 hu202 rfl (fun a198 k199 cs200 o201 => ?_)
      refine Cov.q .ro (.assign rfl) rfl ?_
      refine Cov.region_end ?_
      refine Cov.inBlock ?_
      refine Cov.region rfl ?_
      refine Cov.q .ro (.move rfl) rfl ?_
      refine Cov.q .ro (.subw rfl rfl) rfl ?_
      refine Cov.q .ro (.assign rfl) rfl ?_
      refine Cov.region_end ?_
      refine Cov.prune _ ?_ (Cov.same rfl rfl rfl (hb183 (m185, u202, a198, k199, cs200, (w64 (v176 - 1)), u188.2.1, a192, k193, u188.2.2) ⟨o201, s194, r203⟩ (Nat.lt_succ_self _)))
      exact ⟨rfl, rfl, rfl, trivial⟩
    · have r205 := ifF r184 c186; clear r184
      refine Cov.exit rfl ?_
      refine Cov.prune _ ?_ (Cov.same rfl rfl rfl (hb115 (v170, a171, k172, cs173, v177, a178, k179, v181) ⟨o174, s180, r205⟩))
      exact ⟨rfl, trivial⟩

set_option maxHeartbeats 4000000 in
set_option maxRecDepth 100000 in
theorem make_Records_c {Fs : List Hp} {G : Hp} {p0 : Nat} {a0_0 : Option Addr} {k0_0 : Nat} {x0_0 : List Int} {x0_1 : Int} {r : ((List ByteArray) × ((List Int) × Int))} (hG : G ∈ Fs) (s0_0 : SlR (Rep.int .i64) G a0_0 k0_0 x0_0) (h : make_Records (x0_0, x0_1) = some r) : RetW Try.prog 26 #[.pointer (some ⟨p0, 0, none⟩)] Fs [(p0, .cells #[.slice a0_0 x0_0.length k0_0, .int .i64 x0_1] 69 (0, 0))] [] (fun v bo so G => ∃ a0 : Option Addr, ∃ k0 : Nat, ∃ (oa0 : Option Addr) (ok0 : Nat) (oc0 : List Value), v = .slice oa0 r.1.length ok0 ∧ bo = [(p0, .cells #[.slice a0 r.2.1.length k0, .int .i64 r.2.2] 69 (0, 0))] ∧ so = [.s (.slice oa0 r.1.length ok0) 9 1 r.1.length oc0] ∧ SlR (Rep.int .i64) G a0 k0 r.2.1 ∧ OL Rep.str G oc0 r.1) := by
  unfold make_Records at h
  try dsimp only at h
  refine RetW.of (vs := [_]) Try.func26 rfl Try.ntmps26 [(0, _)] ⟨rfl, trivial⟩ rfl hG fun w0 S0 hS0 B0 => ?_
  refine Cov.seq ?_
  refine Cov.region rfl ?_
  refine Cov.q .ro (.assign rfl) rfl ?_
  refine Cov.region_end ?_
  refine Cov.seq ?_
  refine Cov.region rfl ?_
  refine Cov.q .ro (.assign rfl) rfl ?_
  refine Cov.region_end ?_
  refine Cov.seq ?_
  refine Cov.seq ?_
  refine Cov.region rfl ?_
  refine Cov.q .ro (.move rfl) rfl ?_
  obtain ⟨u1, hu1, r2⟩ := bind_some h; clear h
  refine Cov.callS (b1 := [_]) (b2 := []) (s1 := []) [_, _] [] .ro rfl rfl Try.call15 rfl rfl (make_Deck_Next_c (G := G) List.mem_cons_self s0_0 hu1) rfl (fun v4 bo so h3 => ?_)
  obtain ⟨a5, k6, rfl, rfl, rfl, s7⟩ := h3
  refine Cov.same (bl' := [_]) (sl' := []) rfl rfl rfl ?_
  refine Cov.q .ro (.assign rfl) rfl ?_
  refine Cov.region_end ?_
  refine Cov.block ?_
  refine Cov.own_nil 9 1 ?_
  refine Cov.loop2 (α := Nat × Hp × List ByteArray × Option Addr × Nat × List Value × Int × List Int × Option Addr × Nat × Int) (fun y => [(3, .slice y.2.2.2.1 y.2.2.1.length y.2.2.2.2.1), (4, .int .i64 y.2.2.2.2.2.2.1)]) [(0, _)] (fun y => [y.2.1]) (fun y => [(p0, .cells #[.slice y.2.2.2.2.2.2.2.2.1 y.2.2.2.2.2.2.2.1.length y.2.2.2.2.2.2.2.2.2.1, .int .i64 y.2.2.2.2.2.2.2.2.2.2] 69 (0, 0))]) [] (fun y => [.s (.slice y.2.2.2.1 y.2.2.1.length y.2.2.2.2.1) 9 1 y.2.2.1.length y.2.2.2.2.2.1]) [] (fun y => HpLe G y.2.1 ∧ Bd w0 S0 Fs y.2.1 ∧ OL Rep.str y.2.1 y.2.2.2.2.2.1 y.2.2.1 ∧ SlR (Rep.int .i64) y.2.1 y.2.2.2.2.2.2.2.2.1 y.2.2.2.2.2.2.2.2.2.1 y.2.2.2.2.2.2.2.1 ∧ make_Records_L1 y.1 y.2.2.1 y.2.2.2.2.2.2.1 y.2.2.2.2.2.2.2.1 y.2.2.2.2.2.2.2.2.2.2 = some r) (fun y => y.1) (big, G, ([] : List ByteArray), none, 0, [], u1.1, u1.2.1, a5, k6, u1.2.2) ⟨(HpLe.refl _), B0, (OL.nil (Rp' := Rep.str)), s7, r2⟩ ⟨rfl, rfl, rfl, trivial⟩ rfl rfl rfl (fun y hI hb87 => ?_)
  obtain ⟨n68, G70, v74, a75, k76, cs77, v80, v81, a82, k83, v85⟩ := y
  obtain ⟨e71, B72, o78, s84, r86⟩ := hI
  try dsimp only at e71 B72 o78 s84 r86
  refine Cov.prune [(3, .slice a75 v74.length k76), (4, .int .i64 v80), (0, _)] ⟨rfl, rfl, rfl, trivial⟩ ?_
  refine Cov.same (bl' := [(p0, .cells #[.slice a82 v81.length k83, .int .i64 v85] 69 (0, 0))]) (sl' := [.s (.slice a75 v74.length k76) 9 1 v74.length cs77]) (Fs' := G70 :: Fs) rfl rfl rfl ?_
  obtain ⟨m89, rfl⟩ : ∃ m, n68 = m + 1 := by cases n68 with | zero => exact absurd (show (none : Option _) = some _ from r86) (by simp) | succ m => exact ⟨m, rfl⟩
  have r88 : make_Records_B1 (make_Records_L1 m89) v74 v80 v81 v85 = some r := r86; clear r86; unfold make_Records_B1 at r88; try dsimp only at r88
  refine Cov.seq ?_
  refine Cov.seq ?_
  refine Cov.region rfl ?_
  refine Cov.q .ro (.move rfl) rfl ?_
  refine Cov.q .ro (.gtr rfl rfl) rfl ?_
  refine Cov.region_end ?_
  refine Cov.cond_dec rfl (fun c90 => ?_) (fun c90 => ?_)
  · have r91 := ifT r88 c90; clear r88
    refine Cov.skip ?_
    refine Cov.seq ?_
    refine Cov.block ?_
    refine Cov.region rfl ?_
    refine Cov.q .ro (.move rfl) rfl ?_
    refine Cov.q .ro (.move rfl) rfl ?_
    obtain ⟨u92, hu92, r93⟩ := bind_some r91; clear r91
    refine Cov.callW (b1 := [_]) (b2 := []) (s1 := []) [_, _] [] .ro rfl rfl Try.call50 rfl rfl (make_Text_c (G := G70) List.mem_cons_self s84 hu92) rfl B72 (fun v95 bo so G96 e97 B98 h94 => ?_)
    obtain ⟨a100, k101, rfl, rfl, rfl, s102⟩ := h94
    refine Cov.same (bl' := [_]) (sl' := [_]) rfl rfl rfl ?_
    refine Cov.lit [_] [(0, _)] .ro sl25 ty9 rfl rfl rfl rfl rfl rfl (fun b103 hb103 => ?_)
    have o104 : OL Rep.str G96 [.string u92.1] ([u92.1] : List ByteArray) := ((OL.cons rfl (Rep.strI u92.1) (OL.nil (Rp' := Rep.str))) :)
    refine Cov.reval 14 (n' := ([u92.1] : List ByteArray).length) rfl rfl ?_
    obtain ⟨u110, hu110, r111⟩ := bind_some r93; clear r93
    refine Cov.appO (Q := Rep.str) 0 .ro sl25 ty9 rfl rfl rfl rfl rfl rfl (OL.mono e97 o78) o104 rfl rfl rfl B98 hu110 rfl (fun a106 k107 cs108 o109 => ?_)
    refine Cov.q .ro (.assign rfl) rfl ?_
    refine Cov.region_end ?_
    refine Cov.inBlock ?_
    refine Cov.region rfl ?_
    refine Cov.q .ro (.move rfl) rfl ?_
    refine Cov.q .ro (.subw rfl rfl) rfl ?_
    refine Cov.q .ro (.assign rfl) rfl ?_
    refine Cov.region_end ?_
    refine Cov.prune _ ?_ (Cov.same rfl rfl rfl (hb87 (m89, G96, u110, a106, k107, cs108, (w64 (v80 - 1)), u92.2.1, a100, k101, u92.2.2) ⟨(HpLe.trans e71 e97), B98, o109, s102, r111⟩ (Nat.lt_succ_self _)))
    exact ⟨rfl, rfl, rfl, trivial⟩
  · have r113 := ifF r88 c90; clear r88
    refine Cov.exit rfl ?_
    refine Cov.seq ?_
    refine Cov.region rfl ?_
    refine Cov.q .ro (.move rfl) rfl ?_
    refine Cov.q .ro (.assign rfl) rfl ?_
    refine Cov.region_end ?_
    cases r113
    refine Cov.retW (c := ⟨26, none⟩) (.inr ⟨_, rfl⟩) [.tmp 2] [_] rfl Try.func26 Try.results26 ⟨RV.tmp rfl, trivial⟩ (fun _ h => List.mem_cons_of_mem _ h) List.mem_cons_self B72 (by subst hS0; simp [blks]) (fun G' hg => ⟨a82, k83, a75, k76, cs77, rfl, rfl, rfl, (SlR.mono hg s84), (OL.mono hg o78)⟩)

set_option maxHeartbeats 4000000 in
set_option maxRecDepth 100000 in
theorem make_Laid_c {Fs : List Hp} {G : Hp} {p0 : Nat} {a0_0 : Option Addr} {k0_0 : Nat} {x0_0 : List Int} {x0_1 : Int} {r : (Int × (List ByteArray) × (List (List Int)) × (Int × (List (Int × Int × Int))) × ((List Int) × Int))} (hG : G ∈ Fs) (s0_0 : SlR (Rep.int .i64) G a0_0 k0_0 x0_0) (h : make_Laid (x0_0, x0_1) = some r) : RetW Try.prog 14 #[.pointer (some ⟨p0, 0, none⟩)] Fs [(p0, .cells #[.slice a0_0 x0_0.length k0_0, .int .i64 x0_1] 69 (0, 0))] [] (fun v bo so G => ∃ a0 : Option Addr, ∃ k0 : Nat, ∃ a1 : Option Addr, ∃ k1 : Nat, ∃ a2 : Option Addr, ∃ k2 : Nat, ∃ a3 : Option Addr, ∃ k3 : Nat, v = .tuple #[.agg #[.int .i64 r.1], .slice a0 r.2.1.length k0, .slice a1 r.2.2.1.length k1, .agg #[.int .i64 r.2.2.2.1.1, .slice a2 r.2.2.2.1.2.length k2]] ∧ bo = [(p0, .cells #[.slice a3 r.2.2.2.2.1.length k3, .int .i64 r.2.2.2.2.2] 69 (0, 0))] ∧ so = [] ∧ SlR Rep.str G a0 k0 r.2.1 ∧ SlR (Rep.sl (Rep.int .i64)) G a1 k1 r.2.2.1 ∧ SlR (Rep.pair (Rep.int .i64) (Rep.pair (Rep.int .i64) (Rep.int .i64))) G a2 k2 r.2.2.2.1.2 ∧ SlR (Rep.int .i64) G a3 k3 r.2.2.2.2.1) := by
  unfold make_Laid at h
  try dsimp only at h
  refine RetW.of (vs := [_]) Try.func14 rfl Try.ntmps14 [(0, _)] ⟨rfl, trivial⟩ rfl hG fun w0 S0 hS0 B0 => ?_
  refine Cov.seq ?_
  refine Cov.region rfl ?_
  refine Cov.alloc .ro ty24 rfl (fun b1 hb1 => ?_)
  refine Cov.q .ro (.assign rfl) rfl ?_
  refine Cov.q .ro (.assign rfl) rfl ?_
  refine Cov.alloc .ro ty34 rfl (fun b2 hb2 => ?_)
  refine Cov.region_end ?_
  refine Cov.seq ?_
  refine Cov.region rfl ?_
  refine Cov.q .ro (.move rfl) rfl ?_
  obtain ⟨u3, hu3, r4⟩ := bind_some h; clear h
  refine Cov.pull 2 rfl [_, _, _] rfl ?_
  refine Cov.callS (b1 := [_]) (b2 := [_, _]) (s1 := []) [_] [] .ro rfl rfl Try.call25 rfl rfl (make_Field_c (G := G) List.mem_cons_self s0_0 hu3) rfl (fun v6 bo so h5 => ?_)
  obtain ⟨a7, k8, rfl, rfl, rfl, s9⟩ := h5
  refine Cov.same (bl' := [_, _, _]) (sl' := []) rfl rfl rfl ?_
  refine Cov.q .ro (.move rfl) rfl ?_
  obtain ⟨u10, hu10, r11⟩ := bind_some r4; clear r4
  refine Cov.callW (b1 := [_]) (b2 := [_, _]) (s1 := []) [_] [] .ro rfl rfl Try.call26 rfl rfl (make_Records_c (G := G) List.mem_cons_self s9 hu10) rfl B0 (fun v13 bo so G14 e15 B16 h12 => ?_)
  obtain ⟨a23, k24, a19, k20, cs21, rfl, rfl, rfl, s25, o22⟩ := h12
  refine Cov.same (bl' := [_, _, _]) (sl' := [_]) rfl rfl rfl ?_
  refine Cov.alloc .ro ty24 rfl (fun b26 hb26 => ?_)
  refine Cov.store 0 [_] [_, _, _, _] .ro rfl rfl rfl ty24 rfl rfl rfl rfl ?_
  refine Cov.q .ro (.assign rfl) rfl ?_
  refine Cov.region_end ?_
  refine Cov.seq ?_
  refine Cov.cutG (β := Hp × Nat × Int × (List (Int × Int × Int)) × Option Addr × Nat × List ByteArray × Option Addr × Nat × List (List Int) × Option Addr × Nat × List Int × Option Addr × Nat × Int) (fun y => [(7, .slice y.2.2.2.2.2.2.2.1 y.2.2.2.2.2.2.1.length y.2.2.2.2.2.2.2.2.1), (9, .pointer (some ⟨y.2.1, 0, none⟩)), (8, .slice y.2.2.2.2.2.2.2.2.2.2.1 y.2.2.2.2.2.2.2.2.2.1.length y.2.2.2.2.2.2.2.2.2.2.2.1)]) [(2, _), (5, _), (6, _)] (fun y => y.1 :: Fs) (fun y => [(y.2.1, .cells #[.int .i64 y.2.2.1, .slice y.2.2.2.2.1 y.2.2.2.1.length y.2.2.2.2.2.1] 34 (0, 0)), (p0, .cells #[.slice y.2.2.2.2.2.2.2.2.2.2.2.2.2.1 y.2.2.2.2.2.2.2.2.2.2.2.2.1.length y.2.2.2.2.2.2.2.2.2.2.2.2.2.2.1, .int .i64 y.2.2.2.2.2.2.2.2.2.2.2.2.2.2.2] 69 (0, 0))]) [_, _, _] (fun y => []) [] (fun y => HpLe G14 y.1 ∧ Bd w0 S0 Fs y.1 ∧ SlR (Rep.pair (Rep.int .i64) (Rep.pair (Rep.int .i64) (Rep.int .i64))) y.1 y.2.2.2.2.1 y.2.2.2.2.2.1 y.2.2.2.1 ∧ SlR Rep.str y.1 y.2.2.2.2.2.2.2.1 y.2.2.2.2.2.2.2.2.1 y.2.2.2.2.2.2.1 ∧ SlR (Rep.sl (Rep.int .i64)) y.1 y.2.2.2.2.2.2.2.2.2.2.1 y.2.2.2.2.2.2.2.2.2.2.2.1 y.2.2.2.2.2.2.2.2.2.1 ∧ SlR (Rep.int .i64) y.1 y.2.2.2.2.2.2.2.2.2.2.2.2.2.1 y.2.2.2.2.2.2.2.2.2.2.2.2.2.2.1 y.2.2.2.2.2.2.2.2.2.2.2.2.1 ∧ (make_Laid_J1 u3.1) y.2.2.1 y.2.2.2.1 y.2.2.2.2.2.2.1 y.2.2.2.2.2.2.2.2.2.1 y.2.2.2.2.2.2.2.2.2.2.2.2.1 y.2.2.2.2.2.2.2.2.2.2.2.2.2.2.2 = some r) ⟨rfl, rfl, rfl, trivial⟩ [0, 2, 3] rfl [] rfl ?_ ?_
  · intro y hI
    obtain ⟨G4070, b4074, v4075, v4076, a4077, k4078, v4080, a4081, k4082, v4084, a4085, k4086, v4088, a4089, k4090, v4092⟩ := y
    obtain ⟨e4071, B4072, s4079, s4083, s4087, s4091, r4094⟩ := hI
    try dsimp only at e4071 B4072 s4079 s4083 s4087 s4091 r4094
    refine Cov.prune [(7, .slice a4081 v4080.length k4082), (9, .pointer (some ⟨b4074, 0, none⟩)), (8, .slice a4085 v4084.length k4086), (2, _), (5, _), (6, _)] ⟨rfl, rfl, rfl, rfl, rfl, rfl, trivial⟩ ?_
    refine Cov.same (bl' := [(b4074, .cells #[.int .i64 v4075, .slice a4077 v4076.length k4078] 34 (0, 0)), (p0, .cells #[.slice a4089 v4088.length k4090, .int .i64 v4092] 69 (0, 0)), _, _, _]) (sl' := []) (Fs' := G4070 :: Fs) rfl rfl rfl ?_
    unfold make_Laid_J1 at r4094
    try dsimp only at r4094
    refine Cov.seq ?_
    refine Cov.drawL (.q 0 (.q 1 (.q 2 (.q 3 (.e 4 1 (.q 5 (.q 6 (.e 7 2 .nil)))))))) [_, _, _, _] (by kernel_rfl) (by kernel_rfl) (pick_mem [0, 1, 2, 3] rfl) ?_
    refine Cov.dq (.load_own_a 2 [_] rfl rfl ty24 rfl) rfl ?_
    refine Cov.dq (.move rfl) rfl ?_
    refine Cov.dq (.move rfl) rfl ?_
    refine Cov.dq (.load_own_a 0 [_, _] rfl rfl ty34 rfl) rfl ?_
    refine Cov.store 4 [_] [_, _, _, _, _] .d1 rfl rfl rfl ty24 rfl rfl rfl rfl ?_
    refine Cov.clsL (HpLe.refl _) (pick_mem [0, 1, 2, 3] rfl) ?_
    refine Cov.dq (.assign rfl) rfl ?_
    refine Cov.dq (.assign rfl) rfl ?_
    refine Cov.store 3 [_, _] [_, _, _, _, _] .d2 rfl rfl rfl ty34 rfl rfl rfl rfl ?_
    refine Cov.draw_end ?_
    cases r4094
    refine Cov.pull 1 rfl [_, _, _, _, _] rfl ?_
    refine Cov.pull 4 rfl [_, _, _, _, _] rfl ?_
    refine Cov.pull 4 rfl [_, _, _, _, _] rfl ?_
    refine Cov.pull 4 rfl [_, _, _, _, _] rfl ?_
    refine Cov.pull 4 rfl [_, _, _, _, _] rfl ?_
    refine Cov.retWD 4 (c := ⟨14, none⟩) (.inr ⟨_, rfl⟩) [.cell 2 24, .tmp 3, .tmp 4, .cell 5 34] [_, _, _, _] rfl Try.func14 Try.results14 ⟨RV.cell_a 3 [_] rfl rfl ty24 rfl, RV.tmp rfl, RV.tmp rfl, RV.cell_a 2 [_, _] rfl rfl ty34 rfl, trivial⟩ (fun _ h => List.mem_cons_of_mem _ h) List.mem_cons_self B4072 (by subst hS0; simp [blks]) (fun G' hg => ⟨a4081, k4082, a4085, k4086, a4077, k4078, a4089, k4090, rfl, rfl, rfl, (SlR.mono hg s4083), (SlR.mono hg s4087), (SlR.mono hg s4079), (SlR.mono hg s4091)⟩)
  · intro hb4096
    refine Cov.freezeR 0 rfl rfl o22 [] rfl B16 (fun G4097 e4098 B4099 s4100 => ?_)
    refine Cov.drawL (.q 0 (.q 1 (.q 4 (.alt (.e 2 1 (.q 3 (.alt (.e 5 1 (.q 6 (.q 7 (.q 8 (.q 9 (.e 10 1 (.q 11 (.e 12 1 (.q 13 .nil))))))))) (.e 10 1 (.e 5 1 (.q 6 (.q 7 (.q 8 (.q 9 (.q 11 (.e 12 1 (.q 13 .nil)))))))))))) (.e 10 1 (.e 2 1 (.q 3 (.e 5 1 (.q 6 (.q 7 (.q 8 (.q 9 (.q 11 (.e 12 1 (.q 13 .nil))))))))))))))) [_, _, _] (by kernel_rfl) (by kernel_rfl) (pick_mem [0, 2, 3] rfl) ?_
    obtain ⟨u4102, hu4102, r4122⟩ := bind_some r11; clear r11
    obtain ⟨u4108, hu4108, r4123⟩ := bind_some r4122; clear r4122
    refine Cov.dq (.load_own_a 0 [_] rfl rfl ty24 rfl) rfl ?_
    refine Cov.dq (.move rfl) rfl ?_
    refine Cov.dq (.move rfl) rfl ?_
    refine Cov.alt ?_ ?_
    · refine Cov.pull 1 rfl [_, _, _, _] rfl ?_
      refine Cov.callS (b1 := [_]) (b2 := [_, _, _]) (s1 := []) [_, _] [] .d1 rfl rfl Try.call15 rfl rfl (make_Deck_Next_c (G := G4097) List.mem_cons_self (SlR.mono e4098 s25) hu4102) rfl (fun v4125 bo so h4124 => ?_)
      obtain ⟨a4126, k4127, rfl, rfl, rfl, s4128⟩ := h4124
      refine Cov.same (bl' := [_, _, _, _]) (sl' := []) rfl rfl rfl ?_
      refine Cov.clsL (HpLe.refl _) (pick_mem [1, 2, 3] rfl) ?_
      refine Cov.dq (.addw rfl rfl) rfl ?_
      refine Cov.alt ?_ ?_
      · refine Cov.callW (b1 := []) (b2 := [_, _, _, _]) (s1 := []) [_, _, _] [] .d1 rfl rfl Try.call20 rfl rfl (ref13_Encode_c (G := G4097) List.mem_cons_self s4100 hu4108) rfl B4099 (fun v4130 bo so G4131 e4132 B4133 h4129 => ?_)
        obtain ⟨a4135, k4136, a4138, k4139, rfl, rfl, rfl, s4137, s4140⟩ := h4129
        refine Cov.same (bl' := [_, _, _, _]) (sl' := []) rfl rfl rfl ?_
        refine Cov.clsL e4132 (pick_mem [1, 2, 3] rfl) ?_
        refine Cov.dq (.move rfl) rfl ?_
        refine Cov.dq (.extract rfl rfl) rfl ?_
        refine Cov.dq (.extract rfl rfl) rfl ?_
        refine Cov.dq (.extract rfl rfl) rfl ?_
        refine Cov.alloc .d1 ty34 rfl (fun b4141 hb4141 => ?_)
        refine Cov.clsL e4132 (pick_mem [2, 3, 4] rfl) ?_
        refine Cov.dq (.assign rfl) rfl ?_
        refine Cov.store 0 [_, _] [_, _, _, _, _] .d1 rfl rfl rfl ty34 rfl rfl rfl rfl ?_
        refine Cov.clsL e4132 (pick_mem [2, 3, 4] rfl) ?_
        refine Cov.dq (.assign rfl) rfl ?_
        refine Cov.draw_end ?_
        refine Cov.prune [(2, _), (5, _), (6, _), (7, _), (9, _), (8, _)] ⟨rfl, rfl, rfl, rfl, rfl, rfl, trivial⟩ ?_
        refine Cov.prune _ ?_ (Cov.same rfl rfl rfl (hb4096 (G4131, b4141, u4108.2.1.1, u4108.2.1.2, a4138, k4139, u10.1, a19, k20, u4108.1, a4135, k4136, u4102.2.1, a4126, k4127, u4102.2.2) ⟨(HpLe.trans e4098 e4132), B4133, s4140, (SlR.mono e4132 s4100), s4137, (SlR.mono e4132 s4128), r4123⟩))
        exact ⟨rfl, rfl, rfl, rfl, rfl, rfl, trivial⟩
      · refine Cov.alloc .d1 ty34 rfl (fun b4142 hb4142 => ?_)
        refine Cov.clsL (HpLe.refl _) (pick_mem [2, 3, 4] rfl) ?_
        refine Cov.callW (b1 := []) (b2 := [_, _, _, _, _]) (s1 := []) [_, _, _] [] .d1 rfl rfl Try.call20 rfl rfl (ref13_Encode_c (G := G4097) List.mem_cons_self s4100 hu4108) rfl B4099 (fun v4144 bo so G4145 e4146 B4147 h4143 => ?_)
        obtain ⟨a4149, k4150, a4152, k4153, rfl, rfl, rfl, s4151, s4154⟩ := h4143
        refine Cov.same (bl' := [_, _, _, _, _]) (sl' := []) rfl rfl rfl ?_
        refine Cov.clsL e4146 (pick_mem [2, 3, 4] rfl) ?_
        refine Cov.dq (.move rfl) rfl ?_
        refine Cov.dq (.extract rfl rfl) rfl ?_
        refine Cov.dq (.extract rfl rfl) rfl ?_
        refine Cov.dq (.extract rfl rfl) rfl ?_
        refine Cov.dq (.assign rfl) rfl ?_
        refine Cov.store 0 [_, _] [_, _, _, _, _] .d1 rfl rfl rfl ty34 rfl rfl rfl rfl ?_
        refine Cov.clsL e4146 (pick_mem [2, 3, 4] rfl) ?_
        refine Cov.dq (.assign rfl) rfl ?_
        refine Cov.draw_end ?_
        refine Cov.prune [(2, _), (5, _), (6, _), (7, _), (9, _), (8, _)] ⟨rfl, rfl, rfl, rfl, rfl, rfl, trivial⟩ ?_
        refine Cov.prune _ ?_ (Cov.same rfl rfl rfl (hb4096 (G4145, b4142, u4108.2.1.1, u4108.2.1.2, a4152, k4153, u10.1, a19, k20, u4108.1, a4149, k4150, u4102.2.1, a4126, k4127, u4102.2.2) ⟨(HpLe.trans e4098 e4146), B4147, s4154, (SlR.mono e4146 s4100), s4151, (SlR.mono e4146 s4128), r4123⟩))
        exact ⟨rfl, rfl, rfl, rfl, rfl, rfl, trivial⟩
    · refine Cov.alloc .d1 ty34 rfl (fun b4155 hb4155 => ?_)
      refine Cov.clsL (HpLe.refl _) (pick_mem [1, 3, 4] rfl) ?_
      refine Cov.pull 2 rfl [_, _, _, _, _] rfl ?_
      refine Cov.callS (b1 := [_]) (b2 := [_, _, _, _]) (s1 := []) [_, _] [] .d1 rfl rfl Try.call15 rfl rfl (make_Deck_Next_c (G := G4097) List.mem_cons_self (SlR.mono e4098 s25) hu4102) rfl (fun v4157 bo so h4156 => ?_)
      obtain ⟨a4158, k4159, rfl, rfl, rfl, s4160⟩ := h4156
      refine Cov.same (bl' := [_, _, _, _, _]) (sl' := []) rfl rfl rfl ?_
      refine Cov.clsL (HpLe.refl _) (pick_mem [2, 3, 4] rfl) ?_
      refine Cov.dq (.addw rfl rfl) rfl ?_
      refine Cov.callW (b1 := []) (b2 := [_, _, _, _, _]) (s1 := []) [_, _, _] [] .d1 rfl rfl Try.call20 rfl rfl (ref13_Encode_c (G := G4097) List.mem_cons_self s4100 hu4108) rfl B4099 (fun v4162 bo so G4163 e4164 B4165 h4161 => ?_)
      obtain ⟨a4167, k4168, a4170, k4171, rfl, rfl, rfl, s4169, s4172⟩ := h4161
      refine Cov.same (bl' := [_, _, _, _, _]) (sl' := []) rfl rfl rfl ?_
      refine Cov.clsL e4164 (pick_mem [2, 3, 4] rfl) ?_
      refine Cov.dq (.move rfl) rfl ?_
      refine Cov.dq (.extract rfl rfl) rfl ?_
      refine Cov.dq (.extract rfl rfl) rfl ?_
      refine Cov.dq (.extract rfl rfl) rfl ?_
      refine Cov.dq (.assign rfl) rfl ?_
      refine Cov.store 1 [_, _] [_, _, _, _, _] .d1 rfl rfl rfl ty34 rfl rfl rfl rfl ?_
      refine Cov.clsL e4164 (pick_mem [2, 3, 4] rfl) ?_
      refine Cov.dq (.assign rfl) rfl ?_
      refine Cov.draw_end ?_
      refine Cov.prune [(2, _), (5, _), (6, _), (7, _), (9, _), (8, _)] ⟨rfl, rfl, rfl, rfl, rfl, rfl, trivial⟩ ?_
      refine Cov.pull 4 rfl [_, _, _, _, _] rfl ?_
      refine Cov.pull 4 rfl [_, _, _, _, _] rfl ?_
      refine Cov.pull 4 rfl [_, _, _, _, _] rfl ?_
      refine Cov.pull 3 rfl [_, _, _, _, _] rfl ?_
      refine Cov.pull 4 rfl [_, _, _, _, _] rfl ?_
      refine Cov.prune _ ?_ (Cov.same rfl rfl rfl (hb4096 (G4163, b4155, u4108.2.1.1, u4108.2.1.2, a4170, k4171, u10.1, a19, k20, u4108.1, a4167, k4168, u4102.2.1, a4158, k4159, u4102.2.2) ⟨(HpLe.trans e4098 e4164), B4165, s4172, (SlR.mono e4164 s4100), s4169, (SlR.mono e4164 s4160), r4123⟩))
      exact ⟨rfl, rfl, rfl, rfl, rfl, rfl, trivial⟩

set_option maxHeartbeats 4000000 in
set_option maxRecDepth 100000 in
theorem ref13_Digits_c {Fs : List Hp} {G : Hp} {x0_0 : Int} {r : (Int × Int)} (hG : G ∈ Fs)  (h : ref13_Digits x0_0 = some r) : RetS Try.prog 17 #[.agg #[.int .i64 x0_0]] Fs [] [] (fun v bo so => v = .tuple #[.int .i64 r.1, .int .i64 r.2] ∧ bo = [] ∧ so = []) := by
  unfold ref13_Digits at h
  try dsimp only at h
  refine RetS.of (vs := [_]) Try.func17 rfl Try.ntmps17 [(0, _)] ⟨rfl, trivial⟩ rfl hG fun w0 S0 hS0 B0 => ?_
  refine Cov.seq ?_
  refine Cov.region rfl ?_
  refine Cov.box [_] .ro rfl rfl rfl (fun b1 hb1 => ?_)
  refine Cov.q .ro (.assign rfl) rfl ?_
  refine Cov.q .ro (.assign rfl) rfl ?_
  refine Cov.region_end ?_
  refine Cov.seq ?_
  refine Cov.seq ?_
  refine Cov.region rfl ?_
  refine Cov.q .ro (.load_own_a 0 [_] rfl rfl ty24 rfl) rfl ?_
  obtain ⟨u2, hu2, r3⟩ := bind_some h; clear h
  refine Cov.callS (b1 := []) (b2 := [_]) (s1 := []) [_] [] .ro rfl rfl Try.call38 rfl rfl (ref03_Check_c (G := G) List.mem_cons_self  hu2) rfl (fun v5 bo so h4 => ?_)
  obtain ⟨rfl, rfl, rfl⟩ := h4
  refine Cov.same (bl' := [_]) (sl' := []) rfl rfl rfl ?_
  refine Cov.q .ro (.assign rfl) rfl ?_
  refine Cov.region_end ?_
  refine Cov.seq ?_
  refine Cov.region rfl ?_
  refine Cov.q .ro (.move rfl) rfl ?_
  refine Cov.q .ro (.neq rfl rfl) rfl ?_
  refine Cov.region_end ?_
  refine Cov.cond_dec rfl (fun c6 => ?_) (fun c6 => ?_)
  · have r7 := ifT r3 c6; clear r3
    refine Cov.seq ?_
    refine Cov.region rfl ?_
    refine Cov.q .ro (.move rfl) rfl ?_
    refine Cov.q .ro (.assign rfl) rfl ?_
    refine Cov.q .ro (.assign rfl) rfl ?_
    refine Cov.region_end ?_
    cases r7
    refine Cov.drop 1 0 [] _ rfl rfl ?_
    refine Cov.retS (c := ⟨17, none⟩) (.inr ⟨_, rfl⟩) [.tmp 2, .tmp 3] [_, _] rfl Try.func17 Try.results17 ⟨RV.tmp rfl, RV.tmp rfl, trivial⟩ (fun _ h => List.mem_cons_of_mem _ h) ⟨rfl, rfl, rfl⟩
  · have r8 := ifF r3 c6; clear r3
    refine Cov.skip ?_
    refine Cov.seq ?_
    refine Cov.region rfl ?_
    refine Cov.q .ro (.load_own_a 0 [_] rfl rfl ty24 rfl) rfl ?_
    obtain ⟨u9, hu9, r10⟩ := bind_some r8; clear r8
    refine Cov.callS (b1 := []) (b2 := [_]) (s1 := []) [_] [] .ro rfl rfl Try.call39 rfl rfl (ref13_digits_c (G := G) List.mem_cons_self  hu9) rfl (fun v12 bo so h11 => ?_)
    obtain ⟨rfl, rfl, rfl⟩ := h11
    refine Cov.same (bl' := [_]) (sl' := []) rfl rfl rfl ?_
    refine Cov.q .ro (.assign rfl) rfl ?_
    refine Cov.q .ro (.assign rfl) rfl ?_
    refine Cov.region_end ?_
    cases r10
    refine Cov.drop 1 0 [] _ rfl rfl ?_
    refine Cov.retS (c := ⟨17, none⟩) (.inr ⟨_, rfl⟩) [.tmp 2, .tmp 3] [_, _] rfl Try.func17 Try.results17 ⟨RV.tmp rfl, RV.tmp rfl, trivial⟩ (fun _ h => List.mem_cons_of_mem _ h) ⟨rfl, rfl, rfl⟩

set_option maxHeartbeats 4000000 in
set_option maxRecDepth 100000 in
theorem ref04_SameRows_c {Fs : List Hp} {G : Hp} {a0 : Option Addr} {k0 : Nat} {x0 : List (List Int)} {a1 : Option Addr} {k1 : Nat} {x1 : List (List Int)} {r : Bool} (hG : G ∈ Fs) (s0 : SlR (Rep.sl (Rep.int .i64)) G a0 k0 x0) (s1 : SlR (Rep.sl (Rep.int .i64)) G a1 k1 x1) (h : ref04_SameRows x0 x1 = some r) : RetS Try.prog 21 #[.slice a0 x0.length k0, .slice a1 x1.length k1] Fs [] [] (fun v bo so => v = .bool r ∧ bo = [] ∧ so = []) := by
  unfold ref04_SameRows at h
  try dsimp only at h
  refine RetS.of (vs := [_, _]) Try.func21 rfl Try.ntmps21 [(0, _), (1, _)] ⟨rfl, rfl, trivial⟩ rfl hG fun w0 S0 hS0 B0 => ?_
  refine Cov.seq ?_
  refine Cov.region rfl ?_
  refine Cov.q .ro (.assign rfl) rfl ?_
  refine Cov.region_end ?_
  refine Cov.seq ?_
  refine Cov.seq ?_
  refine Cov.region rfl ?_
  refine Cov.q .ro (.move rfl) rfl ?_
  refine Cov.q .ro (.len_sl rfl rfl sl26) rfl ?_
  refine Cov.q .ro (.move rfl) rfl ?_
  refine Cov.q .ro (.len_sl rfl rfl sl26) rfl ?_
  refine Cov.q .ro (.neq rfl rfl) rfl ?_
  refine Cov.region_end ?_
  refine Cov.cond_dec rfl (fun c1 => ?_) (fun c1 => ?_)
  · have r2 := ifT h c1; clear h
    refine Cov.seq ?_
    refine Cov.region rfl ?_
    refine Cov.q .ro (.assign rfl) rfl ?_
    refine Cov.region_end ?_
    cases r2
    refine Cov.retS (c := ⟨21, none⟩) (.inr ⟨_, rfl⟩) [.tmp 4] [_] rfl Try.func21 Try.results21 ⟨RV.tmp rfl, trivial⟩ (fun _ h => List.mem_cons_of_mem _ h) ⟨rfl, rfl, rfl⟩
  · have r3 := ifF h c1; clear h
    refine Cov.skip ?_
    refine Cov.seq ?_
    refine Cov.seq ?_
    refine Cov.region rfl ?_
    refine Cov.q .ro (.move rfl) rfl ?_
    refine Cov.q .ro (.len_sl rfl rfl sl26) rfl ?_
    refine Cov.q .ro (.move rfl) rfl ?_
    refine Cov.region_end ?_
    refine Cov.block ?_
    refine Cov.loop2 (α := Nat × List (List Int)) (fun y => [(13, .int .i64 (y.1 : Int))]) [(0, _), (1, _), (12, _)] (fun y => []) (fun y => []) [] (fun y => []) [] (fun y => List.drop y.1 x0 = y.2 ∧ ref04_SameRows_L1 x1 y.2 y.1  = some r) (fun y => y.2.length) (0, x0) ⟨rfl, r3⟩ ⟨rfl, rfl, rfl, rfl, trivial⟩ rfl rfl rfl (fun y hI hb37 => ?_)
    obtain ⟨i33, w34⟩ := y
    obtain ⟨g35, r36⟩ := hI
    try dsimp only at g35 r36
    refine Cov.prune [(13, .int .i64 (i33 : Int)), (0, _), (1, _), (12, _)] ⟨rfl, rfl, rfl, rfl, trivial⟩ ?_
    refine Cov.same (bl' := []) (sl' := []) (Fs' := G :: Fs) rfl rfl rfl ?_
    cases w34 with
    | nil =>
      rw [ref04_SameRows_L1] at r36; try dsimp only at r36
      refine Cov.seq ?_
      refine Cov.region rfl ?_
      refine Cov.q .ro (.lss rfl rfl) rfl ?_
      refine Cov.region_end ?_
      refine Cov.seq ?_
      refine Cov.cond_dec rfl (fun c => absurd c (drop_nil g35)) (fun _ => ?_)
      refine Cov.exit rfl ?_
      refine Cov.seq ?_
      refine Cov.region rfl ?_
      refine Cov.q .ro (.assign rfl) rfl ?_
      refine Cov.region_end ?_
      cases r36
      refine Cov.retS (c := ⟨21, none⟩) (.inr ⟨_, rfl⟩) [.tmp 4] [_] rfl Try.func21 Try.results21 ⟨RV.tmp rfl, trivial⟩ (fun _ h => List.mem_cons_of_mem _ h) ⟨rfl, rfl, rfl⟩
    | cons x42 xs43 =>
      have r41 : ref04_SameRows_B1 x1 (ref04_SameRows_L1 x1 xs43 (i33 + 1)) x42 i33  = some r := r36; clear r36; unfold ref04_SameRows_B1 at r41; try dsimp only at r41
      refine Cov.seq ?_
      refine Cov.region rfl ?_
      refine Cov.q .ro (.lss rfl rfl) rfl ?_
      refine Cov.region_end ?_
      refine Cov.seq ?_
      refine Cov.cond_dec rfl (fun _ => ?_) (fun c => absurd (drop_lt g35) c)
      refine Cov.skip ?_
      refine Cov.seq ?_
      refine Cov.block ?_
      refine Cov.seq ?_
      refine Cov.region rfl ?_
      refine Cov.q .ro (.move rfl) rfl ?_
      refine Cov.q .ro (.assign rfl) rfl ?_
      refine Cov.region_end ?_
      refine Cov.seq ?_
      refine Cov.drawL (.q 0 (.q 1 (.q 2 (.q 3 (.q 4 (.q 5 (.q 6 (.q 7 (.e 8 1 (.q 9 .nil)))))))))) [] (by kernel_rfl) (by kernel_rfl) (pick_mem [] rfl) ?_
      refine Cov.dq (.move rfl) rfl ?_
      refine Cov.dq (.move rfl) rfl ?_
      obtain ⟨c44, p45, h46⟩ := SlR.get s0 (drop_idx g35)
      obtain ⟨a47, k48, rfl, s49⟩ := h46
      refine Cov.dq (.idxR s0 rfl rfl (drop_idx g35) sl26 ty22.sz) rfl ?_
      refine Cov.dq (.load_rp p45 List.mem_cons_self rfl ty22 rfl) rfl ?_
      refine Cov.dq (.move rfl) rfl ?_
      refine Cov.dq (.move rfl) rfl ?_
      obtain ⟨u50, hu50, r51⟩ := bind_some r41; clear r41
      obtain ⟨c52, p53, h54⟩ := SlR.get s1 hu50
      obtain ⟨a55, k56, rfl, s57⟩ := h54
      refine Cov.dq (.idxR s1 rfl rfl hu50 sl26 ty22.sz) rfl ?_
      refine Cov.dq (.load_rp p53 List.mem_cons_self rfl ty22 rfl) rfl ?_
      obtain ⟨u58, hu58, r59⟩ := bind_some r51; clear r51
      refine Cov.callS (b1 := []) (b2 := []) (s1 := []) [_, _] [] .d1 rfl rfl Try.call34 rfl rfl (ref04_Same_c (G := G) List.mem_cons_self s49 s57 hu58) rfl (fun v61 bo so h60 => ?_)
      obtain ⟨rfl, rfl, rfl⟩ := h60
      refine Cov.same (bl' := []) (sl' := []) rfl rfl rfl ?_
      refine Cov.clsL (HpLe.refl _) (pick_mem [] rfl) ?_
      refine Cov.dq (.not rfl) rfl ?_
      refine Cov.draw_end ?_
      refine Cov.cond rfl (fun c62 => ?_) (fun c62 => ?_)
      · have r63 := ifT r59 c62; clear r59
        refine Cov.seq ?_
        refine Cov.region rfl ?_
        refine Cov.q .ro (.assign rfl) rfl ?_
        refine Cov.region_end ?_
        refine Cov.prune [(4, _)] ⟨rfl, trivial⟩ ?_
        cases r63
        refine Cov.retS (c := ⟨21, none⟩) (.inr ⟨_, rfl⟩) [.tmp 4] [_] rfl Try.func21 Try.results21 ⟨RV.tmp rfl, trivial⟩ (fun _ h => List.mem_cons_of_mem _ h) ⟨rfl, rfl, rfl⟩
      · have r64 := ifBF r59 c62; clear r59
        refine Cov.skip ?_
        refine Cov.inBlock ?_
        refine Cov.region rfl ?_
        refine Cov.q .ro (.addw rfl rfl) rfl ?_
        refine Cov.q .ro (.move rfl) rfl ?_
        refine Cov.region_end ?_
        refine Cov.prune [(13, _), (0, _), (1, _), (12, _)] ⟨rfl, rfl, rfl, rfl, trivial⟩ ?_
        refine Cov.prune _ ?_ (Cov.same rfl rfl rfl (hb37 ((i33 + 1), xs43) ⟨(drop_succ g35), r64⟩ (Nat.lt_succ_self _)))
        exact ⟨(congrArg (fun z => some (Value.int .i64 z)) (idx_wrap (SlR.len s0) g35)), rfl, rfl, rfl, trivial⟩

set_option maxHeartbeats 4000000 in
set_option maxRecDepth 100000 in
theorem ref13_Same_c {Fs : List Hp} {G : Hp} {x0_0 : Int} {a0_1 : Option Addr} {k0_1 : Nat} {x0_1 : List (Int × Int × Int)} {x1_0 : Int} {a1_1 : Option Addr} {k1_1 : Nat} {x1_1 : List (Int × Int × Int)} {r : Bool} (hG : G ∈ Fs) (s0_1 : SlR (Rep.pair (Rep.int .i64) (Rep.pair (Rep.int .i64) (Rep.int .i64))) G a0_1 k0_1 x0_1) (s1_1 : SlR (Rep.pair (Rep.int .i64) (Rep.pair (Rep.int .i64) (Rep.int .i64))) G a1_1 k1_1 x1_1) (h : ref13_Same (x0_0, x0_1) (x1_0, x1_1) = some r) : RetS Try.prog 22 #[.agg #[.int .i64 x0_0, .slice a0_1 x0_1.length k0_1], .agg #[.int .i64 x1_0, .slice a1_1 x1_1.length k1_1]] Fs [] [] (fun v bo so => v = .bool r ∧ bo = [] ∧ so = []) := by
  unfold ref13_Same at h
  try dsimp only at h
  refine RetS.of (vs := [_, _]) Try.func22 rfl Try.ntmps22 [(0, _), (1, _)] ⟨rfl, rfl, trivial⟩ rfl hG fun w0 S0 hS0 B0 => ?_
  refine Cov.seq ?_
  refine Cov.region rfl ?_
  refine Cov.box [_, _] .ro rfl rfl rfl (fun b1 hb1 => ?_)
  refine Cov.box [_, _] .ro rfl rfl rfl (fun b2 hb2 => ?_)
  refine Cov.q .ro (.assign rfl) rfl ?_
  refine Cov.region_end ?_
  refine Cov.seq ?_
  refine Cov.seq ?_
  refine Cov.region rfl ?_
  refine Cov.q .ro (.fieldAddr 0 rfl fl34_0 ty3.sz rfl) rfl ?_
  refine Cov.q .ro (.load_own 1 rfl rfl ty3 rfl) rfl ?_
  refine Cov.q .ro (.fieldAddr 0 rfl fl34_0 ty3.sz rfl) rfl ?_
  refine Cov.q .ro (.load_own 0 rfl rfl ty3 rfl) rfl ?_
  refine Cov.q .ro (.neq rfl rfl) rfl ?_
  refine Cov.q .ro (.move rfl) rfl ?_
  refine Cov.cutR 8 (β := Unit) (fun y => [(19, .bool (decide ((x0_0 ≠ x1_0) ∨ ((x0_1.length : Int) ≠ (x1_1.length : Int)))))]) [(2, _), (3, _)] (fun y => G :: Fs) (fun y => []) [_, _] (fun y => []) [] (fun y => True) ⟨rfl, rfl, trivial⟩ [0, 1] rfl [] rfl ?_ ?_
  · rintro _ _
    refine Cov.prune [(19, .bool (decide ((x0_0 ≠ x1_0) ∨ ((x0_1.length : Int) ≠ (x1_1.length : Int))))), (2, _), (3, _)] ⟨rfl, rfl, rfl, trivial⟩ ?_
    refine Cov.same (bl' := [_, _]) (sl' := []) (Fs' := G :: Fs) rfl rfl rfl ?_
    refine Cov.region_end ?_
    refine Cov.cond_dec rfl (fun c7 => ?_) (fun c7 => ?_)
    · have r8 := ifT h c7; clear h
      refine Cov.seq ?_
      refine Cov.region rfl ?_
      refine Cov.q .ro (.assign rfl) rfl ?_
      refine Cov.region_end ?_
      cases r8
      refine Cov.drop 2 0 [] _ rfl rfl ?_
      refine Cov.retS (c := ⟨22, none⟩) (.inr ⟨_, rfl⟩) [.tmp 4] [_] rfl Try.func22 Try.results22 ⟨RV.tmp rfl, trivial⟩ (fun _ h => List.mem_cons_of_mem _ h) ⟨rfl, rfl, rfl⟩
    · have r9 := ifF h c7; clear h
      refine Cov.skip ?_
      refine Cov.seq ?_
      refine Cov.seq ?_
      refine Cov.region rfl ?_
      refine Cov.q .ro (.fieldAddr 1 rfl fl34_1 ty32.sz rfl) rfl ?_
      refine Cov.q .ro (.load_own 1 rfl rfl ty32 rfl) rfl ?_
      refine Cov.q .ro (.len_sl rfl rfl sl32) rfl ?_
      refine Cov.q .ro (.move rfl) rfl ?_
      refine Cov.region_end ?_
      refine Cov.block ?_
      refine Cov.loop2 (α := Nat × (List (Int × Int × Int))) (fun y => [(23, .int .i64 (y.1 : Int))]) [(2, _), (3, _), (22, _)] (fun y => []) (fun y => []) [_, _] (fun y => []) [] (fun y => List.drop y.1 x0_1 = y.2 ∧ ref13_Same_L1 x1_1 y.2 y.1  = some r) (fun y => y.2.length) (0, x0_1) ⟨rfl, r9⟩ ⟨rfl, rfl, rfl, rfl, trivial⟩ rfl rfl rfl (fun y hI hb35 => ?_)
      obtain ⟨i31, w32⟩ := y
      obtain ⟨g33, r34⟩ := hI
      try dsimp only at g33 r34
      refine Cov.prune [(23, .int .i64 (i31 : Int)), (2, _), (3, _), (22, _)] ⟨rfl, rfl, rfl, rfl, trivial⟩ ?_
      refine Cov.same (bl' := [_, _]) (sl' := []) (Fs' := G :: Fs) rfl rfl rfl ?_
      cases w32 with
      | nil =>
        rw [ref13_Same_L1] at r34; try dsimp only at r34
        refine Cov.seq ?_
        refine Cov.region rfl ?_
        refine Cov.q .ro (.lss rfl rfl) rfl ?_
        refine Cov.region_end ?_
        refine Cov.seq ?_
        refine Cov.cond_dec rfl (fun c => absurd c (drop_nil g33)) (fun _ => ?_)
        refine Cov.exit rfl ?_
        refine Cov.seq ?_
        refine Cov.region rfl ?_
        refine Cov.q .ro (.assign rfl) rfl ?_
        refine Cov.region_end ?_
        cases r34
        refine Cov.drop 2 0 [] _ rfl rfl ?_
        refine Cov.retS (c := ⟨22, none⟩) (.inr ⟨_, rfl⟩) [.tmp 4] [_] rfl Try.func22 Try.results22 ⟨RV.tmp rfl, trivial⟩ (fun _ h => List.mem_cons_of_mem _ h) ⟨rfl, rfl, rfl⟩
      | cons x42 xs43 =>
        have r41 : ref13_Same_B1 x1_1 (ref13_Same_L1 x1_1 xs43 (i31 + 1)) x42 i31  = some r := r34; clear r34; unfold ref13_Same_B1 at r41; try dsimp only at r41
        refine Cov.seq ?_
        refine Cov.region rfl ?_
        refine Cov.q .ro (.lss rfl rfl) rfl ?_
        refine Cov.region_end ?_
        refine Cov.seq ?_
        refine Cov.cond_dec rfl (fun _ => ?_) (fun c => absurd (drop_lt g33) c)
        refine Cov.skip ?_
        refine Cov.seq ?_
        refine Cov.block ?_
        refine Cov.seq ?_
        refine Cov.region rfl ?_
        refine Cov.q .ro (.move rfl) rfl ?_
        refine Cov.q .ro (.assign rfl) rfl ?_
        refine Cov.region_end ?_
        refine Cov.seq ?_
        refine Cov.drawL (.q 0 (.q 1 (.q 2 (.q 3 (.q 4 (.q 5 (.q 6 (.q 7 (.q 8 (.q 9 (.q 10 .nil))))))))))) [_, _] (by kernel_rfl) (by kernel_rfl) (pick_mem [0, 1] rfl) ?_
        refine Cov.dq (.fieldAddr 1 rfl fl34_1 ty32.sz rfl) rfl ?_
        refine Cov.dq (.load_own 1 rfl rfl ty32 rfl) rfl ?_
        refine Cov.dq (.move rfl) rfl ?_
        obtain ⟨c44, p45, h46⟩ := SlR.get s0_1 (drop_idx g33)
        obtain ⟨_, _, rfl, rfl, _, _, rfl, rfl, rfl⟩ := h46
        refine Cov.dq (.idxR s0_1 rfl rfl (drop_idx g33) sl32 ty56.sz) rfl ?_
        refine Cov.dq (.load_rp_a [_, _, _] p45 List.mem_cons_self rfl ty56 rfl) rfl ?_
        refine Cov.dq (.fieldAddr 1 rfl fl34_1 ty32.sz rfl) rfl ?_
        refine Cov.dq (.load_own 0 rfl rfl ty32 rfl) rfl ?_
        refine Cov.dq (.move rfl) rfl ?_
        obtain ⟨u47, hu47, r48⟩ := bind_some r41; clear r41
        obtain ⟨c49, p50, h51⟩ := SlR.get s1_1 hu47
        obtain ⟨_, _, rfl, rfl, _, _, rfl, rfl, rfl⟩ := h51
        refine Cov.dq (.idxR s1_1 rfl rfl hu47 sl32 ty56.sz) rfl ?_
        refine Cov.dq (.load_rp_a [_, _, _] p50 List.mem_cons_self rfl ty56 rfl) rfl ?_
        refine Cov.dq (.cast (show Value.bool (decide (([x42.1, x42.2.1, x42.2.2] : List Int) ≠ ([u47.1, u47.2.1, u47.2.2] : List Int))) = Value.bool (decide ((x42.1, x42.2.1, x42.2.2) ≠ (u47.1, u47.2.1, u47.2.2))) from congrArg Value.bool (decide_eq_decide.2 (by simp))) (.neq_i [x42.1, x42.2.1, x42.2.2] [u47.1, u47.2.1, u47.2.2] Try.underlying56 (by kernel_rfl) Try.stoodInHeld56 Try.eqGuardType56 rfl rfl rfl rfl)) rfl ?_
        refine Cov.draw_end ?_
        refine Cov.prune [(23, _), (2, _), (3, _), (22, _), (36, _)] ⟨rfl, rfl, rfl, rfl, rfl, trivial⟩ ?_
        refine Cov.cond_dec rfl (fun c52 => ?_) (fun c52 => ?_)
        · have r53 := ifT r48 c52; clear r48
          refine Cov.seq ?_
          refine Cov.region rfl ?_
          refine Cov.q .ro (.assign rfl) rfl ?_
          refine Cov.region_end ?_
          cases r53
          refine Cov.drop 2 0 [] _ rfl rfl ?_
          refine Cov.retS (c := ⟨22, none⟩) (.inr ⟨_, rfl⟩) [.tmp 4] [_] rfl Try.func22 Try.results22 ⟨RV.tmp rfl, trivial⟩ (fun _ h => List.mem_cons_of_mem _ h) ⟨rfl, rfl, rfl⟩
        · have r54 := ifF r48 c52; clear r48
          refine Cov.skip ?_
          refine Cov.inBlock ?_
          refine Cov.region rfl ?_
          refine Cov.q .ro (.addw rfl rfl) rfl ?_
          refine Cov.q .ro (.move rfl) rfl ?_
          refine Cov.region_end ?_
          refine Cov.prune _ ?_ (Cov.same rfl rfl rfl (hb35 ((i31 + 1), xs43) ⟨(drop_succ g33), r54⟩ (Nat.lt_succ_self _)))
          exact ⟨(congrArg (fun z => some (Value.int .i64 z)) (idx_wrap (SlR.len s0_1) g33)), rfl, rfl, rfl, trivial⟩
  · intro hb4
    refine Cov.split 11 rfl (fun c3 => ?_) (fun c3 => ?_)
    · refine Cov.g_off rfl rfl rfl ?_
      refine Cov.g_off rfl rfl rfl ?_
      refine Cov.g_off rfl rfl rfl ?_
      refine Cov.g_off rfl rfl rfl ?_
      refine Cov.g_off rfl rfl rfl ?_
      refine Cov.g_off rfl rfl rfl ?_
      refine Cov.g_off rfl rfl rfl ?_
      refine Cov.q .ro (.pick_t rfl rfl) rfl ?_
      refine Cov.prune _ ?_ (Cov.same rfl rfl rfl (hb4 () trivial))
      exact ⟨dor_t c3, rfl, rfl, trivial⟩
    · refine Cov.g_on rfl ?_
      refine Cov.q .ro (.fieldAddr 1 rfl fl34_1 ty32.sz rfl) rfl ?_
      refine Cov.g_on rfl ?_
      refine Cov.q .ro (.load_own 1 rfl rfl ty32 rfl) rfl ?_
      refine Cov.g_on rfl ?_
      refine Cov.q .ro (.len_sl rfl rfl sl32) rfl ?_
      refine Cov.g_on rfl ?_
      refine Cov.q .ro (.fieldAddr 1 rfl fl34_1 ty32.sz rfl) rfl ?_
      refine Cov.g_on rfl ?_
      refine Cov.q .ro (.load_own 0 rfl rfl ty32 rfl) rfl ?_
      refine Cov.g_on rfl ?_
      refine Cov.q .ro (.len_sl rfl rfl sl32) rfl ?_
      refine Cov.g_on rfl ?_
      refine Cov.q .ro (.neq rfl rfl) rfl ?_
      refine Cov.q .ro (.pick_f rfl rfl) rfl ?_
      refine Cov.prune _ ?_ (Cov.same rfl rfl rfl (hb4 () trivial))
      exact ⟨dor_f c3, rfl, rfl, trivial⟩

set_option maxHeartbeats 4000000 in
set_option maxRecDepth 100000 in
theorem ref03_In_c {Fs : List Hp} {G : Hp} {x0_0 : Int} {a1 : Option Addr} {k1 : Nat} {x1 : List Int} {r : Bool} (hG : G ∈ Fs) (s1 : SlR (Rep.int .i64) G a1 k1 x1) (h : ref03_In x0_0 x1 = some r) : RetS Try.prog 49 #[.agg #[.int .i64 x0_0], .slice a1 x1.length k1] Fs [] [] (fun v bo so => v = .bool r ∧ bo = [] ∧ so = []) := by
  unfold ref03_In at h
  try dsimp only at h
  refine RetS.of (vs := [_, _]) Try.func49 rfl Try.ntmps49 [(0, _), (1, _)] ⟨rfl, rfl, trivial⟩ rfl hG fun w0 S0 hS0 B0 => ?_
  refine Cov.seq ?_
  refine Cov.region rfl ?_
  refine Cov.box [_] .ro rfl rfl rfl (fun b1 hb1 => ?_)
  refine Cov.q .ro (.assign rfl) rfl ?_
  refine Cov.region_end ?_
  refine Cov.seq ?_
  refine Cov.seq ?_
  refine Cov.region rfl ?_
  refine Cov.q .ro (.load_own_a 0 [_] rfl rfl ty24 rfl) rfl ?_
  obtain ⟨u2, hu2, r3⟩ := bind_some h; clear h
  refine Cov.callS (b1 := []) (b2 := [_]) (s1 := []) [_] [] .ro rfl rfl Try.call38 rfl rfl (ref03_Check_c (G := G) List.mem_cons_self  hu2) rfl (fun v5 bo so h4 => ?_)
  obtain ⟨rfl, rfl, rfl⟩ := h4
  refine Cov.same (bl' := [_]) (sl' := []) rfl rfl rfl ?_
  refine Cov.q .ro (.neq rfl rfl) rfl ?_
  refine Cov.region_end ?_
  refine Cov.cond_dec rfl (fun c6 => ?_) (fun c6 => ?_)
  · have r7 := ifT r3 c6; clear r3
    refine Cov.seq ?_
    refine Cov.region rfl ?_
    refine Cov.q .ro (.assign rfl) rfl ?_
    refine Cov.region_end ?_
    cases r7
    refine Cov.drop 1 0 [] _ rfl rfl ?_
    refine Cov.retS (c := ⟨49, none⟩) (.inr ⟨_, rfl⟩) [.tmp 4] [_] rfl Try.func49 Try.results49 ⟨RV.tmp rfl, trivial⟩ (fun _ h => List.mem_cons_of_mem _ h) ⟨rfl, rfl, rfl⟩
  · have r8 := ifF r3 c6; clear r3
    refine Cov.skip ?_
    refine Cov.seq ?_
    refine Cov.seq ?_
    refine Cov.region rfl ?_
    refine Cov.q .ro (.move rfl) rfl ?_
    refine Cov.q .ro (.len_sl rfl rfl sl22) rfl ?_
    refine Cov.q .ro (.move rfl) rfl ?_
    refine Cov.region_end ?_
    refine Cov.block ?_
    refine Cov.loop2 (α := Nat × List Int) (fun y => [(12, .int .i64 (y.1 : Int))]) [(2, _), (10, _), (11, _)] (fun y => []) (fun y => []) [_] (fun y => []) [] (fun y => List.drop y.1 x1 = y.2 ∧ ref03_In_L1 x0_0 y.2  = some r) (fun y => y.2.length) (0, x1) ⟨rfl, r8⟩ ⟨rfl, rfl, rfl, rfl, trivial⟩ rfl rfl rfl (fun y hI hb32 => ?_)
    obtain ⟨i28, w29⟩ := y
    obtain ⟨g30, r31⟩ := hI
    try dsimp only at g30 r31
    refine Cov.prune [(12, .int .i64 (i28 : Int)), (2, _), (10, _), (11, _)] ⟨rfl, rfl, rfl, rfl, trivial⟩ ?_
    refine Cov.same (bl' := [_]) (sl' := []) (Fs' := G :: Fs) rfl rfl rfl ?_
    cases w29 with
    | nil =>
      rw [ref03_In_L1] at r31; try dsimp only at r31
      refine Cov.seq ?_
      refine Cov.region rfl ?_
      refine Cov.q .ro (.lss rfl rfl) rfl ?_
      refine Cov.region_end ?_
      refine Cov.seq ?_
      refine Cov.cond_dec rfl (fun c => absurd c (drop_nil g30)) (fun _ => ?_)
      refine Cov.exit rfl ?_
      refine Cov.seq ?_
      refine Cov.region rfl ?_
      refine Cov.q .ro (.assign rfl) rfl ?_
      refine Cov.region_end ?_
      cases r31
      refine Cov.drop 1 0 [] _ rfl rfl ?_
      refine Cov.retS (c := ⟨49, none⟩) (.inr ⟨_, rfl⟩) [.tmp 4] [_] rfl Try.func49 Try.results49 ⟨RV.tmp rfl, trivial⟩ (fun _ h => List.mem_cons_of_mem _ h) ⟨rfl, rfl, rfl⟩
    | cons x37 xs38 =>
      have r36 : ref03_In_B1 x0_0 (ref03_In_L1 x0_0 xs38) x37  = some r := r31; clear r31; unfold ref03_In_B1 at r36; try dsimp only at r36
      refine Cov.seq ?_
      refine Cov.region rfl ?_
      refine Cov.q .ro (.lss rfl rfl) rfl ?_
      refine Cov.region_end ?_
      refine Cov.seq ?_
      refine Cov.cond_dec rfl (fun _ => ?_) (fun c => absurd (drop_lt g30) c)
      refine Cov.skip ?_
      refine Cov.seq ?_
      refine Cov.block ?_
      refine Cov.seq ?_
      refine Cov.region rfl ?_
      obtain ⟨c39, p40, h41⟩ := SlR.get s1 (drop_idx g30)
      obtain rfl := h41
      refine Cov.q .ro (.idxR s1 rfl rfl (drop_idx g30) sl22 ty3.sz) rfl ?_
      refine Cov.q .ro (.load_rp p40 List.mem_cons_self rfl ty3 rfl) rfl ?_
      refine Cov.q .ro (.assign rfl) rfl ?_
      refine Cov.region_end ?_
      refine Cov.seq ?_
      refine Cov.region rfl ?_
      refine Cov.q .ro (.move rfl) rfl ?_
      refine Cov.q .ro (.lss rfl rfl) rfl ?_
      refine Cov.q .ro (.move rfl) rfl ?_
      refine Cov.cutR 5 (β := Unit) (fun y => [(23, .bool (decide ((x37 < 0) ∨ (x0_0 ≤ x37))))]) [(12, _), (2, _), (10, _), (11, _)] (fun y => G :: Fs) (fun y => []) [_] (fun y => []) [] (fun y => True) ⟨rfl, rfl, rfl, rfl, trivial⟩ [0] rfl [] rfl ?_ ?_
      · rintro _ _
        refine Cov.prune [(23, .bool (decide ((x37 < 0) ∨ (x0_0 ≤ x37)))), (12, _), (2, _), (10, _), (11, _)] ⟨rfl, rfl, rfl, rfl, rfl, trivial⟩ ?_
        refine Cov.same (bl' := [_]) (sl' := []) (Fs' := G :: Fs) rfl rfl rfl ?_
        refine Cov.region_end ?_
        refine Cov.cond_dec rfl (fun c46 => ?_) (fun c46 => ?_)
        · have r47 := ifT r36 c46; clear r36
          refine Cov.seq ?_
          refine Cov.region rfl ?_
          refine Cov.q .ro (.assign rfl) rfl ?_
          refine Cov.region_end ?_
          cases r47
          refine Cov.drop 1 0 [] _ rfl rfl ?_
          refine Cov.retS (c := ⟨49, none⟩) (.inr ⟨_, rfl⟩) [.tmp 4] [_] rfl Try.func49 Try.results49 ⟨RV.tmp rfl, trivial⟩ (fun _ h => List.mem_cons_of_mem _ h) ⟨rfl, rfl, rfl⟩
        · have r48 := ifF r36 c46; clear r36
          refine Cov.skip ?_
          refine Cov.inBlock ?_
          refine Cov.region rfl ?_
          refine Cov.q .ro (.addw rfl rfl) rfl ?_
          refine Cov.q .ro (.move rfl) rfl ?_
          refine Cov.region_end ?_
          refine Cov.prune _ ?_ (Cov.same rfl rfl rfl (hb32 ((i28 + 1), xs38) ⟨(drop_succ g30), r48⟩ (Nat.lt_succ_self _)))
          exact ⟨(congrArg (fun z => some (Value.int .i64 z)) (idx_wrap (SlR.len s1) g30)), rfl, rfl, rfl, trivial⟩
      · intro hb43
        refine Cov.split 18 rfl (fun c42 => ?_) (fun c42 => ?_)
        · refine Cov.g_off rfl rfl rfl ?_
          refine Cov.g_off rfl rfl rfl ?_
          refine Cov.g_off rfl rfl rfl ?_
          refine Cov.g_off rfl rfl rfl ?_
          refine Cov.q .ro (.pick_t rfl rfl) rfl ?_
          refine Cov.prune _ ?_ (Cov.same rfl rfl rfl (hb43 () trivial))
          exact ⟨dor_t c42, rfl, rfl, rfl, rfl, trivial⟩
        · refine Cov.g_on rfl ?_
          refine Cov.q .ro (.move rfl) rfl ?_
          refine Cov.g_on rfl ?_
          refine Cov.q .ro (.fieldAddr 0 rfl fl24_0 ty3.sz rfl) rfl ?_
          refine Cov.g_on rfl ?_
          refine Cov.q .ro (.load_own 0 rfl rfl ty3 rfl) rfl ?_
          refine Cov.g_on rfl ?_
          refine Cov.q .ro (.geq rfl rfl) rfl ?_
          refine Cov.q .ro (.pick_f rfl rfl) rfl ?_
          refine Cov.prune _ ?_ (Cov.same rfl rfl rfl (hb43 () trivial))
          exact ⟨dor_f c42, rfl, rfl, rfl, rfl, trivial⟩

set_option maxHeartbeats 4000000 in
set_option maxRecDepth 100000 in
theorem ref13_Decode_c {Fs : List Hp} {G : Hp} {x0_0 : Int} {x1 : Int} {x2 : Int} {a3 : Option Addr} {k3 : Nat} {x3 : List (List Int)} {r : (ByteArray × Int)} (hG : G ∈ Fs) (s3 : SlR (Rep.sl (Rep.int .i64)) G a3 k3 x3) (h : ref13_Decode x0_0 x1 x2 x3 = some r) : RetS Try.prog 24 #[.agg #[.int .i64 x0_0], .int .i64 x1, .int .i64 x2, .slice a3 x3.length k3] Fs [] [] (fun v bo so => v = .tuple #[.string r.1, .int .i64 r.2] ∧ bo = [] ∧ so = []) := by
  unfold ref13_Decode at h
  try dsimp only at h
  refine RetS.of (vs := [_, _, _, _]) Try.func24 rfl Try.ntmps24 [(0, _), (1, _), (2, _), (3, _)] ⟨rfl, rfl, rfl, rfl, trivial⟩ rfl hG fun w0 S0 hS0 B0 => ?_
  refine Cov.seq ?_
  refine Cov.region rfl ?_
  refine Cov.box [_] .ro rfl rfl rfl (fun b1 hb1 => ?_)
  refine Cov.q .ro (.assign rfl) rfl ?_
  refine Cov.q .ro (.assign rfl) rfl ?_
  refine Cov.region_end ?_
  refine Cov.seq ?_
  refine Cov.seq ?_
  refine Cov.region rfl ?_
  refine Cov.q .ro (.load_own_a 0 [_] rfl rfl ty24 rfl) rfl ?_
  obtain ⟨u2, hu2, r3⟩ := bind_some h; clear h
  refine Cov.callS (b1 := []) (b2 := [_]) (s1 := []) [_] [] .ro rfl rfl Try.call38 rfl rfl (ref03_Check_c (G := G) List.mem_cons_self  hu2) rfl (fun v5 bo so h4 => ?_)
  obtain ⟨rfl, rfl, rfl⟩ := h4
  refine Cov.same (bl' := [_]) (sl' := []) rfl rfl rfl ?_
  refine Cov.q .ro (.assign rfl) rfl ?_
  refine Cov.region_end ?_
  refine Cov.seq ?_
  refine Cov.region rfl ?_
  refine Cov.q .ro (.move rfl) rfl ?_
  refine Cov.q .ro (.neq rfl rfl) rfl ?_
  refine Cov.region_end ?_
  refine Cov.cond_dec rfl (fun c6 => ?_) (fun c6 => ?_)
  · have r7 := ifT r3 c6; clear r3
    refine Cov.seq ?_
    refine Cov.region rfl ?_
    refine Cov.q .ro (.move rfl) rfl ?_
    refine Cov.q .ro (.assign rfl) rfl ?_
    refine Cov.q .ro (.assign rfl) rfl ?_
    refine Cov.region_end ?_
    cases r7
    refine Cov.drop 1 0 [] _ rfl rfl ?_
    refine Cov.retS (c := ⟨24, none⟩) (.inr ⟨_, rfl⟩) [.tmp 8, .tmp 9] [_, _] rfl Try.func24 Try.results24 ⟨RV.tmp rfl, RV.tmp rfl, trivial⟩ (fun _ h => List.mem_cons_of_mem _ h) ⟨rfl, rfl, rfl⟩
  · have r8 := ifF r3 c6; clear r3
    refine Cov.skip ?_
    refine Cov.seq ?_
    refine Cov.seq ?_
    refine Cov.region rfl ?_
    refine Cov.q .ro (.move rfl) rfl ?_
    refine Cov.q .ro (.lss rfl rfl) rfl ?_
    refine Cov.q .ro (.move rfl) rfl ?_
    refine Cov.cutR 3 (β := Unit) (fun y => [(31, .bool (decide ((x1 < 1) ∨ (64 < x1))))]) [(1, _), (2, _), (3, _), (4, _)] (fun y => G :: Fs) (fun y => []) [_] (fun y => []) [] (fun y => True) ⟨rfl, rfl, rfl, rfl, trivial⟩ [0] rfl [] rfl ?_ ?_
    · rintro _ _
      refine Cov.prune [(31, .bool (decide ((x1 < 1) ∨ (64 < x1)))), (1, _), (2, _), (3, _), (4, _)] ⟨rfl, rfl, rfl, rfl, rfl, trivial⟩ ?_
      refine Cov.same (bl' := [_]) (sl' := []) (Fs' := G :: Fs) rfl rfl rfl ?_
      refine Cov.q .ro (.move rfl) rfl ?_
      refine Cov.cutR 3 (β := Unit) (fun y => [(35, .bool (decide (((x1 < 1) ∨ (64 < x1)) ∨ (x2 < 0))))]) [(1, _), (2, _), (3, _), (4, _)] (fun y => G :: Fs) (fun y => []) [_] (fun y => []) [] (fun y => True) ⟨rfl, rfl, rfl, rfl, trivial⟩ [0] rfl [] rfl ?_ ?_
      · rintro _ _
        refine Cov.prune [(35, .bool (decide (((x1 < 1) ∨ (64 < x1)) ∨ (x2 < 0)))), (1, _), (2, _), (3, _), (4, _)] ⟨rfl, rfl, rfl, rfl, rfl, trivial⟩ ?_
        refine Cov.same (bl' := [_]) (sl' := []) (Fs' := G :: Fs) rfl rfl rfl ?_
        refine Cov.q .ro (.move rfl) rfl ?_
        refine Cov.cutR 3 (β := Unit) (fun y => [(39, .bool (decide ((((x1 < 1) ∨ (64 < x1)) ∨ (x2 < 0)) ∨ (1024 < x2))))]) [(1, _), (2, _), (3, _), (4, _)] (fun y => G :: Fs) (fun y => []) [_] (fun y => []) [] (fun y => True) ⟨rfl, rfl, rfl, rfl, trivial⟩ [0] rfl [] rfl ?_ ?_
        · rintro _ _
          refine Cov.prune [(39, .bool (decide ((((x1 < 1) ∨ (64 < x1)) ∨ (x2 < 0)) ∨ (1024 < x2)))), (1, _), (2, _), (3, _), (4, _)] ⟨rfl, rfl, rfl, rfl, rfl, trivial⟩ ?_
          refine Cov.same (bl' := [_]) (sl' := []) (Fs' := G :: Fs) rfl rfl rfl ?_
          refine Cov.region_end ?_
          refine Cov.cond_dec rfl (fun c21 => ?_) (fun c21 => ?_)
          · have r22 := ifT r8 c21; clear r8
            refine Cov.seq ?_
            refine Cov.region rfl ?_
            refine Cov.q .ro (.assign rfl) rfl ?_
            refine Cov.q .ro (.assign rfl) rfl ?_
            refine Cov.region_end ?_
            cases r22
            refine Cov.drop 1 0 [] _ rfl rfl ?_
            refine Cov.retS (c := ⟨24, none⟩) (.inr ⟨_, rfl⟩) [.tmp 8, .tmp 9] [_, _] rfl Try.func24 Try.results24 ⟨RV.tmp rfl, RV.tmp rfl, trivial⟩ (fun _ h => List.mem_cons_of_mem _ h) ⟨rfl, rfl, rfl⟩
          · have r23 := ifF r8 c21; clear r8
            refine Cov.skip ?_
            refine Cov.seq ?_
            refine Cov.seq ?_
            refine Cov.region rfl ?_
            refine Cov.q .ro (.move rfl) rfl ?_
            refine Cov.q .ro (.len_sl rfl rfl sl26) rfl ?_
            refine Cov.q .ro (.load_own_a 0 [_] rfl rfl ty24 rfl) rfl ?_
            refine Cov.q .ro (.move rfl) rfl ?_
            refine Cov.q .ro (.move rfl) rfl ?_
            obtain ⟨u24, hu24, r25⟩ := bind_some r23; clear r23
            refine Cov.callS (b1 := []) (b2 := [_]) (s1 := []) [_, _, _] [] .ro rfl rfl Try.call43 rfl rfl (ref13_need_c (G := G) List.mem_cons_self  hu24) rfl (fun v27 bo so h26 => ?_)
            obtain ⟨rfl, rfl, rfl⟩ := h26
            refine Cov.same (bl' := [_]) (sl' := []) rfl rfl rfl ?_
            refine Cov.q .ro (.neq rfl rfl) rfl ?_
            refine Cov.region_end ?_
            refine Cov.cond_dec rfl (fun c28 => ?_) (fun c28 => ?_)
            · have r29 := ifT r25 c28; clear r25
              refine Cov.seq ?_
              refine Cov.region rfl ?_
              refine Cov.q .ro (.assign rfl) rfl ?_
              refine Cov.q .ro (.assign rfl) rfl ?_
              refine Cov.region_end ?_
              cases r29
              refine Cov.drop 1 0 [] _ rfl rfl ?_
              refine Cov.retS (c := ⟨24, none⟩) (.inr ⟨_, rfl⟩) [.tmp 8, .tmp 9] [_, _] rfl Try.func24 Try.results24 ⟨RV.tmp rfl, RV.tmp rfl, trivial⟩ (fun _ h => List.mem_cons_of_mem _ h) ⟨rfl, rfl, rfl⟩
            · have r30 := ifF r25 c28; clear r25
              refine Cov.skip ?_
              refine Cov.seq ?_
              refine Cov.region rfl ?_
              refine Cov.q .ro (.assign rfl) rfl ?_
              refine Cov.region_end ?_
              refine Cov.seq ?_
              refine Cov.seq ?_
              refine Cov.region rfl ?_
              refine Cov.q .ro (.move rfl) rfl ?_
              refine Cov.q .ro (.len_sl rfl rfl sl26) rfl ?_
              refine Cov.q .ro (.move rfl) rfl ?_
              refine Cov.region_end ?_
              refine Cov.cutB (β := List Int × Option Addr × Nat × List Value × Int) (fun y => [(11, .slice y.2.1 y.1.length y.2.2.1)]) [(2, _), (4, _)] (fun y => G :: Fs) (fun y => [(b1, .cells #[.int .i64 y.2.2.2.2] 24 (0, 0))]) [] (fun y => [.s (.slice y.2.1 y.1.length y.2.2.1) 3 1 y.1.length y.2.2.2.1]) [] (fun y => OL (Rep.int .i64) G y.2.2.2.1 y.1 ∧ (ref13_Decode_J7 x2) y.1 y.2.2.2.2 = some r) ⟨rfl, rfl, trivial⟩ [] rfl [] rfl ?_ ?_
              · intro y hI
                obtain ⟨v170, a171, k172, cs173, v176⟩ := y
                obtain ⟨o174, r178⟩ := hI
                try dsimp only at o174 r178
                refine Cov.prune [(11, .slice a171 v170.length k172), (2, _), (4, _)] ⟨rfl, rfl, rfl, trivial⟩ ?_
                refine Cov.same (bl' := [(b1, .cells #[.int .i64 v176] 24 (0, 0))]) (sl' := [.s (.slice a171 v170.length k172) 3 1 v170.length cs173]) (Fs' := G :: Fs) rfl rfl rfl ?_
                unfold ref13_Decode_J7 at r178
                try dsimp only at r178
                refine Cov.seq ?_
                refine Cov.region rfl ?_
                refine Cov.q .ro (.load_own_a 0 [_] rfl rfl ty24 rfl) rfl ?_
                obtain ⟨u180, hu180, r181⟩ := bind_some r178; clear r178
                refine Cov.callS (b1 := []) (b2 := [_]) (s1 := []) [_] [] .ro rfl rfl Try.call39 rfl rfl (ref13_digits_c (G := G) List.mem_cons_self  hu180) rfl (fun v183 bo so h182 => ?_)
                obtain ⟨rfl, rfl, rfl⟩ := h182
                refine Cov.same (bl' := [_]) (sl' := [_]) rfl rfl rfl ?_
                refine Cov.q .ro (.assign rfl) rfl ?_
                refine Cov.region_end ?_
                refine Cov.seq ?_
                refine Cov.region rfl ?_
                refine Cov.q .ro (.assign rfl) rfl ?_
                refine Cov.region_end ?_
                refine Cov.seq ?_
                refine Cov.seq ?_
                refine Cov.region rfl ?_
                refine Cov.q .ro (.assign rfl) rfl ?_
                refine Cov.region_end ?_
                refine Cov.cutB (β := Hp × List Int × Option Addr × Nat × List Int × Option Addr × Nat × List Value × Int) (fun y => [(11, .slice y.2.2.1 y.2.1.length y.2.2.2.1), (15, .slice y.2.2.2.2.2.1 y.2.2.2.2.1.length y.2.2.2.2.2.2.1)]) [(2, _), (14, _)] (fun y => y.1 :: Fs) (fun y => [(b1, .cells #[.int .i64 y.2.2.2.2.2.2.2.2] 24 (0, 0))]) [] (fun y => [.s (.slice y.2.2.2.2.2.1 y.2.2.2.2.1.length y.2.2.2.2.2.2.1) 5 1 y.2.2.2.2.1.length y.2.2.2.2.2.2.2.1]) [] (fun y => HpLe G y.1 ∧ Bd w0 S0 Fs y.1 ∧ SlR (Rep.int .i64) y.1 y.2.2.1 y.2.2.2.1 y.2.1 ∧ OL (Rep.int .u8) y.1 y.2.2.2.2.2.2.2.1 y.2.2.2.2.1 ∧ (ref13_Decode_J3 x2 u180) y.2.1 y.2.2.2.2.1 y.2.2.2.2.2.2.2.2 = some r) ⟨rfl, rfl, trivial⟩ [] rfl [] rfl ?_ ?_
                · intro y hI
                  obtain ⟨G550, v554, a555, k556, v558, a559, k560, cs561, v564⟩ := y
                  obtain ⟨e551, B552, s557, o562, r566⟩ := hI
                  try dsimp only at e551 B552 s557 o562 r566
                  refine Cov.prune [(11, .slice a555 v554.length k556), (15, .slice a559 v558.length k560), (2, _), (14, _)] ⟨rfl, rfl, rfl, rfl, trivial⟩ ?_
                  refine Cov.same (bl' := [(b1, .cells #[.int .i64 v564] 24 (0, 0))]) (sl' := [.s (.slice a559 v558.length k560) 5 1 v558.length cs561]) (Fs' := G550 :: Fs) rfl rfl rfl ?_
                  unfold ref13_Decode_J3 at r566
                  try dsimp only at r566
                  refine Cov.seq ?_
                  refine Cov.seq ?_
                  refine Cov.region rfl ?_
                  refine Cov.q .ro (.move rfl) rfl ?_
                  refine Cov.q .ro (.move rfl) rfl ?_
                  refine Cov.q .ro (.move rfl) rfl ?_
                  refine Cov.q .ro (.mulw rfl rfl) rfl ?_
                  obtain ⟨u569, hu569, r570⟩ := bind_some r566; clear r566
                  obtain ⟨a571, k572, h573, s574⟩ := SlR.sub s557 hu569
                  refine Cov.q .ro (.sliceR s557 rfl hu569 sl22 ty3.sz (fun h => .yes' rfl h) (fun _ => .no) h573) rfl ?_
                  refine Cov.q .ro (.len_sl rfl rfl sl22) rfl ?_
                  refine Cov.q .ro (.move rfl) rfl ?_
                  refine Cov.region_end ?_
                  refine Cov.cutB (β := Int) (fun y => []) [(15, _)] (fun y => G550 :: Fs) (fun y => [(b1, .cells #[.int .i64 y] 24 (0, 0))]) [] (fun y => []) [_] (fun y => (ref13_Decode_J1 v558) y = some r) ⟨rfl, trivial⟩ [] rfl [0] rfl ?_ ?_
                  · intro v608 hI
                    have r610 := hI; clear hI
                    refine Cov.prune [(15, _)] ⟨rfl, trivial⟩ ?_
                    refine Cov.same (bl' := [(b1, .cells #[.int .i64 v608] 24 (0, 0))]) (sl' := [_]) (Fs' := G550 :: Fs) rfl rfl rfl ?_
                    unfold ref13_Decode_J1 at r610
                    try dsimp only at r610
                    refine Cov.seq ?_
                    refine Cov.region rfl ?_
                    refine Cov.q .ro (.move rfl) rfl ?_
                    refine Cov.freezeR 0 rfl rfl o562 [] rfl B552 (fun G612 e613 B614 s615 => ?_)
                    refine Cov.q .ro (.b2s s615 List.mem_cons_self rfl Try.underlying61 Try.underlying5 Try.underlying9) rfl ?_
                    refine Cov.q .ro (.assign rfl) rfl ?_
                    refine Cov.q .ro (.assign rfl) rfl ?_
                    refine Cov.region_end ?_
                    cases r610
                    refine Cov.drop 1 0 [] _ rfl rfl ?_
                    refine Cov.retS (c := ⟨24, none⟩) (.inr ⟨_, rfl⟩) [.tmp 8, .tmp 9] [_, _] rfl Try.func24 Try.results24 ⟨RV.tmp rfl, RV.tmp rfl, trivial⟩ (fun _ h => List.mem_cons_of_mem _ h) ⟨rfl, rfl, rfl⟩
                  · intro hb617
                    refine Cov.block ?_
                    refine Cov.loop2 (α := Nat × List Int) (fun y => [(106, .int .i64 (y.1 : Int))]) [(15, _), (104, _), (105, _)] (fun y => []) (fun y => []) [_] (fun y => []) [_] (fun y => List.drop y.1 u569 = y.2 ∧ ref13_Decode_L2 (ref13_Decode_J1 v558) v564 y.2  = some r) (fun y => y.2.length) (0, u569) ⟨rfl, r570⟩ ⟨rfl, rfl, rfl, rfl, trivial⟩ rfl rfl rfl (fun y hI hb637 => ?_)
                    obtain ⟨i633, w634⟩ := y
                    obtain ⟨g635, r636⟩ := hI
                    try dsimp only at g635 r636
                    refine Cov.prune [(106, .int .i64 (i633 : Int)), (15, _), (104, _), (105, _)] ⟨rfl, rfl, rfl, rfl, trivial⟩ ?_
                    refine Cov.same (bl' := [_]) (sl' := [_]) (Fs' := G550 :: Fs) rfl rfl rfl ?_
                    cases w634 with
                    | nil =>
                      rw [ref13_Decode_L2] at r636; try dsimp only at r636
                      refine Cov.seq ?_
                      refine Cov.region rfl ?_
                      refine Cov.q .ro (.lss rfl rfl) rfl ?_
                      refine Cov.region_end ?_
                      refine Cov.seq ?_
                      refine Cov.cond_dec rfl (fun c => absurd c (drop_nil g635)) (fun _ => ?_)
                      refine Cov.exit rfl ?_
                      refine Cov.prune _ ?_ (Cov.same rfl rfl rfl (hb617 (v564) r636))
                      exact ⟨rfl, trivial⟩
                    | cons x643 xs644 =>
                      have r642 : ref13_Decode_B2 (ref13_Decode_J1 v558) v564 (ref13_Decode_L2 (ref13_Decode_J1 v558) v564 xs644) x643  = some r := r636; clear r636; unfold ref13_Decode_B2 at r642; try dsimp only at r642
                      refine Cov.seq ?_
                      refine Cov.region rfl ?_
                      refine Cov.q .ro (.lss rfl rfl) rfl ?_
                      refine Cov.region_end ?_
                      refine Cov.seq ?_
                      refine Cov.cond_dec rfl (fun _ => ?_) (fun c => absurd (drop_lt g635) c)
                      refine Cov.skip ?_
                      refine Cov.seq ?_
                      refine Cov.block ?_
                      refine Cov.seq ?_
                      refine Cov.region rfl ?_
                      obtain ⟨c645, p646, h647⟩ := SlR.get s574 (drop_idx g635)
                      obtain rfl := h647
                      refine Cov.q .ro (.idxR s574 rfl rfl (drop_idx g635) sl22 ty3.sz) rfl ?_
                      refine Cov.q .ro (.load_rp p646 List.mem_cons_self rfl ty3 rfl) rfl ?_
                      refine Cov.q .ro (.assign rfl) rfl ?_
                      refine Cov.region_end ?_
                      refine Cov.seq ?_
                      refine Cov.region rfl ?_
                      refine Cov.q .ro (.move rfl) rfl ?_
                      refine Cov.q .ro (.neq rfl rfl) rfl ?_
                      refine Cov.region_end ?_
                      refine Cov.cond_dec rfl (fun c648 => ?_) (fun c648 => ?_)
                      · have r649 := ifT r642 c648; clear r642
                        refine Cov.seq ?_
                        refine Cov.region rfl ?_
                        refine Cov.q .ro (.assign rfl) rfl ?_
                        refine Cov.q .ro (.assign rfl) rfl ?_
                        refine Cov.region_end ?_
                        cases r649
                        refine Cov.drop 1 0 [] _ rfl rfl ?_
                        refine Cov.drop 0 1 _ [] rfl rfl ?_
                        refine Cov.retS (c := ⟨24, none⟩) (.inr ⟨_, rfl⟩) [.tmp 8, .tmp 9] [_, _] rfl Try.func24 Try.results24 ⟨RV.tmp rfl, RV.tmp rfl, trivial⟩ (fun _ h => List.mem_cons_of_mem _ h) ⟨rfl, rfl, rfl⟩
                      · have r650 := ifF r642 c648; clear r642
                        refine Cov.skip ?_
                        refine Cov.inBlock ?_
                        refine Cov.region rfl ?_
                        refine Cov.q .ro (.addw rfl rfl) rfl ?_
                        refine Cov.q .ro (.move rfl) rfl ?_
                        refine Cov.region_end ?_
                        refine Cov.prune _ ?_ (Cov.same rfl rfl rfl (hb637 ((i633 + 1), xs644) ⟨(drop_succ g635), r650⟩ (Nat.lt_succ_self _)))
                        exact ⟨(congrArg (fun z => some (Value.int .i64 z)) (idx_wrap (SlR.len s574) g635)), rfl, rfl, rfl, trivial⟩
                · intro hb651
                  refine Cov.block ?_
                  refine Cov.own_nil 5 1 ?_
                  refine Cov.freezeR 1 rfl rfl o174 [_] rfl B0 (fun G808 e809 B810 s811 => ?_)
                  refine Cov.loop2 (α := Nat × List Int × Option Addr × Nat × List Value × Int × Int) (fun y => [(15, .slice y.2.2.1 y.2.1.length y.2.2.2.1), (16, .int .i64 y.2.2.2.2.2.1)]) [(11, _), (2, _), (4, _), (14, _)] (fun y => []) (fun y => [(b1, .cells #[.int .i64 y.2.2.2.2.2.2] 24 (0, 0))]) [] (fun y => [.s (.slice y.2.2.1 y.2.1.length y.2.2.2.1) 5 1 y.2.1.length y.2.2.2.2.1]) [] (fun y => OL (Rep.int .u8) G808 y.2.2.2.2.1 y.2.1 ∧ ref13_Decode_L6 (ref13_Decode_J3 x2 u180) v170 x2 u180 y.1 y.2.1 y.2.2.2.2.2.1 y.2.2.2.2.2.2 = some r) (fun y => y.1) (big, ([] : List Int), none, 0, [], 0, v176) ⟨(OL.mono e809 (OL.nil (Rp' := (Rep.int .u8)))), r181⟩ ⟨rfl, rfl, rfl, rfl, rfl, rfl, trivial⟩ rfl rfl rfl (fun y hI hb924 => ?_)
                  obtain ⟨n913, v915, a916, k917, cs918, v921, v922⟩ := y
                  obtain ⟨o919, r923⟩ := hI
                  try dsimp only at o919 r923
                  refine Cov.prune [(15, .slice a916 v915.length k917), (16, .int .i64 v921), (11, _), (2, _), (4, _), (14, _)] ⟨rfl, rfl, rfl, rfl, rfl, rfl, trivial⟩ ?_
                  refine Cov.same (bl' := [(b1, .cells #[.int .i64 v922] 24 (0, 0))]) (sl' := [.s (.slice a916 v915.length k917) 5 1 v915.length cs918]) (Fs' := G808 :: Fs) rfl rfl rfl ?_
                  obtain ⟨m929, rfl⟩ : ∃ m, n913 = m + 1 := by cases n913 with | zero => exact absurd (show (none : Option _) = some _ from r923) (by simp) | succ m => exact ⟨m, rfl⟩
                  have r928 : ref13_Decode_B6 (ref13_Decode_J3 x2 u180) v170 x2 u180 (ref13_Decode_L6 (ref13_Decode_J3 x2 u180) v170 x2 u180 m929) v915 v921 v922 = some r := r923; clear r923; unfold ref13_Decode_B6 at r928; try dsimp only at r928
                  refine Cov.seq ?_
                  refine Cov.seq ?_
                  refine Cov.region rfl ?_
                  refine Cov.q .ro (.move rfl) rfl ?_
                  refine Cov.q .ro (.move rfl) rfl ?_
                  refine Cov.q .ro (.lss rfl rfl) rfl ?_
                  refine Cov.region_end ?_
                  refine Cov.cond_dec rfl (fun c930 => ?_) (fun c930 => ?_)
                  · have r931 := ifT r928 c930; clear r928
                    refine Cov.skip ?_
                    refine Cov.seq ?_
                    refine Cov.block ?_
                    refine Cov.seq ?_
                    refine Cov.region rfl ?_
                    refine Cov.q .ro (.assign rfl) rfl ?_
                    refine Cov.region_end ?_
                    refine Cov.seq ?_
                    refine Cov.seq ?_
                    refine Cov.region rfl ?_
                    refine Cov.q .ro (.move rfl) rfl ?_
                    refine Cov.q .ro (.subw rfl rfl) rfl ?_
                    refine Cov.q .ro (.assign rfl) rfl ?_
                    refine Cov.region_end ?_
                    refine Cov.cutB (β := Int × Int) (fun y => [(17, .int .i64 y.1)]) [(15, _), (16, _), (11, _), (2, _), (4, _), (14, _)] (fun y => G808 :: Fs) (fun y => [(b1, .cells #[.int .i64 y.2] 24 (0, 0))]) [] (fun y => []) [_] (fun y => (ref13_Decode_J4 (ref13_Decode_L6 (ref13_Decode_J3 x2 u180) v170 x2 u180 m929) v921 v915) y.1 y.2 = some r) ⟨rfl, rfl, rfl, rfl, rfl, rfl, trivial⟩ [] rfl [0] rfl ?_ ?_
                    · intro y hI
                      obtain ⟨v966, v967⟩ := y
                      have r969 := hI; clear hI
                      try dsimp only at r969
                      refine Cov.prune [(17, .int .i64 v966), (15, _), (16, _), (11, _), (2, _), (4, _), (14, _)] ⟨rfl, rfl, rfl, rfl, rfl, rfl, rfl, trivial⟩ ?_
                      refine Cov.same (bl' := [(b1, .cells #[.int .i64 v967] 24 (0, 0))]) (sl' := [_]) (Fs' := G808 :: Fs) rfl rfl rfl ?_
                      unfold ref13_Decode_J4 at r969
                      try dsimp only at r969
                      refine Cov.seq ?_
                      refine Cov.seq ?_
                      refine Cov.region rfl ?_
                      refine Cov.q .ro (.move rfl) rfl ?_
                      refine Cov.q .ro (.gtr rfl rfl) rfl ?_
                      refine Cov.region_end ?_
                      refine Cov.cond_dec rfl (fun c975 => ?_) (fun c975 => ?_)
                      · have r976 := ifT r969 c975; clear r969
                        refine Cov.seq ?_
                        refine Cov.region rfl ?_
                        refine Cov.q .ro (.assign rfl) rfl ?_
                        refine Cov.q .ro (.assign rfl) rfl ?_
                        refine Cov.region_end ?_
                        cases r976
                        refine Cov.drop 1 0 [] _ rfl rfl ?_
                        refine Cov.drop 0 1 _ [] rfl rfl ?_
                        refine Cov.retS (c := ⟨24, none⟩) (.inr ⟨_, rfl⟩) [.tmp 8, .tmp 9] [_, _] rfl Try.func24 Try.results24 ⟨RV.tmp rfl, RV.tmp rfl, trivial⟩ (fun _ h => List.mem_cons_of_mem _ h) ⟨rfl, rfl, rfl⟩
                      · have r977 := ifF r969 c975; clear r969
                        refine Cov.skip ?_
                        refine Cov.region rfl ?_
                        refine Cov.q .ro (.move rfl) rfl ?_
                        refine Cov.q .ro (.move rfl) rfl ?_
                        refine Cov.q .ro (.convw Try.underlying3 Try.underlying5 rfl) rfl ?_
                        refine Cov.lit [_] [(0, _)] .ro sl61 ty5 rfl rfl rfl rfl rfl rfl (fun b978 hb978 => ?_)
                        have o979 : OL (Rep.int .u8) G808 [.int .u8 (wu8 v966)] ([(wu8 v966)] : List Int) := ((OL.cons rfl (Rep.intI .u8 (wu8 v966)) (OL.nil (Rp' := (Rep.int .u8)))) :)
                        refine Cov.reval 98 (n' := ([(wu8 v966)] : List Int).length) rfl rfl ?_
                        obtain ⟨u985, hu985, r986⟩ := bind_some r977; clear r977
                        refine Cov.appO (Q := (Rep.int .u8)) 0 .ro sl61 ty5 rfl rfl rfl rfl rfl rfl o919 o979 rfl rfl rfl B810 hu985 rfl (fun a981 k982 cs983 o984 => ?_)
                        refine Cov.q .ro (.assign rfl) rfl ?_
                        refine Cov.region_end ?_
                        refine Cov.inBlock ?_
                        refine Cov.region rfl ?_
                        refine Cov.q .ro (.move rfl) rfl ?_
                        refine Cov.q .ro (.addw rfl rfl) rfl ?_
                        refine Cov.q .ro (.assign rfl) rfl ?_
                        refine Cov.region_end ?_
                        refine Cov.prune _ ?_ (Cov.same rfl rfl rfl (hb924 (m929, u985, a981, k982, cs983, (w64 (v921 + 1)), v967) ⟨o984, r986⟩ (Nat.lt_succ_self _)))
                        exact ⟨rfl, rfl, rfl, rfl, rfl, rfl, trivial⟩
                    · intro hb988
                      refine Cov.block ?_
                      refine Cov.loop2 (α := Nat × Int × Int) (fun y => [(17, .int .i64 y.2.1), (18, .int .i64 y.2.2)]) [(15, _), (16, _), (11, _), (2, _), (4, _), (14, _)] (fun y => []) (fun y => []) [_] (fun y => []) [_] (fun y => ref13_Decode_L5 (ref13_Decode_J4 (ref13_Decode_L6 (ref13_Decode_J3 x2 u180) v170 x2 u180 m929) v921 v915) v921 v170 u180 v922 y.1 y.2.1 y.2.2 = some r) (fun y => y.1) (big, 0, (w64 (u180 - 1))) r931 ⟨rfl, rfl, rfl, rfl, rfl, rfl, rfl, rfl, trivial⟩ rfl rfl rfl (fun y hI hb1006 => ?_)
                      obtain ⟨n1001, v1003, v1004⟩ := y
                      have r1005 := hI; clear hI
                      try dsimp only at r1005
                      refine Cov.prune [(17, .int .i64 v1003), (18, .int .i64 v1004), (15, _), (16, _), (11, _), (2, _), (4, _), (14, _)] ⟨rfl, rfl, rfl, rfl, rfl, rfl, rfl, rfl, trivial⟩ ?_
                      refine Cov.same (bl' := [_]) (sl' := [_]) (Fs' := G808 :: Fs) rfl rfl rfl ?_
                      obtain ⟨m1014, rfl⟩ : ∃ m, n1001 = m + 1 := by cases n1001 with | zero => exact absurd (show (none : Option _) = some _ from r1005) (by simp) | succ m => exact ⟨m, rfl⟩
                      have r1013 : ref13_Decode_B5 (ref13_Decode_J4 (ref13_Decode_L6 (ref13_Decode_J3 x2 u180) v170 x2 u180 m929) v921 v915) v921 v170 u180 v922 (ref13_Decode_L5 (ref13_Decode_J4 (ref13_Decode_L6 (ref13_Decode_J3 x2 u180) v170 x2 u180 m929) v921 v915) v921 v170 u180 v922 m1014) v1003 v1004 = some r := r1005; clear r1005; unfold ref13_Decode_B5 at r1013; try dsimp only at r1013
                      refine Cov.seq ?_
                      refine Cov.seq ?_
                      refine Cov.region rfl ?_
                      refine Cov.q .ro (.move rfl) rfl ?_
                      refine Cov.q .ro (.geq rfl rfl) rfl ?_
                      refine Cov.region_end ?_
                      refine Cov.cond_dec rfl (fun c1015 => ?_) (fun c1015 => ?_)
                      · have r1016 := ifT r1013 c1015; clear r1013
                        refine Cov.skip ?_
                        refine Cov.seq ?_
                        refine Cov.block ?_
                        refine Cov.drawL (.q 0 (.q 1 (.q 2 (.q 3 (.q 4 (.q 5 (.q 6 (.q 7 (.q 8 (.q 9 (.q 10 (.q 11 (.q 12 (.q 13 .nil)))))))))))))) [_] (by kernel_rfl) (by kernel_rfl) (pick_mem [0] rfl) ?_
                        refine Cov.dq (.move rfl) rfl ?_
                        refine Cov.dq (.fieldAddr 0 rfl fl24_0 ty3.sz rfl) rfl ?_
                        refine Cov.dq (.load_own 0 rfl rfl ty3 rfl) rfl ?_
                        refine Cov.dq (.mulw rfl rfl) rfl ?_
                        refine Cov.dq (.move rfl) rfl ?_
                        refine Cov.dq (.move rfl) rfl ?_
                        refine Cov.dq (.move rfl) rfl ?_
                        refine Cov.dq (.mulw rfl rfl) rfl ?_
                        refine Cov.dq (.move rfl) rfl ?_
                        refine Cov.dq (.addw rfl rfl) rfl ?_
                        obtain ⟨u1017, hu1017, r1018⟩ := bind_some r1016; clear r1016
                        obtain ⟨c1019, p1020, h1021⟩ := SlR.get s811 hu1017
                        obtain rfl := h1021
                        refine Cov.dq (.idxR s811 rfl rfl hu1017 sl22 ty3.sz) rfl ?_
                        refine Cov.dq (.load_rp p1020 List.mem_cons_self rfl ty3 rfl) rfl ?_
                        refine Cov.dq (.addw rfl rfl) rfl ?_
                        refine Cov.dq (.assign rfl) rfl ?_
                        refine Cov.draw_end ?_
                        refine Cov.prune [(17, _), (18, _), (15, _), (16, _), (11, _), (2, _), (4, _), (14, _)] ⟨rfl, rfl, rfl, rfl, rfl, rfl, rfl, rfl, trivial⟩ ?_
                        refine Cov.inBlock ?_
                        refine Cov.region rfl ?_
                        refine Cov.q .ro (.move rfl) rfl ?_
                        refine Cov.q .ro (.subw rfl rfl) rfl ?_
                        refine Cov.q .ro (.assign rfl) rfl ?_
                        refine Cov.region_end ?_
                        refine Cov.prune _ ?_ (Cov.same rfl rfl rfl (hb1006 (m1014, (w64 ((w64 (v1003 * v922)) + u1017)), (w64 (v1004 - 1))) r1018 (Nat.lt_succ_self _)))
                        exact ⟨rfl, rfl, rfl, rfl, rfl, rfl, rfl, rfl, trivial⟩
                      · have r1022 := ifF r1013 c1015; clear r1013
                        refine Cov.exit rfl ?_
                        refine Cov.prune _ ?_ (Cov.same rfl rfl rfl (hb988 (v1003, v922) r1022))
                        exact ⟨rfl, rfl, rfl, rfl, rfl, rfl, rfl, trivial⟩
                  · have r1023 := ifF r928 c930; clear r928
                    refine Cov.exit rfl ?_
                    refine Cov.prune _ ?_ (Cov.same rfl rfl rfl (hb651 (G808, v170, a171, k172, v915, a916, k917, cs918, v922) ⟨e809, B810, s811, o919, r1023⟩))
                    exact ⟨rfl, rfl, rfl, rfl, trivial⟩
              · intro hb1024
                refine Cov.block ?_
                refine Cov.own_nil 3 1 ?_
                refine Cov.loop2 (α := Nat × List (List Int) × List Int × Option Addr × Nat × List Value) (fun y => [(11, .slice y.2.2.2.1 y.2.2.1.length y.2.2.2.2.1), (49, .int .i64 (y.1 : Int))]) [(1, _), (2, _), (4, _), (47, _), (48, _)] (fun y => []) (fun y => []) [_] (fun y => [.s (.slice y.2.2.2.1 y.2.2.1.length y.2.2.2.2.1) 3 1 y.2.2.1.length y.2.2.2.2.2]) [] (fun y => OL (Rep.int .i64) G y.2.2.2.2.2 y.2.2.1 ∧ List.drop y.1 x3 = y.2.1 ∧ ref13_Decode_L8 (ref13_Decode_J7 x2) x1 x0_0 y.2.1 y.2.2.1 = some r) (fun y => y.2.1.length) (0, x3, ([] : List Int), none, 0, []) ⟨(OL.nil (Rp' := (Rep.int .i64))), rfl, r30⟩ ⟨rfl, rfl, rfl, rfl, rfl, rfl, rfl, trivial⟩ rfl rfl rfl (fun y hI hb1123 => ?_)
                obtain ⟨i1113, w1114, v1116, a1117, k1118, cs1119⟩ := y
                obtain ⟨o1120, g1115, r1122⟩ := hI
                try dsimp only at o1120 g1115 r1122
                refine Cov.prune [(11, .slice a1117 v1116.length k1118), (49, .int .i64 (i1113 : Int)), (1, _), (2, _), (4, _), (47, _), (48, _)] ⟨rfl, rfl, rfl, rfl, rfl, rfl, rfl, trivial⟩ ?_
                refine Cov.same (bl' := [_]) (sl' := [.s (.slice a1117 v1116.length k1118) 3 1 v1116.length cs1119]) (Fs' := G :: Fs) rfl rfl rfl ?_
                cases w1114 with
                | nil =>
                  rw [ref13_Decode_L8] at r1122; try dsimp only at r1122
                  refine Cov.seq ?_
                  refine Cov.region rfl ?_
                  refine Cov.q .ro (.lss rfl rfl) rfl ?_
                  refine Cov.region_end ?_
                  refine Cov.seq ?_
                  refine Cov.cond_dec rfl (fun c => absurd c (drop_nil g1115)) (fun _ => ?_)
                  refine Cov.exit rfl ?_
                  refine Cov.prune _ ?_ (Cov.same rfl rfl rfl (hb1024 (v1116, a1117, k1118, cs1119, x0_0) ⟨o1120, r1122⟩))
                  exact ⟨rfl, rfl, rfl, trivial⟩
                | cons x1130 xs1131 =>
                  have r1129 : ref13_Decode_B8 (ref13_Decode_J7 x2) x1 x0_0 (ref13_Decode_L8 (ref13_Decode_J7 x2) x1 x0_0 xs1131) x1130 v1116 = some r := r1122; clear r1122; unfold ref13_Decode_B8 at r1129; try dsimp only at r1129
                  refine Cov.seq ?_
                  refine Cov.region rfl ?_
                  refine Cov.q .ro (.lss rfl rfl) rfl ?_
                  refine Cov.region_end ?_
                  refine Cov.seq ?_
                  refine Cov.cond_dec rfl (fun _ => ?_) (fun c => absurd (drop_lt g1115) c)
                  refine Cov.skip ?_
                  refine Cov.seq ?_
                  refine Cov.block ?_
                  refine Cov.seq ?_
                  refine Cov.region rfl ?_
                  obtain ⟨c1132, p1133, h1134⟩ := SlR.get s3 (drop_idx g1115)
                  obtain ⟨a1135, k1136, rfl, s1137⟩ := h1134
                  refine Cov.q .ro (.idxR s3 rfl rfl (drop_idx g1115) sl26 ty22.sz) rfl ?_
                  refine Cov.q .ro (.load_rp p1133 List.mem_cons_self rfl ty22 rfl) rfl ?_
                  refine Cov.q .ro (.assign rfl) rfl ?_
                  refine Cov.region_end ?_
                  refine Cov.seq ?_
                  refine Cov.seq ?_
                  refine Cov.region rfl ?_
                  refine Cov.q .ro (.move rfl) rfl ?_
                  refine Cov.q .ro (.len_sl rfl rfl sl22) rfl ?_
                  refine Cov.q .ro (.move rfl) rfl ?_
                  refine Cov.q .ro (.neq rfl rfl) rfl ?_
                  refine Cov.q .ro (.move rfl) rfl ?_
                  obtain ⟨u1144, h1145, r1146⟩ := bind_some r1129; clear r1129
                  refine Cov.cutR 5 (β := Unit) (fun y => [(62, .bool u1144)]) [(11, _), (49, _), (1, _), (2, _), (4, _), (47, _), (48, _), (13, _)] (fun y => G :: Fs) (fun y => []) [_] (fun y => []) [_] (fun y => True) ⟨rfl, rfl, rfl, rfl, rfl, rfl, rfl, rfl, trivial⟩ [0] rfl [0] rfl ?_ ?_
                  · rintro _ _
                    refine Cov.prune [(62, .bool u1144), (11, _), (49, _), (1, _), (2, _), (4, _), (47, _), (48, _), (13, _)] ⟨rfl, rfl, rfl, rfl, rfl, rfl, rfl, rfl, rfl, trivial⟩ ?_
                    refine Cov.same (bl' := [_]) (sl' := [_]) (Fs' := G :: Fs) rfl rfl rfl ?_
                    refine Cov.region_end ?_
                    refine Cov.cond rfl (fun c1149 => ?_) (fun c1149 => ?_)
                    · have r1150 := ifT r1146 c1149; clear r1146
                      refine Cov.seq ?_
                      refine Cov.region rfl ?_
                      refine Cov.q .ro (.assign rfl) rfl ?_
                      refine Cov.q .ro (.assign rfl) rfl ?_
                      refine Cov.region_end ?_
                      cases r1150
                      refine Cov.drop 1 0 [] _ rfl rfl ?_
                      refine Cov.drop 0 1 _ [] rfl rfl ?_
                      refine Cov.retS (c := ⟨24, none⟩) (.inr ⟨_, rfl⟩) [.tmp 8, .tmp 9] [_, _] rfl Try.func24 Try.results24 ⟨RV.tmp rfl, RV.tmp rfl, trivial⟩ (fun _ h => List.mem_cons_of_mem _ h) ⟨rfl, rfl, rfl⟩
                    · have r1151 := ifBF r1146 c1149; clear r1146
                      refine Cov.skip ?_
                      refine Cov.region rfl ?_
                      refine Cov.q .ro (.move rfl) rfl ?_
                      refine Cov.q .ro (.move rfl) rfl ?_
                      obtain ⟨u1156, hu1156, r1157⟩ := bind_some r1151; clear r1151
                      refine Cov.appR (Q := (Rep.int .i64)) 0 .ro sl22 ty3 rfl rfl rfl rfl rfl o1120 rfl rfl s1137 rfl List.mem_cons_self hu1156 rfl (fun a1152 k1153 cs1154 o1155 => ?_)
                      refine Cov.q .ro (.assign rfl) rfl ?_
                      refine Cov.region_end ?_
                      refine Cov.inBlock ?_
                      refine Cov.region rfl ?_
                      refine Cov.q .ro (.addw rfl rfl) rfl ?_
                      refine Cov.q .ro (.move rfl) rfl ?_
                      refine Cov.region_end ?_
                      refine Cov.prune _ ?_ (Cov.same rfl rfl rfl (hb1123 ((i1113 + 1), xs1131, u1156, a1152, k1153, cs1154) ⟨o1155, (drop_succ g1115), r1157⟩ (Nat.lt_succ_self _)))
                      exact ⟨rfl, (congrArg (fun z => some (Value.int .i64 z)) (idx_wrap (SlR.len s3) g1115)), rfl, rfl, rfl, rfl, rfl, trivial⟩
                  · intro hb1143
                    refine Cov.split 57 rfl (fun c1142 => ?_) (fun c1142 => ?_)
                    · have r1159 := ifT h1145 c1142
                      refine Cov.g_off rfl rfl rfl ?_
                      refine Cov.g_off rfl rfl rfl ?_
                      refine Cov.g_off rfl rfl rfl ?_
                      refine Cov.g_off rfl rfl rfl ?_
                      refine Cov.q .ro (.pick_t rfl rfl) rfl ?_
                      refine Cov.prune _ ?_ (Cov.same rfl rfl rfl (hb1143 () trivial))
                      exact ⟨sval r1159, rfl, rfl, rfl, rfl, rfl, rfl, rfl, rfl, trivial⟩
                    · have r1160 := ifF h1145 c1142
                      refine Cov.g_on rfl ?_
                      refine Cov.q .ro (.load_own_a 0 [_] rfl rfl ty24 rfl) rfl ?_
                      refine Cov.g_on rfl ?_
                      refine Cov.q .ro (.move rfl) rfl ?_
                      refine Cov.g_on rfl ?_
                      obtain ⟨u1161, hu1161, r1162⟩ := bind_some r1160; clear r1160
                      refine Cov.callS (b1 := []) (b2 := [_]) (s1 := []) [_, _] [] .ro rfl rfl Try.call49 rfl rfl (ref03_In_c (G := G) List.mem_cons_self s1137 hu1161) rfl (fun v1164 bo so h1163 => ?_)
                      obtain ⟨rfl, rfl, rfl⟩ := h1163
                      refine Cov.same (bl' := [_]) (sl' := [_]) rfl rfl rfl ?_
                      refine Cov.g_on rfl ?_
                      refine Cov.q .ro (.not rfl) rfl ?_
                      refine Cov.q .ro (.pick_f rfl rfl) rfl ?_
                      refine Cov.prune _ ?_ (Cov.same rfl rfl rfl (hb1143 () trivial))
                      exact ⟨sval r1162, rfl, rfl, rfl, rfl, rfl, rfl, rfl, rfl, trivial⟩
        · intro hb18
          refine Cov.split 36 rfl (fun c17 => ?_) (fun c17 => ?_)
          · refine Cov.g_off rfl rfl rfl ?_
            refine Cov.g_off rfl rfl rfl ?_
            refine Cov.q .ro (.pick_t rfl rfl) rfl ?_
            refine Cov.prune _ ?_ (Cov.same rfl rfl rfl (hb18 () trivial))
            exact ⟨dor_t c17, rfl, rfl, rfl, rfl, trivial⟩
          · refine Cov.g_on rfl ?_
            refine Cov.q .ro (.move rfl) rfl ?_
            refine Cov.g_on rfl ?_
            refine Cov.q .ro (.gtr rfl rfl) rfl ?_
            refine Cov.q .ro (.pick_f rfl rfl) rfl ?_
            refine Cov.prune _ ?_ (Cov.same rfl rfl rfl (hb18 () trivial))
            exact ⟨dor_f c17, rfl, rfl, rfl, rfl, trivial⟩
      · intro hb14
        refine Cov.split 32 rfl (fun c13 => ?_) (fun c13 => ?_)
        · refine Cov.g_off rfl rfl rfl ?_
          refine Cov.g_off rfl rfl rfl ?_
          refine Cov.q .ro (.pick_t rfl rfl) rfl ?_
          refine Cov.prune _ ?_ (Cov.same rfl rfl rfl (hb14 () trivial))
          exact ⟨dor_t c13, rfl, rfl, rfl, rfl, trivial⟩
        · refine Cov.g_on rfl ?_
          refine Cov.q .ro (.move rfl) rfl ?_
          refine Cov.g_on rfl ?_
          refine Cov.q .ro (.lss rfl rfl) rfl ?_
          refine Cov.q .ro (.pick_f rfl rfl) rfl ?_
          refine Cov.prune _ ?_ (Cov.same rfl rfl rfl (hb14 () trivial))
          exact ⟨dor_f c13, rfl, rfl, rfl, rfl, trivial⟩
    · intro hb10
      refine Cov.split 28 rfl (fun c9 => ?_) (fun c9 => ?_)
      · refine Cov.g_off rfl rfl rfl ?_
        refine Cov.g_off rfl rfl rfl ?_
        refine Cov.q .ro (.pick_t rfl rfl) rfl ?_
        refine Cov.prune _ ?_ (Cov.same rfl rfl rfl (hb10 () trivial))
        exact ⟨dor_t c9, rfl, rfl, rfl, rfl, trivial⟩
      · refine Cov.g_on rfl ?_
        refine Cov.q .ro (.move rfl) rfl ?_
        refine Cov.g_on rfl ?_
        refine Cov.q .ro (.gtr rfl rfl) rfl ?_
        refine Cov.q .ro (.pick_f rfl rfl) rfl ?_
        refine Cov.prune _ ?_ (Cov.same rfl rfl rfl (hb10 () trivial))
        exact ⟨dor_f c9, rfl, rfl, rfl, rfl, trivial⟩

set_option maxHeartbeats 4000000 in
set_option maxRecDepth 100000 in
theorem slices_MaxFunc_LapiPlaceapiPlace_c {Fs : List Hp} {G : Hp} {a0 : Option Addr} {k0 : Nat} {x0 : List (Int × Int × Int)} {F1 : FuncId} {c1 : List Value} {x1 : (Int × Int × Int) → (Int × Int × Int) → Option Int} {r : (Int × Int × Int)} (hG : G ∈ Fs) (s0 : SlR (Rep.pair (Rep.int .i64) (Rep.pair (Rep.int .i64) (Rep.int .i64))) G a0 k0 x0) (hc1 : ∀ args w, (callFunc F1 args).run Try.prog w = .ok (.enter F1 args) w) (hf1 : ∀ (Fs' : List Hp) (G1 : Hp), HpLe G G1 → G1 ∈ Fs' → ∀ (y0_0 : Int) (y0_1 : Int) (y0_2 : Int) (y1_0 : Int) (y1_1 : Int) (y1_2 : Int) (r : Int), x1 (y0_0, y0_1, y0_2) (y1_0, y1_1, y1_2) = some r → RetS Try.prog F1 (([.agg #[.int .i64 y0_0, .int .i64 y0_1, .int .i64 y0_2], .agg #[.int .i64 y1_0, .int .i64 y1_1, .int .i64 y1_2]] : List Value) ++ c1).toArray Fs' [] [] (fun v bo so => v = .int .i64 r ∧ bo = [] ∧ so = [])) (h : slices_MaxFunc_LapiPlaceapiPlace x0 x1 = some r) : RetS Try.prog 51 #[.slice a0 x0.length k0, .func (.func F1) #[] c1.toArray] Fs [] [] (fun v bo so => v = .agg #[.int .i64 r.1, .int .i64 r.2.1, .int .i64 r.2.2] ∧ bo = [] ∧ so = []) := by
  unfold slices_MaxFunc_LapiPlaceapiPlace at h
  try dsimp only at h
  refine RetS.of (vs := [_, _]) Try.func51 rfl Try.ntmps51 [(0, _), (1, _)] ⟨rfl, rfl, trivial⟩ rfl hG fun w0 S0 hS0 B0 => ?_
  refine Cov.seq ?_
  refine Cov.region rfl ?_
  refine Cov.alloc .ro ty56 rfl (fun b1 hb1 => ?_)
  refine Cov.region_end ?_
  refine Cov.seq ?_
  refine Cov.seq ?_
  refine Cov.region rfl ?_
  refine Cov.q .ro (.move rfl) rfl ?_
  refine Cov.q .ro (.len_sl rfl rfl sl32) rfl ?_
  refine Cov.q .ro (.lss rfl rfl) rfl ?_
  refine Cov.region_end ?_
  refine Cov.cutI (β := Unit) (fun y => []) [(0, _), (1, _), (4, _)] (fun y => G :: Fs) (fun y => []) [_] (fun y => []) [] (fun y => (slices_MaxFunc_LapiPlaceapiPlace_J3 x0 x1)  = some r) ⟨rfl, rfl, rfl, trivial⟩ [0] rfl [] rfl ?_ ?_
  · intro _ hI
    have r7 := hI; clear hI
    refine Cov.prune [(0, _), (1, _), (4, _)] ⟨rfl, rfl, rfl, trivial⟩ ?_
    refine Cov.same (bl' := [_]) (sl' := []) (Fs' := G :: Fs) rfl rfl rfl ?_
    unfold slices_MaxFunc_LapiPlaceapiPlace_J3 at r7
    try dsimp only at r7
    refine Cov.seq ?_
    refine Cov.region rfl ?_
    refine Cov.q .ro (.move rfl) rfl ?_
    obtain ⟨u10, hu10, r11⟩ := bind_some r7; clear r7
    obtain ⟨c12, p13, h14⟩ := SlR.get s0 hu10
    obtain ⟨_, _, rfl, rfl, _, _, rfl, rfl, rfl⟩ := h14
    refine Cov.q .ro (.idxR s0 rfl rfl hu10 sl32 ty56.sz) rfl ?_
    refine Cov.q .ro (.load_rp_a [_, _, _] p13 List.mem_cons_self rfl ty56 rfl) rfl ?_
    refine Cov.alloc .ro ty56 rfl (fun b15 hb15 => ?_)
    refine Cov.store 0 [_, _, _] [_, _] .ro rfl rfl rfl ty56 rfl rfl rfl rfl ?_
    refine Cov.region_end ?_
    refine Cov.seq ?_
    refine Cov.seq ?_
    refine Cov.region rfl ?_
    refine Cov.q .ro (.assign rfl) rfl ?_
    refine Cov.region_end ?_
    refine Cov.cutB (β := Int × Int × Int × Int × Int × Int) (fun y => []) [(4, _), (5, _)] (fun y => G :: Fs) (fun y => [(b15, .cells #[.int .i64 y.1, .int .i64 y.2.1, .int .i64 y.2.2.1] 56 (0, 0)), (b1, .cells #[.int .i64 y.2.2.2.1, .int .i64 y.2.2.2.2.1, .int .i64 y.2.2.2.2.2] 56 (0, 0))]) [] (fun y => []) [] (fun y => slices_MaxFunc_LapiPlaceapiPlace_J1 y.1 y.2.1 y.2.2.1 y.2.2.2.1 y.2.2.2.2.1 y.2.2.2.2.2 = some r) ⟨rfl, rfl, trivial⟩ [] rfl [] rfl ?_ ?_
    · intro y hI
      obtain ⟨v76, v77, v78, v79, v80, v81⟩ := y
      have r83 := hI; clear hI
      try dsimp only at r83
      refine Cov.prune [(4, _), (5, _)] ⟨rfl, rfl, trivial⟩ ?_
      refine Cov.same (bl' := [(b15, .cells #[.int .i64 v76, .int .i64 v77, .int .i64 v78] 56 (0, 0)), (b1, .cells #[.int .i64 v79, .int .i64 v80, .int .i64 v81] 56 (0, 0))]) (sl' := []) (Fs' := G :: Fs) rfl rfl rfl ?_
      unfold slices_MaxFunc_LapiPlaceapiPlace_J1 at r83
      try dsimp only at r83
      refine Cov.seq ?_
      refine Cov.region rfl ?_
      refine Cov.q .ro (.load_own_a 0 [_, _, _] rfl rfl ty56 rfl) rfl ?_
      refine Cov.store 1 [_, _, _] [_, _] .ro rfl rfl rfl ty56 rfl rfl rfl rfl ?_
      refine Cov.region_end ?_
      cases r83
      refine Cov.retSD 2 (c := ⟨51, none⟩) (.inr ⟨_, rfl⟩) [.cell 4 56] [_] rfl Try.func51 Try.results51 ⟨RV.cell_a 1 [_, _, _] rfl rfl ty56 rfl, trivial⟩ (fun _ h => List.mem_cons_of_mem _ h) ⟨rfl, rfl, rfl⟩
    · intro hb84
      refine Cov.block ?_
      refine Cov.loop2 (α := Nat × Int × Int × Int × Int) (fun y => [(6, .int .i64 y.2.1)]) [(0, _), (1, _), (4, _), (5, _)] (fun y => []) (fun y => [(b15, .cells #[.int .i64 y.2.2.1, .int .i64 y.2.2.2.1, .int .i64 y.2.2.2.2] 56 (0, 0))]) [_] (fun y => []) [] (fun y => slices_MaxFunc_LapiPlaceapiPlace_L2 slices_MaxFunc_LapiPlaceapiPlace_J1 x0 x1 y.1 y.2.1 y.2.2.1 y.2.2.2.1 y.2.2.2.2 = some r) (fun y => y.1) (big, 1, u10.1, u10.2.1, u10.2.2) r11 ⟨rfl, rfl, rfl, rfl, rfl, trivial⟩ rfl rfl rfl (fun y hI hb120 => ?_)
      obtain ⟨n113, v115, v116, v117, v118⟩ := y
      have r119 := hI; clear hI
      try dsimp only at r119
      refine Cov.prune [(6, .int .i64 v115), (0, _), (1, _), (4, _), (5, _)] ⟨rfl, rfl, rfl, rfl, rfl, trivial⟩ ?_
      refine Cov.same (bl' := [(b15, .cells #[.int .i64 v116, .int .i64 v117, .int .i64 v118] 56 (0, 0)), _]) (sl' := []) (Fs' := G :: Fs) rfl rfl rfl ?_
      obtain ⟨m124, rfl⟩ : ∃ m, n113 = m + 1 := by cases n113 with | zero => exact absurd (show (none : Option _) = some _ from r119) (by simp) | succ m => exact ⟨m, rfl⟩
      have r123 : slices_MaxFunc_LapiPlaceapiPlace_B2 slices_MaxFunc_LapiPlaceapiPlace_J1 x0 x1 (slices_MaxFunc_LapiPlaceapiPlace_L2 slices_MaxFunc_LapiPlaceapiPlace_J1 x0 x1 m124) v115 v116 v117 v118 = some r := r119; clear r119; unfold slices_MaxFunc_LapiPlaceapiPlace_B2 at r123; try dsimp only at r123
      refine Cov.seq ?_
      refine Cov.seq ?_
      refine Cov.region rfl ?_
      refine Cov.q .ro (.move rfl) rfl ?_
      refine Cov.q .ro (.move rfl) rfl ?_
      refine Cov.q .ro (.len_sl rfl rfl sl32) rfl ?_
      refine Cov.q .ro (.lss rfl rfl) rfl ?_
      refine Cov.region_end ?_
      refine Cov.cond_dec rfl (fun c125 => ?_) (fun c125 => ?_)
      · have r126 := ifT r123 c125; clear r123
        refine Cov.skip ?_
        refine Cov.seq ?_
        refine Cov.block ?_
        refine Cov.seq ?_
        refine Cov.drawL (.q 0 (.q 1 (.q 2 (.q 3 (.q 4 (.q 5 (.e 6 1 (.q 7 .nil)))))))) [_, _] (by kernel_rfl) (by kernel_rfl) (pick_mem [0, 1] rfl) ?_
        refine Cov.dq (.move rfl) rfl ?_
        refine Cov.dq (.move rfl) rfl ?_
        refine Cov.dq (.move rfl) rfl ?_
        obtain ⟨u127, hu127, r128⟩ := bind_some r126; clear r126
        obtain ⟨c129, p130, h131⟩ := SlR.get s0 hu127
        obtain ⟨_, _, rfl, rfl, _, _, rfl, rfl, rfl⟩ := h131
        refine Cov.dq (.idxR s0 rfl rfl hu127 sl32 ty56.sz) rfl ?_
        refine Cov.dq (.load_rp_a [_, _, _] p130 List.mem_cons_self rfl ty56 rfl) rfl ?_
        refine Cov.dq (.load_own_a 0 [_, _, _] rfl rfl ty56 rfl) rfl ?_
        obtain ⟨u132, hu132, r133⟩ := bind_some r128; clear r128
        refine Cov.callS (b1 := []) (b2 := [_, _]) (s1 := []) [_, _] c1 .d1 rfl rfl hc1 rfl rfl (hf1 _ G (HpLe.refl _) List.mem_cons_self _ _ _ _ _ _ _  hu132) rfl (fun v135 bo so h134 => ?_)
        obtain ⟨rfl, rfl, rfl⟩ := h134
        refine Cov.same (bl' := [_, _]) (sl' := []) rfl rfl rfl ?_
        refine Cov.clsL (HpLe.refl _) (pick_mem [0, 1] rfl) ?_
        refine Cov.dq (.gtr rfl rfl) rfl ?_
        refine Cov.draw_end ?_
        refine Cov.cond_dec rfl (fun c136 => ?_) (fun c136 => ?_)
        · have r137 := ifT r133 c136; clear r133
          refine Cov.region rfl ?_
          refine Cov.q .ro (.move rfl) rfl ?_
          refine Cov.q .ro (.move rfl) rfl ?_
          obtain ⟨u138, hu138, r139⟩ := bind_some r137; clear r137
          obtain ⟨c140, p141, h142⟩ := SlR.get s0 hu138
          obtain ⟨_, _, rfl, rfl, _, _, rfl, rfl, rfl⟩ := h142
          refine Cov.q .ro (.idxR s0 rfl rfl hu138 sl32 ty56.sz) rfl ?_
          refine Cov.q .ro (.load_rp_a [_, _, _] p141 List.mem_cons_self rfl ty56 rfl) rfl ?_
          refine Cov.store 0 [_, _, _] [_, _] .ro rfl rfl rfl ty56 rfl rfl rfl rfl ?_
          refine Cov.region_end ?_
          refine Cov.prune [(6, _), (0, _), (1, _), (4, _), (5, _)] ⟨rfl, rfl, rfl, rfl, rfl, trivial⟩ ?_
          refine Cov.inBlock ?_
          refine Cov.region rfl ?_
          refine Cov.q .ro (.move rfl) rfl ?_
          refine Cov.q .ro (.addw rfl rfl) rfl ?_
          refine Cov.q .ro (.assign rfl) rfl ?_
          refine Cov.region_end ?_
          refine Cov.prune _ ?_ (Cov.same rfl rfl rfl (hb120 (m124, (w64 (v115 + 1)), u138.1, u138.2.1, u138.2.2) r139 (Nat.lt_succ_self _)))
          exact ⟨rfl, rfl, rfl, rfl, rfl, trivial⟩
        · have r143 := ifF r133 c136; clear r133
          refine Cov.skip ?_
          refine Cov.inBlock ?_
          refine Cov.region rfl ?_
          refine Cov.q .ro (.move rfl) rfl ?_
          refine Cov.q .ro (.addw rfl rfl) rfl ?_
          refine Cov.q .ro (.assign rfl) rfl ?_
          refine Cov.region_end ?_
          refine Cov.prune [(6, _), (0, _), (1, _), (4, _), (5, _)] ⟨rfl, rfl, rfl, rfl, rfl, trivial⟩ ?_
          refine Cov.prune _ ?_ (Cov.same rfl rfl rfl (hb120 (m124, (w64 (v115 + 1)), v116, v117, v118) r143 (Nat.lt_succ_self _)))
          exact ⟨rfl, rfl, rfl, rfl, rfl, trivial⟩
      · have r144 := ifF r123 c125; clear r123
        refine Cov.exit rfl ?_
        refine Cov.prune _ ?_ (Cov.same rfl rfl rfl (hb84 (v116, v117, v118, 0, 0, 0) r144))
        exact ⟨rfl, rfl, trivial⟩
  · intro hb145
    refine Cov.cond_dec rfl (fun c146 => ?_) (fun c146 => ?_)
    · have r147 := ifT h c146; clear h
      refine Cov.region rfl ?_
      exact absurd r147 (by simp)
    · have r148 := ifF h c146; clear h
      refine Cov.skip ?_
      refine Cov.prune _ ?_ (Cov.same rfl rfl rfl (hb145 () r148))
      exact ⟨rfl, rfl, rfl, trivial⟩

set_option maxHeartbeats 4000000 in
set_option maxRecDepth 100000 in
theorem layout_Most_f1_c {Fs : List Hp} {G : Hp} {x0_0 : Int} {x0_1 : Int} {x0_2 : Int} {x1_0 : Int} {x1_1 : Int} {x1_2 : Int} {r : Int} (hG : G ∈ Fs)  (h : layout_Most_f1 (x0_0, x0_1, x0_2) (x1_0, x1_1, x1_2) = some r) : RetS Try.prog 52 #[.agg #[.int .i64 x0_0, .int .i64 x0_1, .int .i64 x0_2], .agg #[.int .i64 x1_0, .int .i64 x1_1, .int .i64 x1_2]] Fs [] [] (fun v bo so => v = .int .i64 r ∧ bo = [] ∧ so = []) := by
  unfold layout_Most_f1 at h
  try dsimp only at h
  refine RetS.of (vs := [_, _]) Try.func52 rfl Try.ntmps52 [(0, _), (1, _)] ⟨rfl, rfl, trivial⟩ rfl hG fun w0 S0 hS0 B0 => ?_
  refine Cov.seq ?_
  refine Cov.region rfl ?_
  refine Cov.box [_, _, _] .ro rfl rfl rfl (fun b1 hb1 => ?_)
  refine Cov.box [_, _, _] .ro rfl rfl rfl (fun b2 hb2 => ?_)
  refine Cov.q .ro (.assign rfl) rfl ?_
  refine Cov.region_end ?_
  refine Cov.seq ?_
  refine Cov.seq ?_
  refine Cov.region rfl ?_
  refine Cov.q .ro (.fieldAddr 1 rfl fl56_1 ty3.sz rfl) rfl ?_
  refine Cov.q .ro (.load_own 1 rfl rfl ty3 rfl) rfl ?_
  refine Cov.q .ro (.fieldAddr 1 rfl fl56_1 ty3.sz rfl) rfl ?_
  refine Cov.q .ro (.load_own 0 rfl rfl ty3 rfl) rfl ?_
  refine Cov.q .ro (.lss rfl rfl) rfl ?_
  refine Cov.region_end ?_
  refine Cov.cond_dec rfl (fun c3 => ?_) (fun c3 => ?_)
  · have r4 := ifT h c3; clear h
    refine Cov.seq ?_
    refine Cov.region rfl ?_
    refine Cov.q .ro (.assign rfl) rfl ?_
    refine Cov.region_end ?_
    cases r4
    refine Cov.drop 2 0 [] _ rfl rfl ?_
    refine Cov.retS (c := ⟨52, none⟩) (.inr ⟨_, rfl⟩) [.tmp 4] [_] rfl Try.func52 Try.results52 ⟨RV.tmp rfl, trivial⟩ (fun _ h => List.mem_cons_of_mem _ h) ⟨rfl, rfl, rfl⟩
  · have r5 := ifF h c3; clear h
    refine Cov.skip ?_
    refine Cov.seq ?_
    refine Cov.region rfl ?_
    refine Cov.q .ro (.assign rfl) rfl ?_
    refine Cov.region_end ?_
    cases r5
    refine Cov.drop 2 0 [] _ rfl rfl ?_
    refine Cov.retS (c := ⟨52, none⟩) (.inr ⟨_, rfl⟩) [.tmp 4] [_] rfl Try.func52 Try.results52 ⟨RV.tmp rfl, trivial⟩ (fun _ h => List.mem_cons_of_mem _ h) ⟨rfl, rfl, rfl⟩

set_option maxHeartbeats 4000000 in
set_option maxRecDepth 100000 in
theorem layout_Most_c {Fs : List Hp} {G : Hp} {x0_0 : Int} {a0_1 : Option Addr} {k0_1 : Nat} {x0_1 : List (Int × Int × Int)} {r : Int} (hG : G ∈ Fs) (s0_1 : SlR (Rep.pair (Rep.int .i64) (Rep.pair (Rep.int .i64) (Rep.int .i64))) G a0_1 k0_1 x0_1) (h : layout_Most (x0_0, x0_1) = some r) : RetS Try.prog 29 #[.agg #[.int .i64 x0_0, .slice a0_1 x0_1.length k0_1]] Fs [] [] (fun v bo so => v = .int .i64 r ∧ bo = [] ∧ so = []) := by
  unfold layout_Most at h
  try dsimp only at h
  refine RetS.of (vs := [_]) Try.func29 rfl Try.ntmps29 [(0, _)] ⟨rfl, trivial⟩ rfl hG fun w0 S0 hS0 B0 => ?_
  refine Cov.seq ?_
  refine Cov.region rfl ?_
  refine Cov.box [_, _] .ro rfl rfl rfl (fun b1 hb1 => ?_)
  refine Cov.q .ro (.assign rfl) rfl ?_
  refine Cov.region_end ?_
  refine Cov.seq ?_
  refine Cov.seq ?_
  refine Cov.region rfl ?_
  refine Cov.q .ro (.fieldAddr 1 rfl fl34_1 ty32.sz rfl) rfl ?_
  refine Cov.q .ro (.load_own 0 rfl rfl ty32 rfl) rfl ?_
  refine Cov.q .ro (.len_sl rfl rfl sl32) rfl ?_
  refine Cov.q .ro (.eql rfl rfl) rfl ?_
  refine Cov.region_end ?_
  refine Cov.cond_dec rfl (fun c2 => ?_) (fun c2 => ?_)
  · have r3 := ifT h c2; clear h
    refine Cov.seq ?_
    refine Cov.region rfl ?_
    refine Cov.q .ro (.assign rfl) rfl ?_
    refine Cov.region_end ?_
    cases r3
    refine Cov.drop 1 0 [] _ rfl rfl ?_
    refine Cov.retS (c := ⟨29, none⟩) (.inr ⟨_, rfl⟩) [.tmp 2] [_] rfl Try.func29 Try.results29 ⟨RV.tmp rfl, trivial⟩ (fun _ h => List.mem_cons_of_mem _ h) ⟨rfl, rfl, rfl⟩
  · have r4 := ifF h c2; clear h
    refine Cov.skip ?_
    refine Cov.seq ?_
    refine Cov.region rfl ?_
    refine Cov.q .ro (.fieldAddr 1 rfl fl34_1 ty32.sz rfl) rfl ?_
    refine Cov.q .ro (.load_own 0 rfl rfl ty32 rfl) rfl ?_
    obtain ⟨u5, hu5, r6⟩ := bind_some r4; clear r4
    refine Cov.callS (b1 := []) (b2 := [_]) (s1 := []) [_, _] [] .ro rfl rfl Try.call51 rfl rfl (slices_MaxFunc_LapiPlaceapiPlace_c (G := G) List.mem_cons_self s0_1 Try.call52 (fun Fs' G1 hle hm y0_0 y0_1 y0_2 y1_0 y1_1 y1_2 r  hr => layout_Most_f1_c (G := G1) hm   hr) hu5) rfl (fun v8 bo so h7 => ?_)
    obtain ⟨rfl, rfl, rfl⟩ := h7
    refine Cov.same (bl' := [_]) (sl' := []) rfl rfl rfl ?_
    refine Cov.q .ro (.field rfl fl56_1 ty3 rfl) rfl ?_
    refine Cov.q .ro (.assign rfl) rfl ?_
    refine Cov.region_end ?_
    cases r6
    refine Cov.drop 1 0 [] _ rfl rfl ?_
    refine Cov.retS (c := ⟨29, none⟩) (.inr ⟨_, rfl⟩) [.tmp 2] [_] rfl Try.func29 Try.results29 ⟨RV.tmp rfl, trivial⟩ (fun _ h => List.mem_cons_of_mem _ h) ⟨rfl, rfl, rfl⟩

set_option maxHeartbeats 4000000 in
set_option maxRecDepth 100000 in
theorem ref13_Most_c {Fs : List Hp} {G : Hp} {x0_0 : Int} {a0_1 : Option Addr} {k0_1 : Nat} {x0_1 : List (Int × Int × Int)} {r : Int} (hG : G ∈ Fs) (s0_1 : SlR (Rep.pair (Rep.int .i64) (Rep.pair (Rep.int .i64) (Rep.int .i64))) G a0_1 k0_1 x0_1) (h : ref13_Most (x0_0, x0_1) = some r) : RetS Try.prog 30 #[.agg #[.int .i64 x0_0, .slice a0_1 x0_1.length k0_1]] Fs [] [] (fun v bo so => v = .int .i64 r ∧ bo = [] ∧ so = []) := by
  unfold ref13_Most at h
  try dsimp only at h
  refine RetS.of (vs := [_]) Try.func30 rfl Try.ntmps30 [(0, _)] ⟨rfl, trivial⟩ rfl hG fun w0 S0 hS0 B0 => ?_
  refine Cov.seq ?_
  refine Cov.region rfl ?_
  refine Cov.box [_, _] .ro rfl rfl rfl (fun b1 hb1 => ?_)
  refine Cov.q .ro (.assign rfl) rfl ?_
  refine Cov.region_end ?_
  refine Cov.seq ?_
  refine Cov.region rfl ?_
  refine Cov.q .ro (.assign rfl) rfl ?_
  refine Cov.region_end ?_
  refine Cov.seq ?_
  refine Cov.seq ?_
  refine Cov.region rfl ?_
  refine Cov.q .ro (.fieldAddr 1 rfl fl34_1 ty32.sz rfl) rfl ?_
  refine Cov.q .ro (.load_own 0 rfl rfl ty32 rfl) rfl ?_
  refine Cov.q .ro (.len_sl rfl rfl sl32) rfl ?_
  refine Cov.q .ro (.move rfl) rfl ?_
  refine Cov.region_end ?_
  refine Cov.block ?_
  refine Cov.loop2 (α := Nat × (List (Int × Int × Int)) × Int) (fun y => [(3, .int .i64 y.2.2), (9, .int .i64 (y.1 : Int))]) [(7, _), (8, _)] (fun y => []) (fun y => []) [_] (fun y => []) [] (fun y => List.drop y.1 x0_1 = y.2.1 ∧ ref13_Most_L1 y.2.1 y.1 y.2.2 = some r) (fun y => y.2.1.length) (0, x0_1, 0) ⟨rfl, h⟩ ⟨rfl, rfl, rfl, rfl, trivial⟩ rfl rfl rfl (fun y hI hb28 => ?_)
  obtain ⟨i23, w24, v26⟩ := y
  obtain ⟨g25, r27⟩ := hI
  try dsimp only at g25 r27
  refine Cov.prune [(3, .int .i64 v26), (9, .int .i64 (i23 : Int)), (7, _), (8, _)] ⟨rfl, rfl, rfl, rfl, trivial⟩ ?_
  refine Cov.same (bl' := [_]) (sl' := []) (Fs' := G :: Fs) rfl rfl rfl ?_
  cases w24 with
  | nil =>
    rw [ref13_Most_L1] at r27; try dsimp only at r27
    refine Cov.seq ?_
    refine Cov.region rfl ?_
    refine Cov.q .ro (.lss rfl rfl) rfl ?_
    refine Cov.region_end ?_
    refine Cov.seq ?_
    refine Cov.cond_dec rfl (fun c => absurd c (drop_nil g25)) (fun _ => ?_)
    refine Cov.exit rfl ?_
    refine Cov.seq ?_
    refine Cov.region rfl ?_
    refine Cov.q .ro (.move rfl) rfl ?_
    refine Cov.q .ro (.assign rfl) rfl ?_
    refine Cov.region_end ?_
    cases r27
    refine Cov.drop 1 0 [] _ rfl rfl ?_
    refine Cov.retS (c := ⟨30, none⟩) (.inr ⟨_, rfl⟩) [.tmp 2] [_] rfl Try.func30 Try.results30 ⟨RV.tmp rfl, trivial⟩ (fun _ h => List.mem_cons_of_mem _ h) ⟨rfl, rfl, rfl⟩
  | cons x33 xs34 =>
    have r32 : ref13_Most_B1 (ref13_Most_L1 xs34 (i23 + 1)) x33 i23 v26 = some r := r27; clear r27; unfold ref13_Most_B1 at r32; try dsimp only at r32
    refine Cov.seq ?_
    refine Cov.region rfl ?_
    refine Cov.q .ro (.lss rfl rfl) rfl ?_
    refine Cov.region_end ?_
    refine Cov.seq ?_
    refine Cov.cond_dec rfl (fun _ => ?_) (fun c => absurd (drop_lt g25) c)
    refine Cov.skip ?_
    refine Cov.seq ?_
    refine Cov.block ?_
    refine Cov.seq ?_
    refine Cov.region rfl ?_
    refine Cov.q .ro (.move rfl) rfl ?_
    obtain ⟨c35, p36, h37⟩ := SlR.get s0_1 (drop_idx g25)
    obtain ⟨_, _, rfl, rfl, _, _, rfl, rfl, rfl⟩ := h37
    refine Cov.q .ro (.idxR s0_1 rfl rfl (drop_idx g25) sl32 ty56.sz) rfl ?_
    refine Cov.q .ro (.load_rp_a [_, _, _] p36 List.mem_cons_self rfl ty56 rfl) rfl ?_
    refine Cov.alloc .ro ty56 rfl (fun b38 hb38 => ?_)
    refine Cov.q .ro (.assign rfl) rfl ?_
    refine Cov.store 0 [_, _, _] [_, _] .ro rfl rfl rfl ty56 rfl rfl rfl rfl ?_
    refine Cov.region_end ?_
    refine Cov.seq ?_
    refine Cov.region rfl ?_
    refine Cov.q .ro (.move rfl) rfl ?_
    refine Cov.q .ro (.eql rfl rfl) rfl ?_
    refine Cov.q .ro (.move rfl) rfl ?_
    refine Cov.cutR 5 (β := Unit) (fun y => [(21, .bool (decide (((i23 : Int) = 0) ∨ (v26 < x33.2.1))))]) [(3, _), (9, _), (7, _), (8, _), (5, _)] (fun y => G :: Fs) (fun y => []) [_, _] (fun y => []) [] (fun y => True) ⟨rfl, rfl, rfl, rfl, rfl, trivial⟩ [0, 1] rfl [] rfl ?_ ?_
    · rintro _ _
      refine Cov.prune [(21, .bool (decide (((i23 : Int) = 0) ∨ (v26 < x33.2.1)))), (3, _), (9, _), (7, _), (8, _), (5, _)] ⟨rfl, rfl, rfl, rfl, rfl, rfl, trivial⟩ ?_
      refine Cov.same (bl' := [_, _]) (sl' := []) (Fs' := G :: Fs) rfl rfl rfl ?_
      refine Cov.region_end ?_
      refine Cov.cond_dec rfl (fun c43 => ?_) (fun c43 => ?_)
      · have r44 := ifT r32 c43; clear r32
        refine Cov.region rfl ?_
        refine Cov.q .ro (.fieldAddr 1 rfl fl56_1 ty3.sz rfl) rfl ?_
        refine Cov.q .ro (.load_own 0 rfl rfl ty3 rfl) rfl ?_
        refine Cov.q .ro (.assign rfl) rfl ?_
        refine Cov.region_end ?_
        refine Cov.inBlock ?_
        refine Cov.region rfl ?_
        refine Cov.q .ro (.addw rfl rfl) rfl ?_
        refine Cov.q .ro (.move rfl) rfl ?_
        refine Cov.region_end ?_
        refine Cov.drop 1 0 [_] _ rfl rfl ?_
        refine Cov.prune _ ?_ (Cov.same rfl rfl rfl (hb28 ((i23 + 1), xs34, x33.2.1) ⟨(drop_succ g25), r44⟩ (Nat.lt_succ_self _)))
        exact ⟨rfl, (congrArg (fun z => some (Value.int .i64 z)) (idx_wrap (SlR.len s0_1) g25)), rfl, rfl, trivial⟩
      · have r45 := ifF r32 c43; clear r32
        refine Cov.skip ?_
        refine Cov.inBlock ?_
        refine Cov.region rfl ?_
        refine Cov.q .ro (.addw rfl rfl) rfl ?_
        refine Cov.q .ro (.move rfl) rfl ?_
        refine Cov.region_end ?_
        refine Cov.drop 1 0 [_] _ rfl rfl ?_
        refine Cov.prune _ ?_ (Cov.same rfl rfl rfl (hb28 ((i23 + 1), xs34, v26) ⟨(drop_succ g25), r45⟩ (Nat.lt_succ_self _)))
        exact ⟨rfl, (congrArg (fun z => some (Value.int .i64 z)) (idx_wrap (SlR.len s0_1) g25)), rfl, rfl, trivial⟩
    · intro hb40
      refine Cov.split 16 rfl (fun c39 => ?_) (fun c39 => ?_)
      · refine Cov.g_off rfl rfl rfl ?_
        refine Cov.g_off rfl rfl rfl ?_
        refine Cov.g_off rfl rfl rfl ?_
        refine Cov.g_off rfl rfl rfl ?_
        refine Cov.q .ro (.pick_t rfl rfl) rfl ?_
        refine Cov.prune _ ?_ (Cov.same rfl rfl rfl (hb40 () trivial))
        exact ⟨dor_t c39, rfl, rfl, rfl, rfl, rfl, trivial⟩
      · refine Cov.g_on rfl ?_
        refine Cov.q .ro (.fieldAddr 1 rfl fl56_1 ty3.sz rfl) rfl ?_
        refine Cov.g_on rfl ?_
        refine Cov.q .ro (.load_own 0 rfl rfl ty3 rfl) rfl ?_
        refine Cov.g_on rfl ?_
        refine Cov.q .ro (.move rfl) rfl ?_
        refine Cov.g_on rfl ?_
        refine Cov.q .ro (.gtr rfl rfl) rfl ?_
        refine Cov.q .ro (.pick_f rfl rfl) rfl ?_
        refine Cov.prune _ ?_ (Cov.same rfl rfl rfl (hb40 () trivial))
        exact ⟨dor_f c39, rfl, rfl, rfl, rfl, rfl, trivial⟩

end Go.Proofs.Ythgmcgldmahgeaa
