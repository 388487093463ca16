/- The walks. Printed by wip/lift/drive.py. -/
import Derived.Test.YthgmcgldmahgeaaS
import Derived.Test.YthgmcgldmahgeaaL13
import Derived.Test.YthgmcgldmahgeaaRows
namespace Go.Proofs.Ythgmcgldmahgeaa
open Go.RowKit
set_option linter.unusedSimpArgs false
set_option linter.unusedVariables false
set_option synthInstance.maxSize 2000
set_option synthInstance.maxHeartbeats 400000

theorem ty3 : TyI Try.prog 3 false 1 8 [.int .i64 0] := ⟨by kernel_rfl, by kernel_rfl, by kernel_rfl, by kernel_rfl⟩
theorem ty5 : TyI Try.prog 5 false 1 1 [.int .u8 0] := ⟨by kernel_rfl, by kernel_rfl, by kernel_rfl, by kernel_rfl⟩
theorem ty9 : TyI Try.prog 9 false 1 16 [.string ⟨#[]⟩] := ⟨by kernel_rfl, by kernel_rfl, by kernel_rfl, by kernel_rfl⟩
theorem ty22 : TyI Try.prog 22 false 1 24 [.slice none 0 0] := ⟨by kernel_rfl, by kernel_rfl, by kernel_rfl, by kernel_rfl⟩
theorem ty24 : TyI Try.prog 24 true 1 8 [.int .i64 0] := ⟨by kernel_rfl, by kernel_rfl, by kernel_rfl, by kernel_rfl⟩
theorem ty25 : TyI Try.prog 25 false 1 24 [.slice none 0 0] := ⟨by kernel_rfl, by kernel_rfl, by kernel_rfl, by kernel_rfl⟩
theorem ty26 : TyI Try.prog 26 false 1 24 [.slice none 0 0] := ⟨by kernel_rfl, by kernel_rfl, by kernel_rfl, by kernel_rfl⟩
theorem ty32 : TyI Try.prog 32 false 1 24 [.slice none 0 0] := ⟨by kernel_rfl, by kernel_rfl, by kernel_rfl, by kernel_rfl⟩
theorem ty34 : TyI Try.prog 34 true 2 32 [.int .i64 0, .slice none 0 0] := ⟨by kernel_rfl, by kernel_rfl, by kernel_rfl, by kernel_rfl⟩
theorem ty39 : TyI Try.prog 39 false 1 8 [.int .i64 0] := ⟨by kernel_rfl, by kernel_rfl, by kernel_rfl, by kernel_rfl⟩
theorem ty56 : TyI Try.prog 56 true 3 24 [.int .i64 0, .int .i64 0, .int .i64 0] := ⟨by kernel_rfl, by kernel_rfl, by kernel_rfl, by kernel_rfl⟩
theorem ty61 : TyI Try.prog 61 false 1 24 [.slice none 0 0] := ⟨by kernel_rfl, by kernel_rfl, by kernel_rfl, by kernel_rfl⟩
theorem ty69 : TyI Try.prog 69 true 2 32 [.slice none 0 0, .int .i64 0] := ⟨by kernel_rfl, by kernel_rfl, by kernel_rfl, by kernel_rfl⟩
theorem ty70 : TyI Try.prog 70 false 1 8 [.int .i64 0] := ⟨by kernel_rfl, by kernel_rfl, by kernel_rfl, by kernel_rfl⟩
theorem fl24_0 : fldOf Try.prog 24 0 = some (0, 3) := by kernel_rfl
theorem fl34_0 : fldOf Try.prog 34 0 = some (0, 3) := by kernel_rfl
theorem fl34_1 : fldOf Try.prog 34 1 = some (1, 32) := by kernel_rfl
theorem fl56_0 : fldOf Try.prog 56 0 = some (0, 3) := by kernel_rfl
theorem fl56_1 : fldOf Try.prog 56 1 = some (1, 3) := by kernel_rfl
theorem fl56_2 : fldOf Try.prog 56 2 = some (2, 3) := by kernel_rfl
theorem fl69_0 : fldOf Try.prog 69 0 = some (0, 22) := by kernel_rfl
theorem fl69_1 : fldOf Try.prog 69 1 = some (1, 3) := by kernel_rfl
theorem pl24 : plOf Try.prog 24 = some [(0, 1)] := by kernel_rfl
theorem pl34 : plOf Try.prog 34 = some [(0, 1), (1, 1)] := by kernel_rfl
theorem pl56 : plOf Try.prog 56 = some [(0, 1), (1, 1), (2, 1)] := by kernel_rfl
theorem pl69 : plOf Try.prog 69 = some [(0, 1), (1, 1)] := by kernel_rfl
theorem sl22 : slOf Try.prog 22 = some 3 := by kernel_rfl
theorem sl25 : slOf Try.prog 25 = some 9 := by kernel_rfl
theorem sl26 : slOf Try.prog 26 = some 22 := by kernel_rfl
theorem sl32 : slOf Try.prog 32 = some 56 := by kernel_rfl
theorem sl38 : slOf Try.prog 38 = some 24 := by kernel_rfl
theorem sl43 : slOf Try.prog 43 = some 25 := by kernel_rfl
theorem sl48 : slOf Try.prog 48 = some 26 := by kernel_rfl
theorem sl61 : slOf Try.prog 61 = some 5 := by kernel_rfl
theorem sl62 : slOf Try.prog 62 = some 34 := by kernel_rfl

set_option maxHeartbeats 4000000 in
set_option maxRecDepth 100000 in
theorem residue_Of_c {Fs : List Hp} {G : Hp} {x0_0 : Int} {r : (Int × Bool)} (hG : G ∈ Fs)  (h : residue_Of x0_0 = some r) : RetS Try.prog 36 #[.agg #[.int .i64 x0_0]] Fs [] [] (fun v bo so => v = .tuple #[.int .i64 r.1, .bool r.2] ∧ bo = [] ∧ so = []) := by
  unfold residue_Of at h
  try dsimp only at h
  refine RetS.of (vs := [_]) Try.func36 rfl Try.ntmps36 [(0, _)] ⟨rfl, trivial⟩ rfl hG fun w0 S0 hS0 B0 => ?_
  refine Cov.seq ?_
  refine Cov.region rfl ?_
  refine Cov.box [_] .ro rfl rfl rfl (fun b1 hb1 => ?_)
  refine Cov.q .ro (.assign rfl) rfl ?_
  refine Cov.q .ro (.assign rfl) rfl ?_
  refine Cov.region_end ?_
  refine Cov.seq ?_
  refine Cov.seq ?_
  refine Cov.region rfl ?_
  refine Cov.q .ro (.fieldAddr 0 rfl fl24_0 ty3.sz rfl) rfl ?_
  refine Cov.q .ro (.load_own 0 rfl rfl ty3 rfl) rfl ?_
  refine Cov.q .ro (.lss rfl rfl) rfl ?_
  refine Cov.q .ro (.move rfl) rfl ?_
  refine Cov.cutR 4 (β := Unit) (fun y => [(12, .bool (decide ((x0_0 < 2) ∨ (65521 < x0_0))))]) [(1, _)] (fun y => G :: Fs) (fun y => []) [_] (fun y => []) [] (fun y => True) ⟨rfl, trivial⟩ [0] rfl [] rfl ?_ ?_
  · rintro _ _
    refine Cov.prune [(12, .bool (decide ((x0_0 < 2) ∨ (65521 < x0_0)))), (1, _)] ⟨rfl, rfl, trivial⟩ ?_
    refine Cov.same (bl' := [_]) (sl' := []) (Fs' := G :: Fs) rfl rfl rfl ?_
    refine Cov.region_end ?_
    refine Cov.cond_dec rfl (fun c6 => ?_) (fun c6 => ?_)
    · have r7 := ifT h c6; clear h
      refine Cov.seq ?_
      refine Cov.region rfl ?_
      refine Cov.q .ro (.assign rfl) rfl ?_
      refine Cov.q .ro (.assign rfl) rfl ?_
      refine Cov.region_end ?_
      cases r7
      refine Cov.drop 1 0 [] _ rfl rfl ?_
      refine Cov.retS (c := ⟨36, none⟩) (.inr ⟨_, rfl⟩) [.tmp 2, .tmp 3] [_, _] rfl Try.func36 Try.results36 ⟨RV.tmp rfl, RV.tmp rfl, trivial⟩ (fun _ h => List.mem_cons_of_mem _ h) ⟨rfl, rfl, rfl⟩
    · have r8 := ifF h c6; clear h
      refine Cov.skip ?_
      refine Cov.seq ?_
      refine Cov.seq ?_
      refine Cov.region rfl ?_
      refine Cov.q .ro (.assign rfl) rfl ?_
      refine Cov.region_end ?_
      refine Cov.cutB (β := Int) (fun y => []) [(1, _)] (fun y => G :: Fs) (fun y => [(b1, .cells #[.int .i64 y] 24 (0, 0))]) [] (fun y => []) [] (fun y => residue_Of_J1 y = some r) ⟨rfl, trivial⟩ [] rfl [] rfl ?_ ?_
      · intro v36 hI
        have r38 := hI; clear hI
        refine Cov.prune [(1, _)] ⟨rfl, trivial⟩ ?_
        refine Cov.same (bl' := [(b1, .cells #[.int .i64 v36] 24 (0, 0))]) (sl' := []) (Fs' := G :: Fs) rfl rfl rfl ?_
        unfold residue_Of_J1 at r38
        try dsimp only at r38
        refine Cov.seq ?_
        refine Cov.region rfl ?_
        refine Cov.q .ro (.fieldAddr 0 rfl fl24_0 ty3.sz rfl) rfl ?_
        refine Cov.q .ro (.load_own 0 rfl rfl ty3 rfl) rfl ?_
        refine Cov.q .ro (.assign rfl) rfl ?_
        refine Cov.q .ro (.assign rfl) rfl ?_
        refine Cov.region_end ?_
        cases r38
        refine Cov.drop 1 0 [] _ rfl rfl ?_
        refine Cov.retS (c := ⟨36, none⟩) (.inr ⟨_, rfl⟩) [.tmp 2, .tmp 3] [_, _] rfl Try.func36 Try.results36 ⟨RV.tmp rfl, RV.tmp rfl, trivial⟩ (fun _ h => List.mem_cons_of_mem _ h) ⟨rfl, rfl, rfl⟩
      · intro hb39
        refine Cov.block ?_
        refine Cov.loop2 (α := Nat × Int) (fun y => [(4, .int .i64 y.2)]) [(1, _)] (fun y => []) (fun y => []) [_] (fun y => []) [] (fun y => residue_Of_L2 residue_Of_J1 x0_0 y.1 y.2 = some r) (fun y => y.1) (big, 2) r8 ⟨rfl, rfl, trivial⟩ rfl rfl rfl (fun y hI hb55 => ?_)
        obtain ⟨n51, v53⟩ := y
        have r54 := hI; clear hI
        try dsimp only at r54
        refine Cov.prune [(4, .int .i64 v53), (1, _)] ⟨rfl, rfl, trivial⟩ ?_
        refine Cov.same (bl' := [_]) (sl' := []) (Fs' := G :: Fs) rfl rfl rfl ?_
        obtain ⟨m58, rfl⟩ : ∃ m, n51 = m + 1 := by cases n51 with | zero => exact absurd (show (none : Option _) = some _ from r54) (by simp) | succ m => exact ⟨m, rfl⟩
        have r57 : residue_Of_B2 residue_Of_J1 x0_0 (residue_Of_L2 residue_Of_J1 x0_0 m58) v53 = some r := r54; clear r54; unfold residue_Of_B2 at r57; try dsimp only at r57
        refine Cov.seq ?_
        refine Cov.seq ?_
        refine Cov.region rfl ?_
        refine Cov.q .ro (.move rfl) rfl ?_
        refine Cov.q .ro (.move rfl) rfl ?_
        refine Cov.q .ro (.mulw rfl rfl) rfl ?_
        refine Cov.q .ro (.fieldAddr 0 rfl fl24_0 ty3.sz rfl) rfl ?_
        refine Cov.q .ro (.load_own 0 rfl rfl ty3 rfl) rfl ?_
        refine Cov.q .ro (.leq rfl rfl) rfl ?_
        refine Cov.region_end ?_
        refine Cov.cond_dec rfl (fun c59 => ?_) (fun c59 => ?_)
        · have r60 := ifT r57 c59; clear r57
          refine Cov.skip ?_
          refine Cov.seq ?_
          refine Cov.block ?_
          refine Cov.seq ?_
          refine Cov.region rfl ?_
          refine Cov.q .ro (.fieldAddr 0 rfl fl24_0 ty3.sz rfl) rfl ?_
          refine Cov.q .ro (.load_own 0 rfl rfl ty3 rfl) rfl ?_
          refine Cov.q .ro (.move rfl) rfl ?_
          obtain ⟨u61, hu61, r62⟩ := bind_some r60; clear r60
          refine Cov.q .ro (.remt rfl rfl (nz_some hu61)) rfl ?_
          refine Cov.q .ro (.eql rfl rfl) rfl ?_
          refine Cov.region_end ?_
          refine Cov.cond_dec rfl (fun c63 => ?_) (fun c63 => ?_)
          · have r64 := ifT r62 c63; clear r62
            refine Cov.seq ?_
            refine Cov.region rfl ?_
            refine Cov.q .ro (.assign rfl) rfl ?_
            refine Cov.q .ro (.assign rfl) rfl ?_
            refine Cov.region_end ?_
            refine Cov.prune [(2, _), (3, _)] ⟨rfl, rfl, trivial⟩ ?_
            cases r64
            refine Cov.drop 1 0 [] _ rfl rfl ?_
            refine Cov.retS (c := ⟨36, none⟩) (.inr ⟨_, rfl⟩) [.tmp 2, .tmp 3] [_, _] rfl Try.func36 Try.results36 ⟨RV.tmp rfl, RV.tmp rfl, trivial⟩ (fun _ h => List.mem_cons_of_mem _ h) ⟨rfl, rfl, rfl⟩
          · have r65 := ifF r62 c63; clear r62
            refine Cov.skip ?_
            refine Cov.inBlock ?_
            refine Cov.region rfl ?_
            refine Cov.q .ro (.move rfl) rfl ?_
            refine Cov.q .ro (.addw rfl rfl) rfl ?_
            refine Cov.q .ro (.assign rfl) rfl ?_
            refine Cov.region_end ?_
            refine Cov.prune [(4, _), (1, _)] ⟨rfl, rfl, trivial⟩ ?_
            refine Cov.prune _ ?_ (Cov.same rfl rfl rfl (hb55 (m58, (w64 (v53 + 1))) r65 (Nat.lt_succ_self _)))
            exact ⟨rfl, rfl, trivial⟩
        · have r66 := ifF r57 c59; clear r57
          refine Cov.exit rfl ?_
          refine Cov.prune _ ?_ (Cov.same rfl rfl rfl (hb39 (x0_0) r66))
          exact ⟨rfl, trivial⟩
  · intro hb3
    refine Cov.split 8 rfl (fun c2 => ?_) (fun c2 => ?_)
    · refine Cov.g_off rfl rfl rfl ?_
      refine Cov.g_off rfl rfl rfl ?_
      refine Cov.g_off rfl rfl rfl ?_
      refine Cov.q .ro (.pick_t rfl rfl) rfl ?_
      refine Cov.prune _ ?_ (Cov.same rfl rfl rfl (hb3 () trivial))
      exact ⟨dor_t c2, rfl, trivial⟩
    · refine Cov.g_on rfl ?_
      refine Cov.q .ro (.fieldAddr 0 rfl fl24_0 ty3.sz rfl) rfl ?_
      refine Cov.g_on rfl ?_
      refine Cov.q .ro (.load_own 0 rfl rfl ty3 rfl) rfl ?_
      refine Cov.g_on rfl ?_
      refine Cov.q .ro (.gtr rfl rfl) rfl ?_
      refine Cov.q .ro (.pick_f rfl rfl) rfl ?_
      refine Cov.prune _ ?_ (Cov.same rfl rfl rfl (hb3 () trivial))
      exact ⟨dor_f c2, rfl, trivial⟩

set_option maxHeartbeats 4000000 in
set_option maxRecDepth 100000 in
theorem layout_digits_c {Fs : List Hp} {G : Hp} {x0 : Int} {r : Int} (hG : G ∈ Fs)  (h : layout_digits x0 = some r) : RetS Try.prog 37 #[.int .i64 x0] Fs [] [] (fun v bo so => v = .int .i64 r ∧ bo = [] ∧ so = []) := by
  unfold layout_digits at h
  try dsimp only at h
  refine RetS.of (vs := [_]) Try.func37 rfl Try.ntmps37 [(0, _)] ⟨rfl, trivial⟩ rfl hG fun w0 S0 hS0 B0 => ?_
  refine Cov.seq ?_
  refine Cov.region rfl ?_
  refine Cov.q .ro (.assign rfl) rfl ?_
  refine Cov.region_end ?_
  refine Cov.seq ?_
  refine Cov.region rfl ?_
  refine Cov.q .ro (.assign rfl) rfl ?_
  refine Cov.region_end ?_
  refine Cov.seq ?_
  refine Cov.seq ?_
  refine Cov.region rfl ?_
  refine Cov.q .ro (.move rfl) rfl ?_
  refine Cov.q .ro (.assign rfl) rfl ?_
  refine Cov.region_end ?_
  refine Cov.block ?_
  refine Cov.loop2 (α := Nat × Int × Int) (fun y => [(3, .int .i64 y.2.1), (4, .int .i64 y.2.2)]) [(0, _)] (fun y => []) (fun y => []) [] (fun y => []) [] (fun y => layout_digits_L1 x0 y.1 y.2.1 y.2.2 = some r) (fun y => y.1) (big, 1, x0) h ⟨rfl, rfl, rfl, trivial⟩ rfl rfl rfl (fun y hI hb12 => ?_)
  obtain ⟨n7, v9, v10⟩ := y
  have r11 := hI; clear hI
  try dsimp only at r11
  refine Cov.prune [(3, .int .i64 v9), (4, .int .i64 v10), (0, _)] ⟨rfl, rfl, rfl, trivial⟩ ?_
  refine Cov.same (bl' := []) (sl' := []) (Fs' := G :: Fs) rfl rfl rfl ?_
  obtain ⟨m15, rfl⟩ : ∃ m, n7 = m + 1 := by cases n7 with | zero => exact absurd (show (none : Option _) = some _ from r11) (by simp) | succ m => exact ⟨m, rfl⟩
  have r14 : layout_digits_B1 x0 (layout_digits_L1 x0 m15) v9 v10 = some r := r11; clear r11; unfold layout_digits_B1 at r14; try dsimp only at r14
  refine Cov.seq ?_
  refine Cov.seq ?_
  refine Cov.region rfl ?_
  refine Cov.q .ro (.move rfl) rfl ?_
  refine Cov.q .ro (.lss rfl rfl) rfl ?_
  refine Cov.region_end ?_
  refine Cov.cond_dec rfl (fun c16 => ?_) (fun c16 => ?_)
  · have r17 := ifT r14 c16; clear r14
    refine Cov.skip ?_
    refine Cov.seq ?_
    refine Cov.block ?_
    refine Cov.region rfl ?_
    refine Cov.q .ro (.move rfl) rfl ?_
    refine Cov.q .ro (.addw rfl rfl) rfl ?_
    refine Cov.q .ro (.assign rfl) rfl ?_
    refine Cov.region_end ?_
    refine Cov.inBlock ?_
    refine Cov.region rfl ?_
    refine Cov.q .ro (.move rfl) rfl ?_
    refine Cov.q .ro (.move rfl) rfl ?_
    refine Cov.q .ro (.mulw rfl rfl) rfl ?_
    refine Cov.q .ro (.assign rfl) rfl ?_
    refine Cov.region_end ?_
    refine Cov.prune _ ?_ (Cov.same rfl rfl rfl (hb12 (m15, (w64 (v9 + 1)), (w64 (v10 * x0))) r17 (Nat.lt_succ_self _)))
    exact ⟨rfl, rfl, rfl, trivial⟩
  · have r18 := ifF r14 c16; clear r14
    refine Cov.exit rfl ?_
    refine Cov.seq ?_
    refine Cov.region rfl ?_
    refine Cov.q .ro (.move rfl) rfl ?_
    refine Cov.q .ro (.assign rfl) rfl ?_
    refine Cov.region_end ?_
    cases r18
    refine Cov.retS (c := ⟨37, none⟩) (.inr ⟨_, rfl⟩) [.tmp 2] [_] rfl Try.func37 Try.results37 ⟨RV.tmp rfl, trivial⟩ (fun _ h => List.mem_cons_of_mem _ h) ⟨rfl, rfl, rfl⟩

set_option maxHeartbeats 4000000 in
set_option maxRecDepth 100000 in
theorem layout_Digits_c {Fs : List Hp} {G : Hp} {x0_0 : Int} {r : (Int × Int)} (hG : G ∈ Fs)  (h : layout_Digits x0_0 = some r) : RetS Try.prog 16 #[.agg #[.int .i64 x0_0]] Fs [] [] (fun v bo so => v = .tuple #[.int .i64 r.1, .int .i64 r.2] ∧ bo = [] ∧ so = []) := by
  unfold layout_Digits at h
  try dsimp only at h
  refine RetS.of (vs := [_]) Try.func16 rfl Try.ntmps16 [(0, _)] ⟨rfl, trivial⟩ rfl hG fun w0 S0 hS0 B0 => ?_
  refine Cov.seq ?_
  refine Cov.region rfl ?_
  refine Cov.box [_] .ro rfl rfl rfl (fun b1 hb1 => ?_)
  refine Cov.q .ro (.assign rfl) rfl ?_
  refine Cov.q .ro (.assign rfl) rfl ?_
  refine Cov.region_end ?_
  refine Cov.seq ?_
  refine Cov.region rfl ?_
  refine Cov.q .ro (.load_own_a 0 [_] rfl rfl ty24 rfl) rfl ?_
  obtain ⟨u2, hu2, r3⟩ := bind_some h; clear h
  refine Cov.callS (b1 := []) (b2 := [_]) (s1 := []) [_] [] .ro rfl rfl Try.call36 rfl rfl (residue_Of_c (G := G) List.mem_cons_self  hu2) rfl (fun v5 bo so h4 => ?_)
  obtain ⟨rfl, rfl, rfl⟩ := h4
  refine Cov.same (bl' := [_]) (sl' := []) rfl rfl rfl ?_
  refine Cov.q .ro (.move rfl) rfl ?_
  refine Cov.q .ro (.extract rfl rfl) rfl ?_
  refine Cov.q .ro (.extract rfl rfl) rfl ?_
  refine Cov.q .ro (.assign rfl) rfl ?_
  refine Cov.q .ro (.assign rfl) rfl ?_
  refine Cov.region_end ?_
  refine Cov.seq ?_
  refine Cov.seq ?_
  refine Cov.region rfl ?_
  refine Cov.q .ro (.move rfl) rfl ?_
  refine Cov.q .ro (.not rfl) rfl ?_
  refine Cov.region_end ?_
  refine Cov.cond rfl (fun c6 => ?_) (fun c6 => ?_)
  · have r7 := ifT r3 c6; clear r3
    refine Cov.seq ?_
    refine Cov.region rfl ?_
    refine Cov.q .ro (.assign rfl) rfl ?_
    refine Cov.q .ro (.assign rfl) rfl ?_
    refine Cov.region_end ?_
    cases r7
    refine Cov.drop 1 0 [] _ rfl rfl ?_
    refine Cov.retS (c := ⟨16, none⟩) (.inr ⟨_, rfl⟩) [.tmp 2, .tmp 3] [_, _] rfl Try.func16 Try.results16 ⟨RV.tmp rfl, RV.tmp rfl, trivial⟩ (fun _ h => List.mem_cons_of_mem _ h) ⟨rfl, rfl, rfl⟩
  · have r8 := ifBF r3 c6; clear r3
    refine Cov.skip ?_
    refine Cov.seq ?_
    refine Cov.region rfl ?_
    refine Cov.q .ro (.move rfl) rfl ?_
    obtain ⟨u9, hu9, r10⟩ := bind_some r8; clear r8
    refine Cov.callS (b1 := []) (b2 := [_]) (s1 := []) [_] [] .ro rfl rfl Try.call37 rfl rfl (layout_digits_c (G := G) List.mem_cons_self  hu9) rfl (fun v12 bo so h11 => ?_)
    obtain ⟨rfl, rfl, rfl⟩ := h11
    refine Cov.same (bl' := [_]) (sl' := []) rfl rfl rfl ?_
    refine Cov.q .ro (.assign rfl) rfl ?_
    refine Cov.q .ro (.assign rfl) rfl ?_
    refine Cov.region_end ?_
    refine Cov.prune [(2, _), (3, _)] ⟨rfl, rfl, trivial⟩ ?_
    cases r10
    refine Cov.drop 1 0 [] _ rfl rfl ?_
    refine Cov.retS (c := ⟨16, none⟩) (.inr ⟨_, rfl⟩) [.tmp 2, .tmp 3] [_, _] rfl Try.func16 Try.results16 ⟨RV.tmp rfl, RV.tmp rfl, trivial⟩ (fun _ h => List.mem_cons_of_mem _ h) ⟨rfl, rfl, rfl⟩

set_option maxHeartbeats 4000000 in
set_option maxRecDepth 100000 in
theorem layout_wide_c {Fs : List Hp} {G : Hp} {x0 : Int} {r : Bool} (hG : G ∈ Fs)  (h : layout_wide x0 = some r) : RetS Try.prog 40 #[.int .i64 x0] Fs [] [] (fun v bo so => v = .bool r ∧ bo = [] ∧ so = []) := by
  unfold layout_wide at h
  try dsimp only at h
  refine RetS.of (vs := [_]) Try.func40 rfl Try.ntmps40 [(0, _)] ⟨rfl, trivial⟩ rfl hG fun w0 S0 hS0 B0 => ?_
  refine Cov.seq ?_
  refine Cov.region rfl ?_
  refine Cov.q .ro (.assign rfl) rfl ?_
  refine Cov.region_end ?_
  refine Cov.seq ?_
  refine Cov.region rfl ?_
  refine Cov.q .ro (.move rfl) rfl ?_
  refine Cov.q .ro (.geq rfl rfl) rfl ?_
  refine Cov.q .ro (.move rfl) rfl ?_
  refine Cov.cutR 3 (β := Unit) (fun y => [(8, .bool (decide ((1 ≤ x0) ∧ (x0 ≤ 64))))]) [(2, _)] (fun y => G :: Fs) (fun y => []) [] (fun y => []) [] (fun y => True) ⟨rfl, trivial⟩ [] rfl [] rfl ?_ ?_
  · rintro _ _
    refine Cov.prune [(8, .bool (decide ((1 ≤ x0) ∧ (x0 ≤ 64)))), (2, _)] ⟨rfl, rfl, trivial⟩ ?_
    refine Cov.same (bl' := []) (sl' := []) (Fs' := G :: Fs) rfl rfl rfl ?_
    refine Cov.q .ro (.assign rfl) rfl ?_
    refine Cov.region_end ?_
    cases h
    refine Cov.retS (c := ⟨40, none⟩) (.inr ⟨_, rfl⟩) [.tmp 2] [_] rfl Try.func40 Try.results40 ⟨RV.tmp rfl, trivial⟩ (fun _ h => List.mem_cons_of_mem _ h) ⟨rfl, rfl, rfl⟩
  · intro hb2
    refine Cov.split 5 rfl (fun c1 => ?_) (fun c1 => ?_)
    · refine Cov.g_on rfl ?_
      refine Cov.q .ro (.move rfl) rfl ?_
      refine Cov.g_on rfl ?_
      refine Cov.q .ro (.leq rfl rfl) rfl ?_
      refine Cov.q .ro (.pick_t rfl rfl) rfl ?_
      refine Cov.prune _ ?_ (Cov.same rfl rfl rfl (hb2 () trivial))
      exact ⟨dand_t c1, rfl, trivial⟩
    · refine Cov.g_off rfl rfl rfl ?_
      refine Cov.g_off rfl rfl rfl ?_
      refine Cov.q .ro (.pick_f rfl rfl) rfl ?_
      refine Cov.prune _ ?_ (Cov.same rfl rfl rfl (hb2 () trivial))
      exact ⟨dand_f c1, rfl, trivial⟩

set_option maxHeartbeats 4000000 in
set_option maxRecDepth 100000 in
theorem layout_needed_c {Fs : List Hp} {G : Hp} {x0 : Int} {x1 : Int} {x2 : Int} {r : Int} (hG : G ∈ Fs)  (h : layout_needed x0 x1 x2 = some r) : RetS Try.prog 41 #[.int .i64 x0, .int .i64 x1, .int .i64 x2] Fs [] [] (fun v bo so => v = .int .i64 r ∧ bo = [] ∧ so = []) := by
  unfold layout_needed at h
  try dsimp only at h
  refine RetS.of (vs := [_, _, _]) Try.func41 rfl Try.ntmps41 [(0, _), (1, _), (2, _)] ⟨rfl, rfl, rfl, trivial⟩ rfl hG fun w0 S0 hS0 B0 => ?_
  refine Cov.seq ?_
  refine Cov.region rfl ?_
  refine Cov.q .ro (.assign rfl) rfl ?_
  refine Cov.region_end ?_
  refine Cov.seq ?_
  refine Cov.region rfl ?_
  refine Cov.q .ro (.move rfl) rfl ?_
  refine Cov.q .ro (.move rfl) rfl ?_
  obtain ⟨u1, hu1, r2⟩ := bind_some h; clear h
  refine Cov.callS (b1 := []) (b2 := []) (s1 := []) [_] [] .ro rfl rfl Try.call37 rfl rfl (layout_digits_c (G := G) List.mem_cons_self  hu1) rfl (fun v4 bo so h3 => ?_)
  obtain ⟨rfl, rfl, rfl⟩ := h3
  refine Cov.same (bl' := []) (sl' := []) rfl rfl rfl ?_
  refine Cov.q .ro (.mulw rfl rfl) rfl ?_
  refine Cov.q .ro (.move rfl) rfl ?_
  refine Cov.q .ro (.addw rfl rfl) rfl ?_
  refine Cov.q .ro (.subw rfl rfl) rfl ?_
  refine Cov.q .ro (.move rfl) rfl ?_
  obtain ⟨u5, hu5, r6⟩ := bind_some r2; clear r2
  refine Cov.q .ro (.quow rfl rfl (nz_some hu5)) rfl ?_
  refine Cov.q .ro (.max2 rfl rfl) rfl ?_
  refine Cov.q .ro (.assign rfl) rfl ?_
  refine Cov.region_end ?_
  refine Cov.prune [(6, _)] ⟨rfl, trivial⟩ ?_
  cases r6
  refine Cov.retS (c := ⟨41, none⟩) (.inr ⟨_, rfl⟩) [.tmp 6] [_] rfl Try.func41 Try.results41 ⟨RV.tmp rfl, trivial⟩ (fun _ h => List.mem_cons_of_mem _ h) ⟨rfl, rfl, rfl⟩

set_option maxHeartbeats 4000000 in
set_option maxRecDepth 100000 in
theorem slices_Chunk_Lintint_f1_i {Fs : List Hp} {G : Hp} {p1 : Value} {a1 : Option Addr} {k1 : Nat} {x1 : List Int} {p2 : Value} {x2 : Int} {l : (List (List Int))} (hG : G ∈ Fs) (hp1 : Rp G p1 [.slice a1 x1.length k1]) (s1 : SlR (Rep.int .i64) G a1 k1 x1) (hp2 : Rp G p2 [.int .i64 x2]) (h : slices_Chunk_Lintint_f1 x1 x2 = some l) : IterX Try.prog 56 [p1, p2] Fs l.length (fun i v => ∃ x, l[i]? = some x ∧ (Yr.v (Rep.sl (Rep.int .i64))).r G v x) := by
  unfold slices_Chunk_Lintint_f1 at h
  try dsimp only at h
  intro y 𝒢 ℰ R0 hy hR0
  refine RetG.of (vs := [_, _, _]) Try.func56 rfl Try.ntmps56 [(0, _), (1, _), (2, _)] ⟨rfl, rfl, rfl, trivial⟩ rfl fun w0 => Cov.dup hG ?_
  have B0 : Bd w0 (blks [] [.g R0]) Fs G := Bd.fin hG
  generalize hS0 : blks [] [.g R0] = S0 at B0 ⊢
  replace h : _ = some (List.drop 0 l) := h
  refine Cov.seq ?_
  refine Cov.region rfl ?_
  refine Cov.q .ro (.assign rfl) rfl ?_
  refine Cov.region_end ?_
  refine Cov.block ?_
  refine Cov.loop2 (α := Nat × Guest × Nat × Int) (fun y => [(4, .int .i64 y.2.2.2)]) [(0, _), (1, _), (2, _)] (fun y => []) (fun y => []) [] (fun y => [.g y.2.1]) [] (fun y => 𝒢 y.2.2.1 y.2.1 ∧ y.2.2.1 ≤ l.length ∧ slices_Chunk_Lintint_f1_L1 x1 x2 y.1 y.2.2.2 = some (List.drop y.2.2.1 l)) (fun y => y.1) (big, R0, 0, 0) ⟨hR0, (Nat.zero_le _), h⟩ ⟨rfl, rfl, rfl, rfl, trivial⟩ rfl rfl rfl (fun y hI hb32 => ?_)
  obtain ⟨n24, R26, i27, v30⟩ := y
  obtain ⟨hR28, le29, r31⟩ := hI
  try dsimp only at hR28 le29 r31
  refine Cov.prune [(4, .int .i64 v30), (0, _), (1, _), (2, _)] ⟨rfl, rfl, rfl, rfl, trivial⟩ ?_
  refine Cov.same (bl' := []) (sl' := [.g R26]) (Fs' := G :: Fs) rfl rfl rfl ?_
  obtain ⟨m36, rfl⟩ : ∃ m, n24 = m + 1 := by cases n24 with | zero => exact absurd (show (none : Option _) = some _ from r31) (by simp) | succ m => exact ⟨m, rfl⟩
  have r35 : slices_Chunk_Lintint_f1_B1 x1 x2 (slices_Chunk_Lintint_f1_L1 x1 x2 m36) v30 = some (List.drop i27 l) := r31; clear r31; unfold slices_Chunk_Lintint_f1_B1 at r35; try dsimp only at r35
  refine Cov.seq ?_
  refine Cov.seq ?_
  refine Cov.region rfl ?_
  refine Cov.q .ro (.move rfl) rfl ?_
  refine Cov.q .ro (.load_rp hp1 List.mem_cons_self rfl ty22 rfl) rfl ?_
  refine Cov.q .ro (.len_sl rfl rfl sl22) rfl ?_
  refine Cov.q .ro (.lss rfl rfl) rfl ?_
  refine Cov.region_end ?_
  refine Cov.cond_dec rfl (fun c37 => ?_) (fun c37 => ?_)
  · have r38 := ifT r35 c37; clear r35
    refine Cov.skip ?_
    refine Cov.seq ?_
    refine Cov.block ?_
    refine Cov.seq ?_
    refine Cov.drawL (.q 0 (.q 1 (.q 2 (.q 3 (.q 4 (.q 5 (.q 6 .nil))))))) [] (by kernel_rfl) (by kernel_rfl) (pick_mem [] rfl) ?_
    refine Cov.dq (.load_rp hp2 List.mem_cons_self rfl ty3 rfl) rfl ?_
    refine Cov.dq (.load_rp hp1 List.mem_cons_self rfl ty22 rfl) rfl ?_
    refine Cov.dq (.move rfl) rfl ?_
    obtain ⟨u39, hu39, r40⟩ := bind_some r38; clear r38
    obtain ⟨a41, k42, h43, s44⟩ := SlR.sub s1 hu39
    refine Cov.dq (.sliceR s1 rfl hu39 sl22 ty3.sz (fun h => .yes' rfl h) (fun _ => .no) h43) rfl ?_
    refine Cov.dq (.len_sl rfl rfl sl22) rfl ?_
    refine Cov.dq (.min2 rfl rfl) rfl ?_
    refine Cov.dq (.assign rfl) rfl ?_
    refine Cov.draw_end ?_
    refine Cov.seq ?_
    refine Cov.region rfl ?_
    refine Cov.q .ro (.move rfl) rfl ?_
    refine Cov.q .ro (.load_rp hp1 List.mem_cons_self rfl ty22 rfl) rfl ?_
    refine Cov.q .ro (.move rfl) rfl ?_
    refine Cov.q .ro (.move rfl) rfl ?_
    refine Cov.q .ro (.move rfl) rfl ?_
    refine Cov.q .ro (.addw rfl rfl) rfl ?_
    refine Cov.q .ro (.move rfl) rfl ?_
    refine Cov.q .ro (.move rfl) rfl ?_
    refine Cov.q .ro (.addw rfl rfl) rfl ?_
    obtain ⟨u45, hu45, r46⟩ := bind_some r40; clear r40
    obtain ⟨a47, k48, h49, s50⟩ := SlR.sub3 s1 hu45
    refine Cov.q .ro (.sliceR3 s1 rfl hu45 sl22 ty3.sz rfl rfl rfl h49) rfl ?_
    obtain ⟨h51, r52⟩ := yc_some r46; clear r46
    refine Cov.yieldX hy ⟨_, h51, ⟨_, rfl, ((Rep.slI s50) :)⟩⟩ hR28 (fun _ h => List.mem_cons_of_mem _ h) rfl rfl rfl (fun R53 hR54 => ?_) (fun R55 hE56 => ?_)
    · refine Cov.q .ro (.not_t rfl) rfl ?_
      refine Cov.region_end ?_
      refine Cov.prune [(4, _), (0, _), (1, _), (2, _), (30, _)] ⟨rfl, rfl, rfl, rfl, rfl, trivial⟩ ?_
      refine Cov.cond_false rfl ?_
      refine Cov.skip ?_
      refine Cov.inBlock ?_
      refine Cov.region rfl ?_
      refine Cov.q .ro (.move rfl) rfl ?_
      refine Cov.q .ro (.load_rp hp2 List.mem_cons_self rfl ty3 rfl) rfl ?_
      refine Cov.q .ro (.addw rfl rfl) rfl ?_
      refine Cov.q .ro (.assign rfl) rfl ?_
      refine Cov.region_end ?_
      refine Cov.prune _ ?_ (Cov.same rfl rfl rfl (hb32 (m36, R53, (i27 + 1), (w64 (v30 + x2))) ⟨hR54, (yc_le h51), r52⟩ (Nat.lt_succ_self _)))
      exact ⟨rfl, rfl, rfl, rfl, trivial⟩
    · refine Cov.q .ro (.not_f rfl) rfl ?_
      refine Cov.region_end ?_
      refine Cov.prune [(4, _), (0, _), (1, _), (2, _), (30, _)] ⟨rfl, rfl, rfl, rfl, rfl, trivial⟩ ?_
      refine Cov.cond_true rfl ?_
      refine Cov.leave (c := ⟨56, none⟩) (.inr ⟨_, rfl⟩) [] [] rfl Try.func56 Try.results56 trivial (fun _ h => List.mem_cons_of_mem _ h) (.inl rfl) (fresh_emp _) ⟨rfl, R55, .inr hE56, rfl⟩
  · have r57 := ifF r35 c37; clear r35
    refine Cov.exit rfl ?_
    have hi := yc_end r57 le29
    refine Cov.leave (c := ⟨56, none⟩) (.inl rfl) [] [] rfl Try.func56 Try.results56 trivial (fun _ h => List.mem_cons_of_mem _ h) (.inl rfl) (fresh_emp _) ⟨rfl, R26, .inl (hi ▸ hR28), rfl⟩

set_option maxHeartbeats 4000000 in
set_option maxRecDepth 100000 in
theorem slices_Chunk_Lintint_c {Fs : List Hp} {G : Hp} {a0 : Option Addr} {k0 : Nat} {x0 : List Int} {x1 : Int} {r : (List (List Int))} (hG : G ∈ Fs) (s0 : SlR (Rep.int .i64) G a0 k0 x0) (h : slices_Chunk_Lintint x0 x1 = some r) : RetW Try.prog 45 #[.slice a0 x0.length k0, .int .i64 x1] Fs [] [] (fun v bo so G => ∃ (Fi0 : FuncId) (ci0 : List Value), v = .func (.func Fi0) #[] ci0.toArray ∧ bo = [] ∧ so = [] ∧ (∀ args w, (callFunc Fi0 args).run Try.prog w = .ok (.enter Fi0 args) w) ∧ IterRX Try.prog (Yr.v (Rep.sl (Rep.int .i64))) Fi0 ci0 G r) := by
  unfold slices_Chunk_Lintint at h
  try dsimp only at h
  refine RetW.of (vs := [_, _]) Try.func45 rfl Try.ntmps45 [(0, _), (1, _)] ⟨rfl, rfl, trivial⟩ rfl hG fun w0 S0 hS0 B0 => ?_
  refine Cov.seq ?_
  refine Cov.region rfl ?_
  refine Cov.box [_] .ro rfl rfl rfl (fun b1 hb1 => ?_)
  refine Cov.box [_] .ro rfl rfl rfl (fun b2 hb2 => ?_)
  refine Cov.q .ro (.assign rfl) rfl ?_
  refine Cov.region_end ?_
  refine Cov.seq ?_
  refine Cov.seq ?_
  refine Cov.region rfl ?_
  refine Cov.q .ro (.load_own 0 rfl rfl ty3 rfl) rfl ?_
  refine Cov.q .ro (.lss rfl rfl) rfl ?_
  refine Cov.region_end ?_
  refine Cov.cutI (β := Unit) (fun y => []) [(2, _), (3, _)] (fun y => G :: Fs) (fun y => []) [_, _] (fun y => []) [] (fun y => (slices_Chunk_Lintint_J1 x1 x0)  = some r) ⟨rfl, rfl, trivial⟩ [0, 1] rfl [] rfl ?_ ?_
  · intro _ hI
    have r8 := hI; clear hI
    refine Cov.prune [(2, _), (3, _)] ⟨rfl, rfl, trivial⟩ ?_
    refine Cov.same (bl' := [_, _]) (sl' := []) (Fs' := G :: Fs) rfl rfl rfl ?_
    unfold slices_Chunk_Lintint_J1 at r8
    try dsimp only at r8
    refine Cov.seq ?_
    refine Cov.region rfl ?_
    refine Cov.q .ro (.makeFunc (vf := []) (vc := [_, _]) rfl rfl) rfl ?_
    refine Cov.q .ro (.assign rfl) rfl ?_
    refine Cov.region_end ?_
    refine Cov.freezeBR 1 rfl [_] rfl B0 (fun G11 e12 B13 p14 => ?_)
    refine Cov.freezeBR 0 rfl [] rfl B13 (fun G16 e17 B18 p19 => ?_)
    obtain ⟨u21, hu21, r22⟩ := bind_some r8; clear r8
    cases r22
    refine Cov.retW (c := ⟨45, none⟩) (.inr ⟨_, rfl⟩) [.tmp 4] [_] rfl Try.func45 Try.results45 ⟨RV.tmp rfl, trivial⟩ (fun _ h => List.mem_cons_of_mem _ h) List.mem_cons_self B18 (by subst hS0; simp [blks]) (fun G' hg => ⟨_, _, rfl, rfl, rfl, Try.call56, (fun Fs' G1 hle hm => slices_Chunk_Lintint_f1_i (G := G1) hm (Rp.mono (HpLe.trans hg hle) (Rp.mono e17 p14)) (SlR.mono (HpLe.trans hg hle) (SlR.mono (HpLe.trans e12 e17) s0)) (Rp.mono (HpLe.trans hg hle) p19) hu21)⟩)
  · intro hb23
    refine Cov.cond_dec rfl (fun c24 => ?_) (fun c24 => ?_)
    · have r25 := ifT h c24; clear h
      refine Cov.region rfl ?_
      exact absurd r25 (by simp)
    · have r26 := ifF h c24; clear h
      refine Cov.skip ?_
      refine Cov.prune _ ?_ (Cov.same rfl rfl rfl (hb23 () r26))
      exact ⟨rfl, rfl, trivial⟩

set_option maxHeartbeats 4000000 in
set_option maxRecDepth 100000 in
theorem slices_Clone_Lintint_c {Fs : List Hp} {G : Hp} {a0 : Option Addr} {k0 : Nat} {x0 : List Int} {r : (List Int)} (hG : G ∈ Fs) (s0 : SlR (Rep.int .i64) G a0 k0 x0) (h : slices_Clone_Lintint x0 = some r) : RetS Try.prog 53 #[.slice a0 x0.length k0] Fs [] [] (fun v bo so => ∃ (oa0 : Option Addr) (ok0 : Nat) (oc0 : List Value), v = .slice oa0 r.length ok0 ∧ bo = [] ∧ so = [.s (.slice oa0 r.length ok0) 3 1 r.length oc0] ∧ OL (Rep.int .i64) G oc0 r) := by
  unfold slices_Clone_Lintint at h
  try dsimp only at h
  refine RetS.of (vs := [_]) Try.func53 rfl Try.ntmps53 [(0, _)] ⟨rfl, trivial⟩ rfl hG fun w0 S0 hS0 B0 => ?_
  refine Cov.seq ?_
  refine Cov.region rfl ?_
  refine Cov.q .ro (.assign rfl) rfl ?_
  refine Cov.region_end ?_
  refine Cov.seq ?_
  refine Cov.seq ?_
  refine Cov.region rfl ?_
  refine Cov.q .ro (.move rfl) rfl ?_
  refine Cov.q .ro (.eqnil Try.underlying22 rfl rfl) rfl ?_
  refine Cov.region_end ?_
  refine Cov.cond rfl (fun c1 => ?_) (fun _ => ?_)
  · have h2 := SlR.isnil s0 c1
    refine Cov.seq ?_
    refine Cov.region rfl ?_
    refine Cov.q .ro (.assign rfl) rfl ?_
    refine Cov.region_end ?_
    refine Cov.own_nil 3 1 ?_
    obtain rfl := nil_clone h2 h
    refine Cov.retS (c := ⟨53, none⟩) (.inr ⟨_, rfl⟩) [.tmp 2] [_] rfl Try.func53 Try.results53 ⟨RV.tmp rfl, trivial⟩ (fun _ h => List.mem_cons_of_mem _ h) ⟨none, 0, [], rfl, rfl, rfl, (OL.nil (Rp' := (Rep.int .i64)))⟩
  · refine Cov.skip ?_
    refine Cov.seq ?_
    refine Cov.region rfl ?_
    refine Cov.lit [] [] .ro sl22 ty3 rfl rfl rfl rfl rfl rfl (fun b4 hb4 => ?_)
    have o5 : OL (Rep.int .i64) G [] ([] : List Int) := ((OL.nil (Rp' := (Rep.int .i64))) :)
    refine Cov.reval 5 (n' := ([] : List Int).length) rfl rfl ?_
    refine Cov.q .ro (.move rfl) rfl ?_
    obtain ⟨u11, hu11, r12⟩ := bind_some h; clear h
    refine Cov.appR (Q := (Rep.int .i64)) 0 .ro sl22 ty3 rfl rfl rfl rfl rfl o5 rfl rfl s0 rfl List.mem_cons_self hu11 rfl (fun a7 k8 cs9 o10 => ?_)
    refine Cov.q .ro (.assign rfl) rfl ?_
    refine Cov.region_end ?_
    cases r12
    refine Cov.retS (c := ⟨53, none⟩) (.inr ⟨_, rfl⟩) [.tmp 2] [_] rfl Try.func53 Try.results53 ⟨RV.tmp rfl, trivial⟩ (fun _ h => List.mem_cons_of_mem _ h) ⟨a7, k8, cs9, rfl, rfl, rfl, o10⟩

set_option maxHeartbeats 4000000 in
set_option maxRecDepth 100000 in
theorem layout_rowsOf_c {Fs : List Hp} {G : Hp} {x0 : Int} {x1 : Int} {x2 : ByteArray} {r : (List (List Int))} (hG : G ∈ Fs)  (h : layout_rowsOf x0 x1 x2 = some r) : RetW Try.prog 42 #[.int .i64 x0, .int .i64 x1, .string x2] Fs [] [] (fun v bo so G => ∃ (oa0 : Option Addr) (ok0 : Nat) (oc0 : List Value), v = .slice oa0 r.length ok0 ∧ bo = [] ∧ so = [.s (.slice oa0 r.length ok0) 22 1 r.length oc0] ∧ OL (Rep.sl (Rep.int .i64)) G oc0 r) := by
  unfold layout_rowsOf at h
  try dsimp only at h
  refine RetW.of (vs := [_, _, _]) Try.func42 rfl Try.ntmps42 [(0, _), (1, _), (2, _)] ⟨rfl, rfl, rfl, trivial⟩ rfl hG fun w0 S0 hS0 B0 => ?_
  refine Cov.marks0 ?_
  refine Cov.seq ?_
  refine Cov.region rfl ?_
  refine Cov.q .ro (.assign rfl) rfl ?_
  refine Cov.region_end ?_
  refine Cov.seq ?_
  refine Cov.region rfl ?_
  refine Cov.q .ro (.move rfl) rfl ?_
  refine Cov.q .ro (.move rfl) rfl ?_
  refine Cov.q .ro (.move rfl) rfl ?_
  refine Cov.q .ro (.len_s rfl Try.underlying9) rfl ?_
  obtain ⟨u1, hu1, r2⟩ := bind_some h; clear h
  refine Cov.callS (b1 := []) (b2 := []) (s1 := []) [_, _, _] [] .ro rfl rfl Try.call41 rfl rfl (layout_needed_c (G := G) List.mem_cons_self  hu1) rfl (fun v4 bo so h3 => ?_)
  obtain ⟨rfl, rfl, rfl⟩ := h3
  refine Cov.same (bl' := []) (sl' := [_]) rfl rfl rfl ?_
  refine Cov.q .ro (.move rfl) rfl ?_
  refine Cov.q .ro (.mulw rfl rfl) rfl ?_
  obtain ⟨u5, hu5, r6⟩ := bind_some r2; clear r2
  refine Cov.makeZ (G := G) (Q := (Rep.int .i64)) .ro sl22 ty3 rfl rfl rfl ((Rep.intI .i64 0) :) rfl rfl hu5 rfl rfl (fun b7 cs8 hb7 o9 => ?_)
  refine Cov.q .ro (.assign rfl) rfl ?_
  refine Cov.region_end ?_
  refine Cov.seq ?_
  refine Cov.seq ?_
  refine Cov.region rfl ?_
  refine Cov.q .ro (.move rfl) rfl ?_
  obtain ⟨u11, hu11, r12⟩ := bind_some r6; clear r6
  refine Cov.s2bR .ro rfl Try.underlying9 Try.underlying61 Try.underlying5 hu11 rfl B0 (fun a13 k14 G15 e16 B17 s18 => ?_)
  refine Cov.q .ro (.len_sl rfl rfl sl61) rfl ?_
  refine Cov.q .ro (.move rfl) rfl ?_
  refine Cov.region_end ?_
  refine Cov.cutBD (β := Hp × List Int × List Value) (fun y => mks mk0.1) (fun y => [(7, .slice (some ⟨b7, 0, none⟩) y.2.1.length ((w64 (u1 * x1))).toNat)]) [(1, _)] (fun y => y.1 :: Fs) (fun y => []) [] (fun y => [.s (.slice (some ⟨b7, 0, none⟩) ((w64 (u1 * x1))).toNat ((w64 (u1 * x1))).toNat) 3 1 ((w64 (u1 * x1))).toNat y.2.2]) [_] (fun y => HpLe G15 y.1 ∧ Bd w0 S0 Fs y.1 ∧ OL (Rep.int .i64) y.1 y.2.2 (padz ((w64 (u1 * x1))).toNat 0 y.2.1) ∧ (layout_rowsOf_J3 x1 (w64 (u1 * x1))) y.2.1 = some r) ⟨rfl, trivial⟩ [] rfl [1] rfl ?_ ?_
  · intro y hI
    obtain ⟨G208, v212, cs213⟩ := y
    obtain ⟨e209, B210, o214, r217⟩ := hI
    try dsimp only at e209 B210 o214 r217
    refine Cov.prune [(7, .slice (some ⟨b7, 0, none⟩) v212.length ((w64 (u1 * x1))).toNat), (1, _)] ⟨rfl, rfl, trivial⟩ ?_
    refine Cov.same (bl' := []) (sl' := [.s (.slice (some ⟨b7, 0, none⟩) ((w64 (u1 * x1))).toNat ((w64 (u1 * x1))).toNat) 3 1 ((w64 (u1 * x1))).toNat cs213, _]) (Fs' := G208 :: Fs) rfl rfl rfl ?_
    unfold layout_rowsOf_J3 at r217
    try dsimp only at r217
    refine Cov.seq ?_
    refine Cov.region rfl ?_
    refine Cov.q .ro (.move rfl) rfl ?_
    refine Cov.q .ro (.move rfl) rfl ?_
    refine Cov.q .ro (.cap rfl sl22) rfl ?_
    obtain ⟨u220, hu220, r221⟩ := bind_some r217; clear r217
    refine Cov.q .ro (.cast (by rw [add_zero_opt]) (.full rfl rfl (.inr rfl) sl22 ty3.sz)) rfl ?_
    refine Cov.unpad 0 48 (F := u220) (lfull_len hu220) rfl rfl ?_
    have o222 := lfull_ol hu220 o214
    refine Cov.q .ro (.assign rfl) rfl ?_
    refine Cov.region_end ?_
    refine Cov.seq ?_
    refine Cov.region rfl ?_
    refine Cov.alloc .ro ty26 rfl (fun b224 hb224 => ?_)
    refine Cov.region_end ?_
    refine Cov.seq ?_
    refine Cov.seq ?_
    refine Cov.region rfl ?_
    refine Cov.q .ro (.move rfl) rfl ?_
    refine Cov.q .ro (.move rfl) rfl ?_
    refine Cov.freezeR 0 rfl rfl o222 [_] rfl B210 (fun G225 e226 B227 s228 => ?_)
    obtain ⟨u230, hu230, r231⟩ := bind_some r221; clear r221
    refine Cov.callW (b1 := []) (b2 := [_]) (s1 := []) [_, _] [] .ro rfl rfl Try.call45 rfl rfl (slices_Chunk_Lintint_c (G := G225) List.mem_cons_self s228 hu230) rfl B227 (fun v233 bo so G234 e235 B236 h232 => ?_)
    obtain ⟨F238, c239, rfl, rfl, rfl, hc240, hi241⟩ := h232
    refine Cov.same (bl' := [_]) (sl' := [_]) rfl rfl rfl ?_
    refine Cov.region_end ?_
    refine Cov.cutBD (β := Hp × MK × List (List Int) × Option Addr × Nat × List Value) (fun y => mks y.2.1.1) (fun y => []) [(11, _)] (fun y => y.1 :: Fs) (fun y => [(b224, .cells #[.slice y.2.2.2.1 y.2.2.1.length y.2.2.2.2.1] 26 (0, 0))]) [] (fun y => [.g (marksG y.2.1), .s (.slice y.2.2.2.1 y.2.2.1.length y.2.2.2.2.1) 22 1 y.2.2.1.length y.2.2.2.2.2]) [] (fun y => HpLe G234 y.1 ∧ Bd w0 S0 Fs y.1 ∧ OL (Rep.sl (Rep.int .i64)) y.1 y.2.2.2.2.2 y.2.2.1 ∧ layout_rowsOf_J1 y.2.2.1 = some r) ⟨rfl, trivial⟩ [] rfl [] rfl ?_ ?_
    · intro y hI
      obtain ⟨G370, mk374, v375, a376, k377, cs378⟩ := y
      obtain ⟨e371, B372, o379, r382⟩ := hI
      try dsimp only at e371 B372 o379 r382
      refine Cov.prune [(11, _)] ⟨rfl, trivial⟩ ?_
      refine Cov.same (bl' := [(b224, .cells #[.slice a376 v375.length k377] 26 (0, 0))]) (sl' := [.g (marksG mk374), .s (.slice a376 v375.length k377) 22 1 v375.length cs378]) (Fs' := G370 :: Fs) rfl rfl rfl ?_
      unfold layout_rowsOf_J1 at r382
      try dsimp only at r382
      refine Cov.seq ?_
      refine Cov.region rfl ?_
      refine Cov.q .ro (.load_own 0 rfl rfl ty26 rfl) rfl ?_
      refine Cov.q .ro (.assign rfl) rfl ?_
      refine Cov.region_end ?_
      cases r382
      refine Cov.drop 1 0 [] _ rfl rfl ?_
      refine Cov.out (.inr ⟨_, rfl⟩) rfl (Cov.unmarkAll _ _ ?_)
      refine Cov.outW (c := ⟨42, none⟩) [.tmp 6] [_] Try.func42 Try.results42 ⟨RV.tmp rfl, trivial⟩ (fun _ h => List.mem_cons_of_mem _ h) List.mem_cons_self B372 (by subst hS0; simp [blks]) (fun G' hg => ⟨a376, k377, cs378, rfl, rfl, rfl, (OL.mono hg o379)⟩)
    · intro hb383
      refine Cov.block ?_
      refine Cov.own_nil 22 1 ?_
      refine Cov.emp ?_
      refine Cov.rangeX (α := List (List Int) × Option Addr × Nat × List Value × Hp) (β := Unit) (fun y => [y.2.2.2.2]) (fun y => [(b224, .cells #[.slice y.2.1 y.1.length y.2.2.1] 26 (0, 0))]) (fun y => [.s (.slice y.2.1 y.1.length y.2.2.1) 22 1 y.1.length y.2.2.2.1]) (fun _ => []) (fun _ => []) (fun _ => []) (fun _ => .skip) (fun i y => (∀ G', HpLe G234 G' → HpLe y.2.2.2.2 G' → OL (Rep.sl (Rep.int .i64)) G' y.2.2.2.1 y.1) ∧ layout_rowsOf_L2 layout_rowsOf_J1 (List.drop i u230) y.1 = some r) (fun _ => False) (([] : List (List Int)), none, 0, [], empHp)  c239 rfl rfl hc240 rfl (fun G hG b => by rw [List.mem_singleton.1 hG]; rfl) rfl rfl (hi241 _ G234 (HpLe.refl _) List.mem_cons_self) (fun _ _ hv => by obtain ⟨_, _, hv⟩ := hv; exact (Yr.len _ hv).trans rfl) (by kernel_rfl) ⟨(fun G' h1 _ => OL.mono h1 (OL.nil (Rp' := (Rep.sl (Rep.int .i64))))), r231⟩ ?_ ?_ (fun _ _ h => h.elim)
      · intro l453 tm454 D455 i456 y v457 hV458 hI w460 S461 hw462
        obtain ⟨v444, a445, k446, cs447, G452⟩ := y
        obtain ⟨o448, r451⟩ := hI
        try dsimp only at o448 r451
        obtain ⟨x463, h464, h465⟩ := hV458
        refine Cov.union (Fin := (G452 :: G234 :: Fs)) bd_fin (fun G466 e467 B468 => ?_)
        have e469 : HpLe G234 G466 := ext_le e467 (List.mem_cons_of_mem _ List.mem_cons_self)
        have e470 : HpLe G452 G466 := ext_le e467 List.mem_cons_self
        replace o448 := o448 G466 e469 e470
        obtain ⟨v475, rfl, h476⟩ := h465
        obtain ⟨a472, k473, h477, s474⟩ := h476
        obtain ⟨rfl, _⟩ := List.cons.inj h477
        rw [drop_cons h464] at r451
        have r478 : layout_rowsOf_B2 layout_rowsOf_J1 (layout_rowsOf_L2 layout_rowsOf_J1 (List.drop (i456 + 1) u230)) x463 v444 = some r := r451; clear r451; unfold layout_rowsOf_B2 at r478; try dsimp only at r478
        refine Cov.prune [(52, .slice a472 x463.length k473), (11, _)] ⟨rfl, rfl, trivial⟩ ?_
        refine Cov.same (bl' := [(b224, .cells #[.slice a445 v444.length k446] 26 (0, 0)), _]) (sl' := [.s (.slice a445 v444.length k446) 22 1 v444.length cs447]) (Fs' := G466 :: (G452 :: G234 :: Fs)) rfl rfl rfl ?_
        refine Cov.region rfl ?_
        refine Cov.q .ro (.assign rfl) rfl ?_
        refine Cov.region_end ?_
        refine Cov.beginRound 1 rfl rfl [_, _] rfl ?_
        refine Cov.block ?_
        refine Cov.drawL (.q 0 (.q 1 (.e 2 1 (.e 3 1 (.e 4 2 (.e 5 2 .nil)))))) [_, _] (by kernel_rfl) (by kernel_rfl) (pick_mem [0, 1] rfl) ?_
        refine Cov.dq (.load_own 0 rfl rfl ty26 rfl) rfl ?_
        refine Cov.dq (.move rfl) rfl ?_
        obtain ⟨u479, hu479, r480⟩ := bind_some r478; clear r478
        refine Cov.callS (b1 := []) (b2 := [_, _]) (s1 := []) [_] [] .d1 rfl rfl Try.call53 rfl rfl (slices_Clone_Lintint_c (G := G466) List.mem_cons_self (SlR.mono e469 s474) hu479) rfl (fun v482 bo so h481 => ?_)
        obtain ⟨a484, k485, cs486, rfl, rfl, rfl, o487⟩ := h481
        refine Cov.same (bl' := [_, _]) (sl' := [_, _]) rfl rfl rfl ?_
        refine Cov.clsL (HpLe.refl _) (pick_mem [0, 1] rfl) ?_
        refine Cov.freezeR 0 rfl rfl o487 [_] rfl B468 (fun G488 e489 B490 s491 => ?_)
        refine Cov.lit [_] [(0, _)] .d1 sl26 ty22 rfl rfl rfl rfl rfl rfl (fun b493 hb493 => ?_)
        have o494 : OL (Rep.sl (Rep.int .i64)) G488 [.slice a484 u479.length k485] ([u479] : List (List Int)) := ((OL.cons rfl (Rep.slI s491) (OL.nil (Rp' := (Rep.sl (Rep.int .i64))))) :)
        refine Cov.reval 56 (n' := ([u479] : List (List Int)).length) rfl rfl ?_
        refine Cov.clsL e489 (pick_mem [0, 1] rfl) ?_
        obtain ⟨u500, hu500, r501⟩ := bind_some r480; clear r480
        refine Cov.appO (Q := (Rep.sl (Rep.int .i64))) 0 .d2 sl26 ty22 rfl rfl rfl rfl rfl rfl (OL.mono e489 o448) o494 rfl rfl rfl B490 hu500 rfl (fun a496 k497 cs498 o499 => ?_)
        refine Cov.store 0 [_] [_, _] .d2 rfl rfl rfl ty26 rfl rfl rfl rfl ?_
        refine Cov.draw_end ?_
        refine Cov.inBlock ?_
        refine Cov.round_endX (u500, a496, k497, cs498, G488) 1 rfl rfl ⟨(fun G' _ h2 => OL.mono h2 o499), r501⟩ rfl rfl (fun F hF => by rcases List.mem_cons.1 hF with rfl | hF; exact List.mem_cons_self; exact List.mem_cons_of_mem _ (List.mem_cons_of_mem _ hF)) (fun F hF => by rw [List.mem_singleton.1 hF]; exact B490)
      · intro q503 y hI hb504
        obtain ⟨v444, a445, k446, cs447, G452⟩ := y
        obtain ⟨o448, r451⟩ := hI
        try dsimp only at o448 r451
        refine Cov.union (Fin := Fs) (bd_cons (Bd.trans (hb504 _ List.mem_cons_self) B236) (bd_cons B236 bd_fin)) (fun G505 e506 B507 => ?_)
        have e508 : HpLe G234 G505 := ext_le e506 (List.mem_cons_of_mem _ List.mem_cons_self)
        have e509 : HpLe G452 G505 := ext_le e506 List.mem_cons_self
        replace o448 := o448 G505 e508 e509
        refine Cov.less (G505 :: Fs) (fun F hF => by rcases List.mem_cons.1 hF with rfl | hF; exact List.mem_cons_self; exact List.mem_cons_of_mem _ (List.mem_cons_of_mem _ (List.mem_cons_of_mem _ hF))) ?_
        refine Cov.prune [(11, _)] ⟨rfl, trivial⟩ ?_
        refine Cov.same (bl' := [(b224, .cells #[.slice a445 v444.length k446] 26 (0, 0)), _]) (sl' := [.s (.slice a445 v444.length k446) 22 1 v444.length cs447, _]) (Fs' := G505 :: Fs) rfl rfl rfl ?_
        refine Cov.pullS 1 rfl [_, _] rfl ?_
        refine Cov.mkmerge 1 rfl [_] rfl (fun mk511 => ?_)
        rw [List.drop_length] at r451; rw [layout_rowsOf_L2] at r451; try dsimp only at r451
        refine Cov.inBlock ?_
        refine Cov.prune _ ?_ (Cov.same rfl rfl rfl (hb383 (G505, mk511, v444, a445, k446, cs447) ⟨e508, B507, o448, r451⟩))
        exact ⟨rfl, trivial⟩
  · intro hb512
    refine Cov.block ?_
    refine Cov.loopD (β := Nat × List Int × Hp × List Int × List Value) (fun y => mks mk0.1) (fun y => [(7, .slice (some ⟨b7, 0, none⟩) y.2.2.2.1.length ((w64 (u1 * x1))).toNat), (24, .int .i64 (y.1 : Int))]) [(0, _), (1, _), (22, _), (23, _)] (fun y => [y.2.2.1]) (fun y => []) [] (fun y => [.s (.slice (some ⟨b7, 0, none⟩) ((w64 (u1 * x1))).toNat ((w64 (u1 * x1))).toNat) 3 1 ((w64 (u1 * x1))).toNat y.2.2.2.2]) [_] (fun y => HpLe G15 y.2.2.1 ∧ Bd w0 S0 Fs y.2.2.1 ∧ OL (Rep.int .i64) y.2.2.1 y.2.2.2.2 (padz ((w64 (u1 * x1))).toNat 0 y.2.2.2.1) ∧ List.drop y.1 u11 = y.2.1 ∧ layout_rowsOf_L5 (layout_rowsOf_J3 x1 (w64 (u1 * x1))) x0 (w64 (u1 * x1)) y.2.1 y.2.2.2.1 = some r) (fun y => y.2.1.length) (0, u11, G15, ([] : List Int), cs8) ⟨(HpLe.refl _), B17, (OL.mono e16 o9), rfl, r12⟩ rfl ⟨rfl, rfl, rfl, rfl, rfl, rfl, trivial⟩ rfl rfl rfl (fun y hI hb613 => ?_)
    obtain ⟨i601, w602, G604, v608, cs609⟩ := y
    obtain ⟨e605, B606, o610, g603, r612⟩ := hI
    try dsimp only at e605 B606 o610 g603 r612
    refine Cov.prune [(7, .slice (some ⟨b7, 0, none⟩) v608.length ((w64 (u1 * x1))).toNat), (24, .int .i64 (i601 : Int)), (0, _), (1, _), (22, _), (23, _)] ⟨rfl, rfl, rfl, rfl, rfl, rfl, trivial⟩ ?_
    refine Cov.same (bl' := []) (sl' := [.s (.slice (some ⟨b7, 0, none⟩) ((w64 (u1 * x1))).toNat ((w64 (u1 * x1))).toNat) 3 1 ((w64 (u1 * x1))).toNat cs609, _]) (Fs' := G604 :: Fs) rfl rfl rfl ?_
    cases w602 with
    | nil =>
      rw [layout_rowsOf_L5] at r612; try dsimp only at r612
      refine Cov.seq ?_
      refine Cov.region rfl ?_
      refine Cov.q .ro (.lss rfl rfl) rfl ?_
      refine Cov.region_end ?_
      refine Cov.seq ?_
      refine Cov.cond_dec rfl (fun c => absurd c (drop_nil g603)) (fun _ => ?_)
      refine Cov.exit rfl ?_
      refine Cov.prune _ ?_ (Cov.same rfl rfl rfl (hb512 (G604, v608, cs609) ⟨e605, B606, o610, r612⟩))
      exact ⟨rfl, rfl, trivial⟩
    | cons x620 xs621 =>
      have r619 : layout_rowsOf_B5 (layout_rowsOf_J3 x1 (w64 (u1 * x1))) x0 (w64 (u1 * x1)) (layout_rowsOf_L5 (layout_rowsOf_J3 x1 (w64 (u1 * x1))) x0 (w64 (u1 * x1)) xs621) x620 v608 = some r := r612; clear r612; unfold layout_rowsOf_B5 at r619; try dsimp only at r619
      refine Cov.seq ?_
      refine Cov.region rfl ?_
      refine Cov.q .ro (.lss rfl rfl) rfl ?_
      refine Cov.region_end ?_
      refine Cov.seq ?_
      refine Cov.cond_dec rfl (fun _ => ?_) (fun c => absurd (drop_lt g603) c)
      refine Cov.skip ?_
      refine Cov.seq ?_
      refine Cov.block ?_
      refine Cov.seq ?_
      refine Cov.region rfl ?_
      obtain ⟨c622, p623, h624⟩ := SlR.get (SlR.mono e605 s18) (drop_idx g603)
      obtain rfl := h624
      refine Cov.q .ro (.idxR (SlR.mono e605 s18) rfl rfl (drop_idx g603) sl61 ty5.sz) rfl ?_
      refine Cov.q .ro (.load_rp p623 List.mem_cons_self rfl ty5 rfl) rfl ?_
      refine Cov.q .ro (.assign rfl) rfl ?_
      refine Cov.region_end ?_
      refine Cov.seq ?_
      refine Cov.region rfl ?_
      refine Cov.q .ro (.move rfl) rfl ?_
      refine Cov.q .ro (.convw Try.underlying5 Try.underlying3 rfl) rfl ?_
      refine Cov.q .ro (.assign rfl) rfl ?_
      refine Cov.region_end ?_
      refine Cov.seq ?_
      refine Cov.region rfl ?_
      refine Cov.q .ro (.move rfl) rfl ?_
      obtain ⟨u625, hu625, r626⟩ := bind_some r619; clear r619
      refine Cov.callS (b1 := []) (b2 := []) (s1 := []) [_] [] .ro rfl rfl Try.call37 rfl rfl (layout_digits_c (G := G604) List.mem_cons_self  hu625) rfl (fun v628 bo so h627 => ?_)
      obtain ⟨rfl, rfl, rfl⟩ := h627
      refine Cov.same (bl' := []) (sl' := [_, _]) rfl rfl rfl ?_
      refine Cov.q .ro (.move rfl) rfl ?_
      refine Cov.region_end ?_
      refine Cov.block ?_
      refine Cov.loopD (β := Nat × Hp × List Int × List Value × Int × Int) (fun y => mks mk0.1) (fun y => [(7, .slice (some ⟨b7, 0, none⟩) y.2.2.1.length ((w64 (u1 * x1))).toNat), (10, .int .i64 y.2.2.2.2.1), (32, .int .i64 y.2.2.2.2.2)]) [(24, _), (0, _), (1, _), (22, _), (23, _), (31, _)] (fun y => [y.2.1]) (fun y => []) [] (fun y => [.s (.slice (some ⟨b7, 0, none⟩) ((w64 (u1 * x1))).toNat ((w64 (u1 * x1))).toNat) 3 1 ((w64 (u1 * x1))).toNat y.2.2.2.1]) [_] (fun y => HpLe G604 y.2.1 ∧ Bd w0 S0 Fs y.2.1 ∧ OL (Rep.int .i64) y.2.1 y.2.2.2.1 (padz ((w64 (u1 * x1))).toNat 0 y.2.2.1) ∧ layout_rowsOf_L4 (layout_rowsOf_L5 (layout_rowsOf_J3 x1 (w64 (u1 * x1))) x0 (w64 (u1 * x1)) xs621) x0 u625 (w64 (u1 * x1)) y.1 y.2.2.1 y.2.2.2.2.1 y.2.2.2.2.2 = some r) (fun y => y.1) (big, G604, v608, cs609, (w64 x620), 0) ⟨(HpLe.refl _), B606, o610, r626⟩ rfl ⟨rfl, rfl, rfl, rfl, rfl, rfl, rfl, rfl, rfl, trivial⟩ rfl rfl rfl (fun y hI hb669 => ?_)
      obtain ⟨n656, G658, v662, cs663, v666, v667⟩ := y
      obtain ⟨e659, B660, o664, r668⟩ := hI
      try dsimp only at e659 B660 o664 r668
      refine Cov.prune [(7, .slice (some ⟨b7, 0, none⟩) v662.length ((w64 (u1 * x1))).toNat), (10, .int .i64 v666), (32, .int .i64 v667), (24, _), (0, _), (1, _), (22, _), (23, _), (31, _)] ⟨rfl, rfl, rfl, rfl, rfl, rfl, rfl, rfl, rfl, trivial⟩ ?_
      refine Cov.same (bl' := []) (sl' := [.s (.slice (some ⟨b7, 0, none⟩) ((w64 (u1 * x1))).toNat ((w64 (u1 * x1))).toNat) 3 1 ((w64 (u1 * x1))).toNat cs663, _]) (Fs' := G658 :: Fs) rfl rfl rfl ?_
      obtain ⟨m678, rfl⟩ : ∃ m, n656 = m + 1 := by cases n656 with | zero => exact absurd (show (none : Option _) = some _ from r668) (by simp) | succ m => exact ⟨m, rfl⟩
      have r677 : layout_rowsOf_B4 (layout_rowsOf_L5 (layout_rowsOf_J3 x1 (w64 (u1 * x1))) x0 (w64 (u1 * x1)) xs621) x0 u625 (w64 (u1 * x1)) (layout_rowsOf_L4 (layout_rowsOf_L5 (layout_rowsOf_J3 x1 (w64 (u1 * x1))) x0 (w64 (u1 * x1)) xs621) x0 u625 (w64 (u1 * x1)) m678) v662 v666 v667 = some r := r668; clear r668; unfold layout_rowsOf_B4 at r677; try dsimp only at r677
      refine Cov.seq ?_
      refine Cov.region rfl ?_
      refine Cov.q .ro (.lss rfl rfl) rfl ?_
      refine Cov.region_end ?_
      refine Cov.seq ?_
      refine Cov.cond_dec rfl (fun c679 => ?_) (fun c679 => ?_)
      · have r680 := ifT r677 c679; clear r677
        refine Cov.skip ?_
        refine Cov.seq ?_
        refine Cov.block ?_
        refine Cov.seq ?_
        refine Cov.region rfl ?_
        refine Cov.q .ro (.move rfl) rfl ?_
        refine Cov.q .ro (.move rfl) rfl ?_
        refine Cov.q .ro (.move rfl) rfl ?_
        obtain ⟨u681, hu681, r682⟩ := bind_some r680; clear r680
        refine Cov.q .ro (.remt rfl rfl (nz_some hu681)) rfl ?_
        refine Cov.lit [_] [(0, _)] .ro sl22 ty3 rfl rfl rfl rfl rfl rfl (fun b683 hb683 => ?_)
        have o684 : OL (Rep.int .i64) G658 [.int .i64 (Int.tmod v666 x0)] ([(Int.tmod v666 x0)] : List Int) := ((OL.cons rfl (Rep.intI .i64 (Int.tmod v666 x0)) (OL.nil (Rp' := (Rep.int .i64)))) :)
        refine Cov.reval 38 (n' := ([(Int.tmod v666 x0)] : List Int).length) rfl rfl ?_
        refine Cov.freezeR 0 rfl rfl o684 [_, _] rfl B660 (fun G686 e687 B688 s689 => ?_)
        obtain ⟨u695, hu695, r696⟩ := bind_some r682; clear r682
        refine Cov.appZ (Q := (Rep.int .i64)) 0 .ro sl22 ty3 rfl rfl rfl (OL.mono e687 o664) rfl rfl s689 rfl List.mem_cons_self hu695 rfl (fun cs693 o694 => ?_)
        refine Cov.q .ro (.assign rfl) rfl ?_
        refine Cov.region_end ?_
        refine Cov.region rfl ?_
        refine Cov.q .ro (.move rfl) rfl ?_
        refine Cov.q .ro (.move rfl) rfl ?_
        obtain ⟨u698, hu698, r699⟩ := bind_some r696; clear r696
        refine Cov.q .ro (.quow rfl rfl (nz_some hu698)) rfl ?_
        refine Cov.q .ro (.assign rfl) rfl ?_
        refine Cov.region_end ?_
        refine Cov.inBlock ?_
        refine Cov.region rfl ?_
        refine Cov.q .ro (.addw rfl rfl) rfl ?_
        refine Cov.q .ro (.move rfl) rfl ?_
        refine Cov.region_end ?_
        refine Cov.prune _ ?_ (Cov.same rfl rfl rfl (hb669 (m678, G686, u695, cs693, (w64 (Int.tdiv v666 x0)), (w64 (v667 + 1))) ⟨(HpLe.trans e659 e687), B688, o694, r699⟩ (Nat.lt_succ_self _)))
        exact ⟨rfl, rfl, rfl, rfl, rfl, rfl, rfl, rfl, rfl, trivial⟩
      · have r700 := ifF r677 c679; clear r677
        refine Cov.exit rfl ?_
        refine Cov.inBlock ?_
        refine Cov.region rfl ?_
        refine Cov.q .ro (.addw rfl rfl) rfl ?_
        refine Cov.q .ro (.move rfl) rfl ?_
        refine Cov.region_end ?_
        refine Cov.prune _ ?_ (Cov.same rfl rfl rfl (hb613 ((i601 + 1), xs621, G658, v662, cs663) ⟨(HpLe.trans e605 e659), B660, o664, (drop_succ g603), r700⟩ (Nat.lt_succ_self _)))
        exact ⟨rfl, (congrArg (fun z => some (Value.int .i64 z)) (idx_wrap (SlR.len s18) g603)), rfl, rfl, rfl, rfl, trivial⟩

set_option maxHeartbeats 4000000 in
set_option maxRecDepth 100000 in
theorem layout_Encode_c {Fs : List Hp} {G : Hp} {x0_0 : Int} {x1 : Int} {a2 : Option Addr} {k2 : Nat} {x2 : List ByteArray} {r : ((List (List Int)) × (Int × (List (Int × Int × Int))) × Int)} (hG : G ∈ Fs) (s2 : SlR Rep.str G a2 k2 x2) (h : layout_Encode x0_0 x1 x2 = some r) : RetW Try.prog 19 #[.agg #[.int .i64 x0_0], .int .i64 x1, .slice a2 x2.length k2] Fs [] [] (fun v bo so G => ∃ a0 : Option Addr, ∃ k0 : Nat, ∃ a1 : Option Addr, ∃ k1 : Nat, v = .tuple #[.slice a0 r.1.length k0, .agg #[.int .i64 r.2.1.1, .slice a1 r.2.1.2.length k1], .int .i64 r.2.2] ∧ bo = [] ∧ so = [] ∧ SlR (Rep.sl (Rep.int .i64)) G a0 k0 r.1 ∧ SlR (Rep.pair (Rep.int .i64) (Rep.pair (Rep.int .i64) (Rep.int .i64))) G a1 k1 r.2.1.2) := by
  unfold layout_Encode at h
  try dsimp only at h
  refine RetW.of (vs := [_, _, _]) Try.func19 rfl Try.ntmps19 [(0, _), (1, _), (2, _)] ⟨rfl, rfl, rfl, trivial⟩ rfl hG fun w0 S0 hS0 B0 => ?_
  refine Cov.seq ?_
  refine Cov.region rfl ?_
  refine Cov.box [_] .ro rfl rfl rfl (fun b1 hb1 => ?_)
  refine Cov.q .ro (.assign rfl) rfl ?_
  refine Cov.alloc .ro ty34 rfl (fun b2 hb2 => ?_)
  refine Cov.q .ro (.assign rfl) rfl ?_
  refine Cov.region_end ?_
  refine Cov.seq ?_
  refine Cov.region rfl ?_
  refine Cov.q .ro (.load_own_a 1 [_] rfl rfl ty24 rfl) rfl ?_
  obtain ⟨u3, hu3, r4⟩ := bind_some h; clear h
  refine Cov.callS (b1 := []) (b2 := [_, _]) (s1 := []) [_] [] .ro rfl rfl Try.call36 rfl rfl (residue_Of_c (G := G) List.mem_cons_self  hu3) rfl (fun v6 bo so h5 => ?_)
  obtain ⟨rfl, rfl, rfl⟩ := h5
  refine Cov.same (bl' := [_, _]) (sl' := []) rfl rfl rfl ?_
  refine Cov.q .ro (.move rfl) rfl ?_
  refine Cov.q .ro (.extract rfl rfl) rfl ?_
  refine Cov.q .ro (.extract rfl rfl) rfl ?_
  refine Cov.q .ro (.assign rfl) rfl ?_
  refine Cov.q .ro (.assign rfl) rfl ?_
  refine Cov.region_end ?_
  refine Cov.seq ?_
  refine Cov.block ?_
  refine Cov.seq ?_
  refine Cov.region rfl ?_
  refine Cov.q .ro (.move rfl) rfl ?_
  refine Cov.q .ro (.not rfl) rfl ?_
  refine Cov.q .ro (.assign rfl) rfl ?_
  refine Cov.region_end ?_
  refine Cov.cond rfl (fun c7 => ?_) (fun c7 => ?_)
  · have r8 := ifT r4 c7; clear r4
    refine Cov.seq ?_
    refine Cov.region rfl ?_
    refine Cov.q .ro (.build [_, _] [] ty34 pl34 rfl rfl) rfl ?_
    refine Cov.q .ro (.assign rfl) rfl ?_
    refine Cov.store 0 [_, _] [_, _] .ro rfl rfl rfl ty34 rfl rfl rfl rfl ?_
    refine Cov.q .ro (.assign rfl) rfl ?_
    refine Cov.region_end ?_
    refine Cov.prune [(6, _), (7, _), (8, _)] ⟨rfl, rfl, rfl, trivial⟩ ?_
    cases r8
    refine Cov.retWD 2 (c := ⟨19, none⟩) (.inr ⟨_, rfl⟩) [.tmp 6, .cell 7 34, .tmp 8] [_, _, _] rfl Try.func19 Try.results19 ⟨RV.tmp rfl, RV.cell_a 0 [_, _] rfl rfl ty34 rfl, RV.tmp rfl, trivial⟩ (fun _ h => List.mem_cons_of_mem _ h) List.mem_cons_self B0 (by subst hS0; simp [blks]) (fun G' hg => ⟨none, 0, none, 0, rfl, rfl, rfl, (SlR.mono hg (SlR.nil (Rp' := (Rep.sl (Rep.int .i64))))), (SlR.mono hg (SlR.nil (Rp' := (Rep.pair (Rep.int .i64) (Rep.pair (Rep.int .i64) (Rep.int .i64))))))⟩)
  · have r9 := ifBF r4 c7; clear r4
    refine Cov.seq ?_
    refine Cov.region rfl ?_
    refine Cov.q .ro (.move rfl) rfl ?_
    obtain ⟨u10, hu10, r11⟩ := bind_some r9; clear r9
    refine Cov.callS (b1 := []) (b2 := [_, _]) (s1 := []) [_] [] .ro rfl rfl Try.call40 rfl rfl (layout_wide_c (G := G) List.mem_cons_self  hu10) rfl (fun v13 bo so h12 => ?_)
    obtain ⟨rfl, rfl, rfl⟩ := h12
    refine Cov.same (bl' := [_, _]) (sl' := []) rfl rfl rfl ?_
    refine Cov.q .ro (.not rfl) rfl ?_
    refine Cov.q .ro (.assign rfl) rfl ?_
    refine Cov.region_end ?_
    refine Cov.prune [(1, _), (2, _), (7, _), (9, _), (25, _)] ⟨rfl, rfl, rfl, rfl, rfl, trivial⟩ ?_
    refine Cov.cond rfl (fun c14 => ?_) (fun c14 => ?_)
    · have r15 := ifT r11 c14; clear r11
      refine Cov.seq ?_
      refine Cov.region rfl ?_
      refine Cov.q .ro (.build [_, _] [] ty34 pl34 rfl rfl) rfl ?_
      refine Cov.q .ro (.assign rfl) rfl ?_
      refine Cov.store 0 [_, _] [_, _] .ro rfl rfl rfl ty34 rfl rfl rfl rfl ?_
      refine Cov.q .ro (.assign rfl) rfl ?_
      refine Cov.region_end ?_
      cases r15
      refine Cov.retWD 2 (c := ⟨19, none⟩) (.inr ⟨_, rfl⟩) [.tmp 6, .cell 7 34, .tmp 8] [_, _, _] rfl Try.func19 Try.results19 ⟨RV.tmp rfl, RV.cell_a 0 [_, _] rfl rfl ty34 rfl, RV.tmp rfl, trivial⟩ (fun _ h => List.mem_cons_of_mem _ h) List.mem_cons_self B0 (by subst hS0; simp [blks]) (fun G' hg => ⟨none, 0, none, 0, rfl, rfl, rfl, (SlR.mono hg (SlR.nil (Rp' := (Rep.sl (Rep.int .i64))))), (SlR.mono hg (SlR.nil (Rp' := (Rep.pair (Rep.int .i64) (Rep.pair (Rep.int .i64) (Rep.int .i64))))))⟩)
    · have r16 := ifBF r11 c14; clear r11
      refine Cov.seq ?_
      refine Cov.region rfl ?_
      refine Cov.q .ro (.move rfl) rfl ?_
      refine Cov.q .ro (.len_sl rfl rfl sl25) rfl ?_
      refine Cov.q .ro (.gtr rfl rfl) rfl ?_
      refine Cov.q .ro (.assign rfl) rfl ?_
      refine Cov.region_end ?_
      refine Cov.cond_dec rfl (fun c17 => ?_) (fun c17 => ?_)
      · have r18 := ifT r16 c17; clear r16
        refine Cov.seq ?_
        refine Cov.region rfl ?_
        refine Cov.q .ro (.build [_, _] [] ty34 pl34 rfl rfl) rfl ?_
        refine Cov.q .ro (.assign rfl) rfl ?_
        refine Cov.store 0 [_, _] [_, _] .ro rfl rfl rfl ty34 rfl rfl rfl rfl ?_
        refine Cov.q .ro (.assign rfl) rfl ?_
        refine Cov.region_end ?_
        cases r18
        refine Cov.retWD 2 (c := ⟨19, none⟩) (.inr ⟨_, rfl⟩) [.tmp 6, .cell 7 34, .tmp 8] [_, _, _] rfl Try.func19 Try.results19 ⟨RV.tmp rfl, RV.cell_a 0 [_, _] rfl rfl ty34 rfl, RV.tmp rfl, trivial⟩ (fun _ h => List.mem_cons_of_mem _ h) List.mem_cons_self B0 (by subst hS0; simp [blks]) (fun G' hg => ⟨none, 0, none, 0, rfl, rfl, rfl, (SlR.mono hg (SlR.nil (Rp' := (Rep.sl (Rep.int .i64))))), (SlR.mono hg (SlR.nil (Rp' := (Rep.pair (Rep.int .i64) (Rep.pair (Rep.int .i64) (Rep.int .i64))))))⟩)
      · have r19 := ifF r16 c17; clear r16
        refine Cov.skip ?_
        refine Cov.inBlock ?_
        refine Cov.seq ?_
        refine Cov.region rfl ?_
        refine Cov.q .ro (.assign rfl) rfl ?_
        refine Cov.region_end ?_
        refine Cov.seq ?_
        refine Cov.region rfl ?_
        refine Cov.q .ro (.move rfl) rfl ?_
        refine Cov.q .ro (.build [_, _] [(0, _)] ty34 pl34 rfl rfl) rfl ?_
        refine Cov.alloc .ro ty34 rfl (fun b20 hb20 => ?_)
        refine Cov.store 0 [_, _] [_, _, _] .ro rfl rfl rfl ty34 rfl rfl rfl rfl ?_
        refine Cov.region_end ?_
        refine Cov.seq ?_
        refine Cov.seq ?_
        refine Cov.region rfl ?_
        refine Cov.q .ro (.move rfl) rfl ?_
        refine Cov.q .ro (.len_sl rfl rfl sl25) rfl ?_
        refine Cov.q .ro (.move rfl) rfl ?_
        refine Cov.region_end ?_
        refine Cov.cutB (β := Hp × List (List Int) × Option Addr × Nat × List Value × Int × (List (Int × Int × Int)) × Option Addr × Nat × List Value × Int × Int) (fun y => [(11, .slice y.2.2.1 y.2.1.length y.2.2.2.1)]) [(7, _), (12, _)] (fun y => y.1 :: Fs) (fun y => [(b20, .cells #[.int .i64 y.2.2.2.2.2.1, .slice y.2.2.2.2.2.2.2.1 y.2.2.2.2.2.2.1.length y.2.2.2.2.2.2.2.2.1] 34 (0, 0)), (b2, .cells #[.int .i64 y.2.2.2.2.2.2.2.2.2.2.1, .slice none 0 0] 34 (0, 0)), (b1, .cells #[.int .i64 y.2.2.2.2.2.2.2.2.2.2.2] 24 (0, 0))]) [] (fun y => [.s (.slice y.2.2.1 y.2.1.length y.2.2.2.1) 22 1 y.2.1.length y.2.2.2.2.1, .s (.slice y.2.2.2.2.2.2.2.1 y.2.2.2.2.2.2.1.length y.2.2.2.2.2.2.2.2.1) 56 3 y.2.2.2.2.2.2.1.length y.2.2.2.2.2.2.2.2.2.1]) [] (fun y => HpLe G y.1 ∧ Bd w0 S0 Fs y.1 ∧ OL (Rep.sl (Rep.int .i64)) y.1 y.2.2.2.2.1 y.2.1 ∧ OL (Rep.pair (Rep.int .i64) (Rep.pair (Rep.int .i64) (Rep.int .i64))) y.1 y.2.2.2.2.2.2.2.2.2.1 y.2.2.2.2.2.2.1 ∧ layout_Encode_J1 y.2.1 y.2.2.2.2.2.1 y.2.2.2.2.2.2.1 y.2.2.2.2.2.2.2.2.2.2.1 y.2.2.2.2.2.2.2.2.2.2.2 = some r) ⟨rfl, rfl, trivial⟩ [] rfl [] rfl ?_ ?_
        · intro y hI
          obtain ⟨G239, v243, a244, k245, cs246, v249, v250, a251, k252, cs253, v256, v257⟩ := y
          obtain ⟨e240, B241, o247, o254, r259⟩ := hI
          try dsimp only at e240 B241 o247 o254 r259
          refine Cov.prune [(11, .slice a244 v243.length k245), (7, _), (12, _)] ⟨rfl, rfl, rfl, trivial⟩ ?_
          refine Cov.same (bl' := [(b20, .cells #[.int .i64 v249, .slice a251 v250.length k252] 34 (0, 0)), (b2, .cells #[.int .i64 v256, .slice none 0 0] 34 (0, 0)), (b1, .cells #[.int .i64 v257] 24 (0, 0))]) (sl' := [.s (.slice a244 v243.length k245) 22 1 v243.length cs246, .s (.slice a251 v250.length k252) 56 3 v250.length cs253]) (Fs' := G239 :: Fs) rfl rfl rfl ?_
          unfold layout_Encode_J1 at r259
          try dsimp only at r259
          refine Cov.seq ?_
          refine Cov.freezeR 0 rfl rfl o247 [_] rfl B241 (fun G260 e261 B262 s263 => ?_)
          refine Cov.drawL (.q 0 (.q 1 (.q 2 (.e 3 1 (.q 4 .nil))))) [_, _] (by kernel_rfl) (by kernel_rfl) (pick_mem [0, 2] rfl) ?_
          refine Cov.dq (.move rfl) rfl ?_
          refine Cov.dq (.load_own_a 0 [_, _] rfl rfl ty34 rfl) rfl ?_
          refine Cov.dq (.assign rfl) rfl ?_
          refine Cov.store 1 [_, _] [_, _, _] .d1 rfl rfl rfl ty34 rfl rfl rfl rfl ?_
          refine Cov.clsL (HpLe.refl _) (pick_mem [0, 2] rfl) ?_
          refine Cov.dq (.assign rfl) rfl ?_
          refine Cov.draw_end ?_
          refine Cov.freezeR 0 rfl rfl (OL.mono e261 o254) [] rfl B262 (fun G265 e266 B267 s268 => ?_)
          cases r259
          refine Cov.retWD 3 (c := ⟨19, none⟩) (.inr ⟨_, rfl⟩) [.tmp 6, .cell 7 34, .tmp 8] [_, _, _] rfl Try.func19 Try.results19 ⟨RV.tmp rfl, RV.cell_a 1 [_, _] rfl rfl ty34 rfl, RV.tmp rfl, trivial⟩ (fun _ h => List.mem_cons_of_mem _ h) List.mem_cons_self B267 (by subst hS0; simp [blks]) (fun G' hg => ⟨a244, k245, a251, k252, rfl, rfl, rfl, (SlR.mono hg (SlR.mono e266 s263)), (SlR.mono hg s268)⟩)
        · intro hb270
          refine Cov.block ?_
          refine Cov.own_nil 22 1 ?_
          refine Cov.own_nil 56 3 ?_
          refine Cov.pullS 1 rfl [_, _] rfl ?_
          refine Cov.loop2 (α := Nat × List ByteArray × Hp × List (List Int) × Option Addr × Nat × List Value × (List (Int × Int × Int)) × Option Addr × Nat × List Value) (fun y => [(11, .slice y.2.2.2.2.1 y.2.2.2.1.length y.2.2.2.2.2.1), (39, .int .i64 (y.1 : Int))]) [(1, _), (7, _), (9, _), (12, _), (37, _), (38, _)] (fun y => [y.2.2.1]) (fun y => [(b20, .cells #[.int .i64 x1, .slice y.2.2.2.2.2.2.2.2.1 y.2.2.2.2.2.2.2.1.length y.2.2.2.2.2.2.2.2.2.1] 34 (0, 0))]) [_, _] (fun y => [.s (.slice y.2.2.2.2.1 y.2.2.2.1.length y.2.2.2.2.2.1) 22 1 y.2.2.2.1.length y.2.2.2.2.2.2.1, .s (.slice y.2.2.2.2.2.2.2.2.1 y.2.2.2.2.2.2.2.1.length y.2.2.2.2.2.2.2.2.2.1) 56 3 y.2.2.2.2.2.2.2.1.length y.2.2.2.2.2.2.2.2.2.2]) [] (fun y => HpLe G y.2.2.1 ∧ Bd w0 S0 Fs y.2.2.1 ∧ OL (Rep.sl (Rep.int .i64)) y.2.2.1 y.2.2.2.2.2.2.1 y.2.2.2.1 ∧ OL (Rep.pair (Rep.int .i64) (Rep.pair (Rep.int .i64) (Rep.int .i64))) y.2.2.1 y.2.2.2.2.2.2.2.2.2.2 y.2.2.2.2.2.2.2.1 ∧ List.drop y.1 x2 = y.2.1 ∧ layout_Encode_L2 layout_Encode_J1 x1 u3.1 x0_0 y.2.1 y.2.2.2.1 y.2.2.2.2.2.2.2.1 = some r) (fun y => y.2.1.length) (0, x2, G, ([] : List (List Int)), none, 0, [], ([] : List (Int × Int × Int)), none, 0, []) ⟨(HpLe.refl _), B0, (OL.nil (Rp' := (Rep.sl (Rep.int .i64)))), (OL.nil (Rp' := (Rep.pair (Rep.int .i64) (Rep.pair (Rep.int .i64) (Rep.int .i64))))), rfl, r19⟩ ⟨rfl, rfl, rfl, rfl, rfl, rfl, rfl, rfl, trivial⟩ rfl rfl rfl (fun y hI hb428 => ?_)
          obtain ⟨i408, w409, G411, v415, a416, k417, cs418, v421, a422, k423, cs424⟩ := y
          obtain ⟨e412, B413, o419, o425, g410, r427⟩ := hI
          try dsimp only at e412 B413 o419 o425 g410 r427
          refine Cov.prune [(11, .slice a416 v415.length k417), (39, .int .i64 (i408 : Int)), (1, _), (7, _), (9, _), (12, _), (37, _), (38, _)] ⟨rfl, rfl, rfl, rfl, rfl, rfl, rfl, rfl, trivial⟩ ?_
          refine Cov.same (bl' := [(b20, .cells #[.int .i64 x1, .slice a422 v421.length k423] 34 (0, 0)), _, _]) (sl' := [.s (.slice a416 v415.length k417) 22 1 v415.length cs418, .s (.slice a422 v421.length k423) 56 3 v421.length cs424]) (Fs' := G411 :: Fs) rfl rfl rfl ?_
          cases w409 with
          | nil =>
            rw [layout_Encode_L2] at r427; try dsimp only at r427
            refine Cov.seq ?_
            refine Cov.region rfl ?_
            refine Cov.q .ro (.lss rfl rfl) rfl ?_
            refine Cov.region_end ?_
            refine Cov.seq ?_
            refine Cov.cond_dec rfl (fun c => absurd c (drop_nil g410)) (fun _ => ?_)
            refine Cov.exit rfl ?_
            refine Cov.prune _ ?_ (Cov.same rfl rfl rfl (hb270 (G411, v415, a416, k417, cs418, x1, v421, a422, k423, cs424, 0, x0_0) ⟨e412, B413, o419, o425, r427⟩))
            exact ⟨rfl, rfl, rfl, trivial⟩
          | cons x435 xs436 =>
            have r434 : layout_Encode_B2 layout_Encode_J1 x1 u3.1 x0_0 (layout_Encode_L2 layout_Encode_J1 x1 u3.1 x0_0 xs436) x435 v415 v421 = some r := r427; clear r427; unfold layout_Encode_B2 at r434; try dsimp only at r434
            refine Cov.seq ?_
            refine Cov.region rfl ?_
            refine Cov.q .ro (.lss rfl rfl) rfl ?_
            refine Cov.region_end ?_
            refine Cov.seq ?_
            refine Cov.cond_dec rfl (fun _ => ?_) (fun c => absurd (drop_lt g410) c)
            refine Cov.skip ?_
            refine Cov.seq ?_
            refine Cov.block ?_
            refine Cov.seq ?_
            refine Cov.region rfl ?_
            obtain ⟨c437, p438, h439⟩ := SlR.get (SlR.mono e412 s2) (drop_idx g410)
            obtain rfl := h439
            refine Cov.q .ro (.idxR (SlR.mono e412 s2) rfl rfl (drop_idx g410) sl25 ty9.sz) rfl ?_
            refine Cov.q .ro (.load_rp p438 List.mem_cons_self rfl ty9 rfl) rfl ?_
            refine Cov.q .ro (.assign rfl) rfl ?_
            refine Cov.region_end ?_
            refine Cov.seq ?_
            refine Cov.seq ?_
            refine Cov.region rfl ?_
            refine Cov.q .ro (.move rfl) rfl ?_
            refine Cov.q .ro (.len_s rfl Try.underlying9) rfl ?_
            refine Cov.q .ro (.gtr rfl rfl) rfl ?_
            refine Cov.q .ro (.move rfl) rfl ?_
            obtain ⟨u446, h447, r448⟩ := bind_some r434; clear r434
            refine Cov.cutR 10 (β := Unit) (fun y => [(56, .bool u446)]) [(11, _), (39, _), (1, _), (7, _), (9, _), (12, _), (37, _), (38, _), (14, _)] (fun y => G411 :: Fs) (fun y => []) [_, _, _] (fun y => []) [_, _] (fun y => True) ⟨rfl, rfl, rfl, rfl, rfl, rfl, rfl, rfl, rfl, trivial⟩ [0, 1, 2] rfl [0, 1] rfl ?_ ?_
            · rintro _ _
              refine Cov.prune [(56, .bool u446), (11, _), (39, _), (1, _), (7, _), (9, _), (12, _), (37, _), (38, _), (14, _)] ⟨rfl, rfl, rfl, rfl, rfl, rfl, rfl, rfl, rfl, rfl, trivial⟩ ?_
              refine Cov.same (bl' := [_, _, _]) (sl' := [_, _]) (Fs' := G411 :: Fs) rfl rfl rfl ?_
              refine Cov.region_end ?_
              refine Cov.cond rfl (fun c451 => ?_) (fun c451 => ?_)
              · have r452 := ifT r448 c451; clear r448
                refine Cov.seq ?_
                refine Cov.region rfl ?_
                refine Cov.q .ro (.build [_, _] [] ty34 pl34 rfl rfl) rfl ?_
                refine Cov.q .ro (.assign rfl) rfl ?_
                refine Cov.store 1 [_, _] [_, _, _] .ro rfl rfl rfl ty34 rfl rfl rfl rfl ?_
                refine Cov.q .ro (.assign rfl) rfl ?_
                refine Cov.region_end ?_
                cases r452
                refine Cov.drop 0 2 _ [] rfl rfl ?_
                refine Cov.retWD 3 (c := ⟨19, none⟩) (.inr ⟨_, rfl⟩) [.tmp 6, .cell 7 34, .tmp 8] [_, _, _] rfl Try.func19 Try.results19 ⟨RV.tmp rfl, RV.cell_a 1 [_, _] rfl rfl ty34 rfl, RV.tmp rfl, trivial⟩ (fun _ h => List.mem_cons_of_mem _ h) List.mem_cons_self B413 (by subst hS0; simp [blks]) (fun G' hg => ⟨none, 0, none, 0, rfl, rfl, rfl, (SlR.mono hg (SlR.nil (Rp' := (Rep.sl (Rep.int .i64))))), (SlR.mono hg (SlR.nil (Rp' := (Rep.pair (Rep.int .i64) (Rep.pair (Rep.int .i64) (Rep.int .i64))))))⟩)
              · have r453 := ifBF r448 c451; clear r448
                refine Cov.skip ?_
                refine Cov.seq ?_
                refine Cov.region rfl ?_
                refine Cov.q .ro (.move rfl) rfl ?_
                refine Cov.q .ro (.len_sl rfl rfl sl26) rfl ?_
                refine Cov.q .ro (.move rfl) rfl ?_
                refine Cov.q .ro (.len_s rfl Try.underlying9) rfl ?_
                refine Cov.q .ro (.build [_, _, _] [(0, _), (2, _)] ty56 pl56 rfl rfl) rfl ?_
                refine Cov.alloc .ro ty56 rfl (fun b454 hb454 => ?_)
                refine Cov.store 0 [_, _, _] [_, _, _, _] .ro rfl rfl rfl ty56 rfl rfl rfl rfl ?_
                refine Cov.region_end ?_
                refine Cov.seq ?_
                refine Cov.region rfl ?_
                refine Cov.q .ro (.move rfl) rfl ?_
                refine Cov.q .ro (.move rfl) rfl ?_
                refine Cov.q .ro (.move rfl) rfl ?_
                refine Cov.q .ro (.move rfl) rfl ?_
                obtain ⟨u455, hu455, r456⟩ := bind_some r453; clear r453
                refine Cov.callW (b1 := []) (b2 := [_, _, _, _]) (s1 := []) [_, _, _] [] .ro rfl rfl Try.call42 rfl rfl (layout_rowsOf_c (G := G411) List.mem_cons_self  hu455) rfl B413 (fun v458 bo so G459 e460 B461 h457 => ?_)
                obtain ⟨a464, k465, cs466, rfl, rfl, rfl, o467⟩ := h457
                refine Cov.same (bl' := [_, _, _, _]) (sl' := [_, _, _]) rfl rfl rfl ?_
                obtain ⟨u472, hu472, r473⟩ := bind_some r456; clear r456
                refine Cov.appO (Q := (Rep.sl (Rep.int .i64))) 0 .ro sl26 ty22 rfl rfl rfl rfl rfl rfl (OL.mono e460 o419) o467 rfl rfl rfl B461 hu472 rfl (fun a468 k469 cs470 o471 => ?_)
                refine Cov.q .ro (.assign rfl) rfl ?_
                refine Cov.region_end ?_
                refine Cov.prune [(11, _), (39, _), (1, _), (7, _), (9, _), (12, _), (37, _), (38, _), (15, _)] ⟨rfl, rfl, rfl, rfl, rfl, rfl, rfl, rfl, rfl, trivial⟩ ?_
                refine Cov.seq ?_
                refine Cov.region rfl ?_
                refine Cov.q .ro (.move rfl) rfl ?_
                refine Cov.q .ro (.len_sl rfl rfl sl26) rfl ?_
                refine Cov.q .ro (.fieldAddr 0 rfl fl56_0 ty3.sz rfl) rfl ?_
                refine Cov.q .ro (.load_own 0 rfl rfl ty3 rfl) rfl ?_
                refine Cov.q .ro (.subw rfl rfl) rfl ?_
                refine Cov.q .ro (.fieldAddr 1 rfl fl56_1 ty3.sz rfl) rfl ?_
                refine Cov.store 0 [_, _, _] [_, _, _, _] .ro rfl rfl rfl ty3 rfl rfl rfl rfl ?_
                refine Cov.region_end ?_
                refine Cov.region rfl ?_
                refine Cov.q .ro (.fieldAddr 1 rfl fl34_1 ty32.sz rfl) rfl ?_
                refine Cov.q .ro (.load_own 1 rfl rfl ty32 rfl) rfl ?_
                refine Cov.q .ro (.load_own_a 0 [_, _, _] rfl rfl ty56 rfl) rfl ?_
                refine Cov.lit [_, _, _] [(0, _)] .ro sl32 ty56 rfl rfl rfl rfl rfl rfl (fun b475 hb475 => ?_)
                have o476 : OL (Rep.pair (Rep.int .i64) (Rep.pair (Rep.int .i64) (Rep.int .i64))) G459 [.int .i64 (v415.length : Int), .int .i64 (w64 ((u472.length : Int) - (v415.length : Int))), .int .i64 (x435.size : Int)] ([((v415.length : Int), (w64 ((u472.length : Int) - (v415.length : Int))), (x435.size : Int))] : List (Int × Int × Int)) := ((OL.cons rfl (Rep.pairI (Rep.intI .i64 (v415.length : Int)) (Rep.pairI (Rep.intI .i64 (w64 ((u472.length : Int) - (v415.length : Int)))) (Rep.intI .i64 (x435.size : Int)))) (OL.nil (Rp' := (Rep.pair (Rep.int .i64) (Rep.pair (Rep.int .i64) (Rep.int .i64)))))) :)
                refine Cov.reval 78 (n' := ([((v415.length : Int), (w64 ((u472.length : Int) - (v415.length : Int))), (x435.size : Int))] : List (Int × Int × Int)).length) rfl rfl ?_
                obtain ⟨u482, hu482, r483⟩ := bind_some r473; clear r473
                refine Cov.appO (Q := (Rep.pair (Rep.int .i64) (Rep.pair (Rep.int .i64) (Rep.int .i64)))) 1 .ro sl32 ty56 rfl rfl rfl rfl rfl rfl (OL.mono e460 o425) o476 rfl rfl rfl B461 hu482 rfl (fun a478 k479 cs480 o481 => ?_)
                refine Cov.q .ro (.fieldAddr 1 rfl fl34_1 ty32.sz rfl) rfl ?_
                refine Cov.store 1 [_, _] [_, _, _, _] .ro rfl rfl rfl ty32 rfl rfl rfl rfl ?_
                refine Cov.region_end ?_
                refine Cov.prune [(11, _), (39, _), (1, _), (7, _), (9, _), (12, _), (37, _), (38, _)] ⟨rfl, rfl, rfl, rfl, rfl, rfl, rfl, rfl, trivial⟩ ?_
                refine Cov.inBlock ?_
                refine Cov.region rfl ?_
                refine Cov.q .ro (.addw rfl rfl) rfl ?_
                refine Cov.q .ro (.move rfl) rfl ?_
                refine Cov.region_end ?_
                refine Cov.drop 1 0 [_, _, _] _ rfl rfl ?_
                refine Cov.prune _ ?_ (Cov.same rfl rfl rfl (hb428 ((i408 + 1), xs436, G459, u472, a468, k469, cs470, u482, a478, k479, cs480) ⟨(HpLe.trans e412 e460), B461, o471, o481, (drop_succ g410), r483⟩ (Nat.lt_succ_self _)))
                exact ⟨rfl, (congrArg (fun z => some (Value.int .i64 z)) (idx_wrap (SlR.len s2) g410)), rfl, rfl, rfl, rfl, rfl, rfl, trivial⟩
            · intro hb445
              refine Cov.split 46 rfl (fun c444 => ?_) (fun c444 => ?_)
              · have r485 := ifT h447 c444
                refine Cov.g_off rfl rfl rfl ?_
                refine Cov.g_off rfl rfl rfl ?_
                refine Cov.g_off rfl rfl rfl ?_
                refine Cov.g_off rfl rfl rfl ?_
                refine Cov.g_off rfl rfl rfl ?_
                refine Cov.g_off rfl rfl rfl ?_
                refine Cov.g_off rfl rfl rfl ?_
                refine Cov.g_off rfl rfl rfl ?_
                refine Cov.g_off rfl rfl rfl ?_
                refine Cov.q .ro (.pick_t rfl rfl) rfl ?_
                refine Cov.prune _ ?_ (Cov.same rfl rfl rfl (hb445 () trivial))
                exact ⟨sval r485, rfl, rfl, rfl, rfl, rfl, rfl, rfl, rfl, rfl, trivial⟩
              · have r486 := ifF h447 c444
                refine Cov.g_on rfl ?_
                refine Cov.q .ro (.move rfl) rfl ?_
                refine Cov.g_on rfl ?_
                refine Cov.q .ro (.len_sl rfl rfl sl26) rfl ?_
                refine Cov.g_on rfl ?_
                refine Cov.q .ro (.move rfl) rfl ?_
                refine Cov.g_on rfl ?_
                refine Cov.q .ro (.move rfl) rfl ?_
                refine Cov.g_on rfl ?_
                refine Cov.q .ro (.move rfl) rfl ?_
                refine Cov.g_on rfl ?_
                refine Cov.q .ro (.len_s rfl Try.underlying9) rfl ?_
                refine Cov.g_on rfl ?_
                obtain ⟨u487, hu487, r488⟩ := bind_some r486; clear r486
                refine Cov.callS (b1 := []) (b2 := [_, _, _]) (s1 := []) [_, _, _] [] .ro rfl rfl Try.call41 rfl rfl (layout_needed_c (G := G411) List.mem_cons_self  hu487) rfl (fun v490 bo so h489 => ?_)
                obtain ⟨rfl, rfl, rfl⟩ := h489
                refine Cov.same (bl' := [_, _, _]) (sl' := [_, _]) rfl rfl rfl ?_
                refine Cov.g_on rfl ?_
                refine Cov.q .ro (.addw rfl rfl) rfl ?_
                refine Cov.g_on rfl ?_
                refine Cov.q .ro (.gtr rfl rfl) rfl ?_
                refine Cov.q .ro (.pick_f rfl rfl) rfl ?_
                refine Cov.prune _ ?_ (Cov.same rfl rfl rfl (hb445 () trivial))
                exact ⟨sval r488, rfl, rfl, rfl, rfl, rfl, rfl, rfl, rfl, rfl, trivial⟩

set_option maxHeartbeats 4000000 in
set_option maxRecDepth 100000 in
theorem slices_IndexFunc_Lintint_c {Fs : List Hp} {G : Hp} {a0 : Option Addr} {k0 : Nat} {x0 : List Int} {F1 : FuncId} {c1 : List Value} {x1 : Int → Option Bool} {r : Int} (hG : G ∈ Fs) (s0 : SlR (Rep.int .i64) G a0 k0 x0) (hc1 : ∀ args w, (callFunc F1 args).run Try.prog w = .ok (.enter F1 args) w) (hf1 : ∀ (Fs' : List Hp) (G1 : Hp), HpLe G G1 → G1 ∈ Fs' → ∀ (y0 : Int) (r : Bool), x1 y0 = some r → RetS Try.prog F1 (([.int .i64 y0] : List Value) ++ c1).toArray Fs' [] [] (fun v bo so => v = .bool r ∧ bo = [] ∧ so = [])) (h : slices_IndexFunc_Lintint x0 x1 = some r) : RetS Try.prog 58 #[.slice a0 x0.length k0, .func (.func F1) #[] c1.toArray] Fs [] [] (fun v bo so => v = .int .i64 r ∧ bo = [] ∧ so = []) := by
  unfold slices_IndexFunc_Lintint at h
  try dsimp only at h
  refine RetS.of (vs := [_, _]) Try.func58 rfl Try.ntmps58 [(0, _), (1, _)] ⟨rfl, rfl, trivial⟩ rfl hG fun w0 S0 hS0 B0 => ?_
  refine Cov.seq ?_
  refine Cov.region rfl ?_
  refine Cov.q .ro (.assign rfl) rfl ?_
  refine Cov.region_end ?_
  refine Cov.seq ?_
  refine Cov.seq ?_
  refine Cov.region rfl ?_
  refine Cov.q .ro (.move rfl) rfl ?_
  refine Cov.q .ro (.len_sl rfl rfl sl22) rfl ?_
  refine Cov.q .ro (.move rfl) rfl ?_
  refine Cov.region_end ?_
  refine Cov.block ?_
  refine Cov.loop2 (α := Nat × List Int) (fun y => [(8, .int .i64 (y.1 : Int))]) [(0, _), (1, _), (7, _)] (fun y => []) (fun y => []) [] (fun y => []) [] (fun y => List.drop y.1 x0 = y.2 ∧ slices_IndexFunc_Lintint_L1 x1 y.2 y.1  = some r) (fun y => y.2.length) (0, x0) ⟨rfl, h⟩ ⟨rfl, rfl, rfl, rfl, trivial⟩ rfl rfl rfl (fun y hI hb23 => ?_)
  obtain ⟨i19, w20⟩ := y
  obtain ⟨g21, r22⟩ := hI
  try dsimp only at g21 r22
  refine Cov.prune [(8, .int .i64 (i19 : Int)), (0, _), (1, _), (7, _)] ⟨rfl, rfl, rfl, rfl, trivial⟩ ?_
  refine Cov.same (bl' := []) (sl' := []) (Fs' := G :: Fs) rfl rfl rfl ?_
  cases w20 with
  | nil =>
    rw [slices_IndexFunc_Lintint_L1] at r22; try dsimp only at r22
    refine Cov.seq ?_
    refine Cov.region rfl ?_
    refine Cov.q .ro (.lss rfl rfl) rfl ?_
    refine Cov.region_end ?_
    refine Cov.seq ?_
    refine Cov.cond_dec rfl (fun c => absurd c (drop_nil g21)) (fun _ => ?_)
    refine Cov.exit rfl ?_
    refine Cov.seq ?_
    refine Cov.region rfl ?_
    refine Cov.q .ro (.assign rfl) rfl ?_
    refine Cov.region_end ?_
    cases r22
    refine Cov.retS (c := ⟨58, none⟩) (.inr ⟨_, rfl⟩) [.tmp 4] [_] rfl Try.func58 Try.results58 ⟨RV.tmp rfl, trivial⟩ (fun _ h => List.mem_cons_of_mem _ h) ⟨rfl, rfl, rfl⟩
  | cons x28 xs29 =>
    have r27 : slices_IndexFunc_Lintint_B1 x1 (slices_IndexFunc_Lintint_L1 x1 xs29 (i19 + 1)) x28 i19  = some r := r22; clear r22; unfold slices_IndexFunc_Lintint_B1 at r27; try dsimp only at r27
    refine Cov.seq ?_
    refine Cov.region rfl ?_
    refine Cov.q .ro (.lss rfl rfl) rfl ?_
    refine Cov.region_end ?_
    refine Cov.seq ?_
    refine Cov.cond_dec rfl (fun _ => ?_) (fun c => absurd (drop_lt g21) c)
    refine Cov.skip ?_
    refine Cov.seq ?_
    refine Cov.block ?_
    refine Cov.seq ?_
    refine Cov.region rfl ?_
    refine Cov.q .ro (.move rfl) rfl ?_
    refine Cov.q .ro (.assign rfl) rfl ?_
    refine Cov.region_end ?_
    refine Cov.seq ?_
    refine Cov.region rfl ?_
    refine Cov.q .ro (.move rfl) rfl ?_
    refine Cov.q .ro (.move rfl) rfl ?_
    refine Cov.q .ro (.move rfl) rfl ?_
    obtain ⟨c30, p31, h32⟩ := SlR.get s0 (drop_idx g21)
    obtain rfl := h32
    refine Cov.q .ro (.idxR s0 rfl rfl (drop_idx g21) sl22 ty3.sz) rfl ?_
    refine Cov.q .ro (.load_rp p31 List.mem_cons_self rfl ty3 rfl) rfl ?_
    obtain ⟨u33, hu33, r34⟩ := bind_some r27; clear r27
    refine Cov.callS (b1 := []) (b2 := []) (s1 := []) [_] c1 .ro rfl rfl hc1 rfl rfl (hf1 _ G (HpLe.refl _) List.mem_cons_self _ _  hu33) rfl (fun v36 bo so h35 => ?_)
    obtain ⟨rfl, rfl, rfl⟩ := h35
    refine Cov.same (bl' := []) (sl' := []) rfl rfl rfl ?_
    refine Cov.region_end ?_
    refine Cov.cond rfl (fun c37 => ?_) (fun c37 => ?_)
    · have r38 := ifT r34 c37; clear r34
      refine Cov.seq ?_
      refine Cov.region rfl ?_
      refine Cov.q .ro (.move rfl) rfl ?_
      refine Cov.q .ro (.assign rfl) rfl ?_
      refine Cov.region_end ?_
      refine Cov.prune [(4, _)] ⟨rfl, trivial⟩ ?_
      cases r38
      refine Cov.retS (c := ⟨58, none⟩) (.inr ⟨_, rfl⟩) [.tmp 4] [_] rfl Try.func58 Try.results58 ⟨RV.tmp rfl, trivial⟩ (fun _ h => List.mem_cons_of_mem _ h) ⟨rfl, rfl, rfl⟩
    · have r39 := ifBF r34 c37; clear r34
      refine Cov.skip ?_
      refine Cov.inBlock ?_
      refine Cov.region rfl ?_
      refine Cov.q .ro (.addw rfl rfl) rfl ?_
      refine Cov.q .ro (.move rfl) rfl ?_
      refine Cov.region_end ?_
      refine Cov.prune _ ?_ (Cov.same rfl rfl rfl (hb23 ((i19 + 1), xs29) ⟨(drop_succ g21), r39⟩ (Nat.lt_succ_self _)))
      exact ⟨(congrArg (fun z => some (Value.int .i64 z)) (idx_wrap (SlR.len s0) g21)), rfl, rfl, rfl, trivial⟩

set_option maxHeartbeats 4000000 in
set_option maxRecDepth 100000 in
theorem slices_ContainsFunc_Lintint_c {Fs : List Hp} {G : Hp} {a0 : Option Addr} {k0 : Nat} {x0 : List Int} {F1 : FuncId} {c1 : List Value} {x1 : Int → Option Bool} {r : Bool} (hG : G ∈ Fs) (s0 : SlR (Rep.int .i64) G a0 k0 x0) (hc1 : ∀ args w, (callFunc F1 args).run Try.prog w = .ok (.enter F1 args) w) (hf1 : ∀ (Fs' : List Hp) (G1 : Hp), HpLe G G1 → G1 ∈ Fs' → ∀ (y0 : Int) (r : Bool), x1 y0 = some r → RetS Try.prog F1 (([.int .i64 y0] : List Value) ++ c1).toArray Fs' [] [] (fun v bo so => v = .bool r ∧ bo = [] ∧ so = [])) (h : slices_ContainsFunc_Lintint x0 x1 = some r) : RetS Try.prog 47 #[.slice a0 x0.length k0, .func (.func F1) #[] c1.toArray] Fs [] [] (fun v bo so => v = .bool r ∧ bo = [] ∧ so = []) := by
  unfold slices_ContainsFunc_Lintint at h
  try dsimp only at h
  refine RetS.of (vs := [_, _]) Try.func47 rfl Try.ntmps47 [(0, _), (1, _)] ⟨rfl, rfl, trivial⟩ rfl hG fun w0 S0 hS0 B0 => ?_
  refine Cov.seq ?_
  refine Cov.region rfl ?_
  refine Cov.q .ro (.assign rfl) rfl ?_
  refine Cov.region_end ?_
  refine Cov.seq ?_
  refine Cov.region rfl ?_
  refine Cov.q .ro (.move rfl) rfl ?_
  refine Cov.q .ro (.move rfl) rfl ?_
  obtain ⟨u1, hu1, r2⟩ := bind_some h; clear h
  refine Cov.callS (b1 := []) (b2 := []) (s1 := []) [_, _] [] .ro rfl rfl Try.call58 rfl rfl (slices_IndexFunc_Lintint_c (G := G) List.mem_cons_self s0 hc1 (fun Fs' G1 hle hm => hf1 Fs' G1 (HpLe.trans (HpLe.refl _) hle) hm) hu1) rfl (fun v4 bo so h3 => ?_)
  obtain ⟨rfl, rfl, rfl⟩ := h3
  refine Cov.same (bl' := []) (sl' := []) rfl rfl rfl ?_
  refine Cov.q .ro (.geq rfl rfl) rfl ?_
  refine Cov.q .ro (.assign rfl) rfl ?_
  refine Cov.region_end ?_
  cases r2
  refine Cov.retS (c := ⟨47, none⟩) (.inr ⟨_, rfl⟩) [.tmp 4] [_] rfl Try.func47 Try.results47 ⟨RV.tmp rfl, trivial⟩ (fun _ h => List.mem_cons_of_mem _ h) ⟨rfl, rfl, rfl⟩

set_option maxHeartbeats 4000000 in
set_option maxRecDepth 100000 in
theorem residue_Field_Has_c {Fs : List Hp} {G : Hp} {x0 : Int} {x1 : Int} {r : Bool} (hG : G ∈ Fs)  (h : residue_Field_Has x0 x1 = some r) : RetS Try.prog 55 #[.int .i64 x0, .int .i64 x1] Fs [] [] (fun v bo so => v = .bool r ∧ bo = [] ∧ so = []) := by
  unfold residue_Field_Has at h
  try dsimp only at h
  refine RetS.of (vs := [_, _]) Try.func55 rfl Try.ntmps55 [(0, _), (1, _)] ⟨rfl, rfl, trivial⟩ rfl hG fun w0 S0 hS0 B0 => ?_
  refine Cov.seq ?_
  refine Cov.region rfl ?_
  refine Cov.q .ro (.assign rfl) rfl ?_
  refine Cov.region_end ?_
  refine Cov.seq ?_
  refine Cov.region rfl ?_
  refine Cov.q .ro (.move rfl) rfl ?_
  refine Cov.q .ro (.geq rfl rfl) rfl ?_
  refine Cov.q .ro (.move rfl) rfl ?_
  refine Cov.cutR 4 (β := Unit) (fun y => [(11, .bool (decide ((0 ≤ x1) ∧ (x1 < x0))))]) [(4, _)] (fun y => G :: Fs) (fun y => []) [] (fun y => []) [] (fun y => True) ⟨rfl, trivial⟩ [] rfl [] rfl ?_ ?_
  · rintro _ _
    refine Cov.prune [(11, .bool (decide ((0 ≤ x1) ∧ (x1 < x0)))), (4, _)] ⟨rfl, rfl, trivial⟩ ?_
    refine Cov.same (bl' := []) (sl' := []) (Fs' := G :: Fs) rfl rfl rfl ?_
    refine Cov.q .ro (.assign rfl) rfl ?_
    refine Cov.region_end ?_
    cases h
    refine Cov.retS (c := ⟨55, none⟩) (.inr ⟨_, rfl⟩) [.tmp 4] [_] rfl Try.func55 Try.results55 ⟨RV.tmp rfl, trivial⟩ (fun _ h => List.mem_cons_of_mem _ h) ⟨rfl, rfl, rfl⟩
  · intro hb2
    refine Cov.split 7 rfl (fun c1 => ?_) (fun c1 => ?_)
    · refine Cov.g_on rfl ?_
      refine Cov.q .ro (.move rfl) rfl ?_
      refine Cov.g_on rfl ?_
      refine Cov.q .ro (.move rfl) rfl ?_
      refine Cov.g_on rfl ?_
      refine Cov.q .ro (.lss rfl rfl) rfl ?_
      refine Cov.q .ro (.pick_t rfl rfl) rfl ?_
      refine Cov.prune _ ?_ (Cov.same rfl rfl rfl (hb2 () trivial))
      exact ⟨dand_t c1, rfl, trivial⟩
    · refine Cov.g_off rfl rfl rfl ?_
      refine Cov.g_off rfl rfl rfl ?_
      refine Cov.g_off rfl rfl rfl ?_
      refine Cov.q .ro (.pick_f rfl rfl) rfl ?_
      refine Cov.prune _ ?_ (Cov.same rfl rfl rfl (hb2 () trivial))
      exact ⟨dand_f c1, rfl, trivial⟩

set_option maxHeartbeats 4000000 in
set_option maxRecDepth 100000 in
theorem residue_Field_All_f1_c {Fs : List Hp} {G : Hp} {x0 : Int} {p1 : Value} {x1 : Int} {r : Bool} (hG : G ∈ Fs) (hp1 : Rp G p1 [.int .i64 x1]) (h : residue_Field_All_f1 x0 x1 = some r) : RetS Try.prog 54 #[.int .i64 x0, p1] Fs [] [] (fun v bo so => v = .bool r ∧ bo = [] ∧ so = []) := by
  unfold residue_Field_All_f1 at h
  try dsimp only at h
  refine RetS.of (vs := [_, _]) Try.func54 rfl Try.ntmps54 [(0, _), (1, _)] ⟨rfl, rfl, trivial⟩ rfl hG fun w0 S0 hS0 B0 => ?_
  refine Cov.seq ?_
  refine Cov.region rfl ?_
  refine Cov.q .ro (.assign rfl) rfl ?_
  refine Cov.region_end ?_
  refine Cov.seq ?_
  refine Cov.region rfl ?_
  refine Cov.q .ro (.load_rp hp1 List.mem_cons_self rfl ty70 rfl) rfl ?_
  refine Cov.q .ro (.move rfl) rfl ?_
  obtain ⟨u1, hu1, r2⟩ := bind_some h; clear h
  refine Cov.callS (b1 := []) (b2 := []) (s1 := []) [_, _] [] .ro rfl rfl Try.call55 rfl rfl (residue_Field_Has_c (G := G) List.mem_cons_self  hu1) rfl (fun v4 bo so h3 => ?_)
  obtain ⟨rfl, rfl, rfl⟩ := h3
  refine Cov.same (bl' := []) (sl' := []) rfl rfl rfl ?_
  refine Cov.q .ro (.not rfl) rfl ?_
  refine Cov.q .ro (.assign rfl) rfl ?_
  refine Cov.region_end ?_
  cases r2
  refine Cov.retS (c := ⟨54, none⟩) (.inr ⟨_, rfl⟩) [.tmp 3] [_] rfl Try.func54 Try.results54 ⟨RV.tmp rfl, trivial⟩ (fun _ h => List.mem_cons_of_mem _ h) ⟨rfl, rfl, rfl⟩

set_option maxHeartbeats 4000000 in
set_option maxRecDepth 100000 in
theorem residue_Field_All_c {Fs : List Hp} {G : Hp} {x0 : Int} {a1 : Option Addr} {k1 : Nat} {x1 : List Int} {r : Bool} (hG : G ∈ Fs) (s1 : SlR (Rep.int .i64) G a1 k1 x1) (h : residue_Field_All x0 x1 = some r) : RetS Try.prog 44 #[.int .i64 x0, .slice a1 x1.length k1] Fs [] [] (fun v bo so => v = .bool r ∧ bo = [] ∧ so = []) := by
  unfold residue_Field_All at h
  try dsimp only at h
  refine RetS.of (vs := [_, _]) Try.func44 rfl Try.ntmps44 [(0, _), (1, _)] ⟨rfl, rfl, trivial⟩ rfl hG fun w0 S0 hS0 B0 => ?_
  refine Cov.seq ?_
  refine Cov.region rfl ?_
  refine Cov.box [_] .ro rfl rfl rfl (fun b1 hb1 => ?_)
  refine Cov.q .ro (.assign rfl) rfl ?_
  refine Cov.region_end ?_
  refine Cov.seq ?_
  refine Cov.region rfl ?_
  refine Cov.q .ro (.move rfl) rfl ?_
  refine Cov.q .ro (.makeFunc (vf := []) (vc := [_]) rfl rfl) rfl ?_
  refine Cov.freezeBR 0 rfl [] rfl B0 (fun G2 e3 B4 p5 => ?_)
  obtain ⟨u7, hu7, r8⟩ := bind_some h; clear h
  refine Cov.callS (b1 := []) (b2 := []) (s1 := []) [_, _] [] .ro rfl rfl Try.call47 rfl rfl (slices_ContainsFunc_Lintint_c (G := G2) List.mem_cons_self (SlR.mono e3 s1) Try.call54 (fun Fs' G1 hle hm y0 r  hr => residue_Field_All_f1_c (G := G1) hm  (Rp.mono hle p5) hr) hu7) rfl (fun v10 bo so h9 => ?_)
  obtain ⟨rfl, rfl, rfl⟩ := h9
  refine Cov.same (bl' := []) (sl' := []) rfl rfl rfl ?_
  refine Cov.q .ro (.not rfl) rfl ?_
  refine Cov.q .ro (.assign rfl) rfl ?_
  refine Cov.region_end ?_
  cases r8
  refine Cov.retS (c := ⟨44, none⟩) (.inr ⟨_, rfl⟩) [.tmp 4] [_] rfl Try.func44 Try.results44 ⟨RV.tmp rfl, trivial⟩ (fun _ h => List.mem_cons_of_mem _ h) ⟨rfl, rfl, rfl⟩

set_option maxHeartbeats 4000000 in
set_option maxRecDepth 100000 in
theorem slices_Backward_Lintint_f1_i {Fs : List Hp} {G : Hp} {p1 : Value} {a1 : Option Addr} {k1 : Nat} {x1 : List Int} {l : (List (Int × Int))} (hG : G ∈ Fs) (hp1 : Rp G p1 [.slice a1 x1.length k1]) (s1 : SlR (Rep.int .i64) G a1 k1 x1) (h : slices_Backward_Lintint_f1 x1 = some l) : IterX Try.prog 57 [p1] Fs l.length (fun i v => ∃ x, l[i]? = some x ∧ (Yr.pair (Yr.v (Rep.int .i64)) (Yr.v (Rep.int .i64))).r G v x) := by
  unfold slices_Backward_Lintint_f1 at h
  try dsimp only at h
  intro y 𝒢 ℰ R0 hy hR0
  refine RetG.of (vs := [_, _]) Try.func57 rfl Try.ntmps57 [(0, _), (1, _)] ⟨rfl, rfl, trivial⟩ rfl fun w0 => Cov.dup hG ?_
  have B0 : Bd w0 (blks [] [.g R0]) Fs G := Bd.fin hG
  generalize hS0 : blks [] [.g R0] = S0 at B0 ⊢
  replace h : _ = some (List.drop 0 l) := h
  refine Cov.seq ?_
  refine Cov.region rfl ?_
  refine Cov.q .ro (.load_rp hp1 List.mem_cons_self rfl ty22 rfl) rfl ?_
  refine Cov.q .ro (.len_sl rfl rfl sl22) rfl ?_
  refine Cov.q .ro (.subw rfl rfl) rfl ?_
  refine Cov.q .ro (.assign rfl) rfl ?_
  refine Cov.region_end ?_
  refine Cov.block ?_
  refine Cov.loop2 (α := Nat × Guest × Nat × Int) (fun y => [(3, .int .i64 y.2.2.2)]) [(0, _), (1, _)] (fun y => []) (fun y => []) [] (fun y => [.g y.2.1]) [] (fun y => 𝒢 y.2.2.1 y.2.1 ∧ y.2.2.1 ≤ l.length ∧ slices_Backward_Lintint_f1_L1 x1 y.1 y.2.2.2 = some (List.drop y.2.2.1 l)) (fun y => y.1) (big, R0, 0, (w64 ((x1.length : Int) - 1))) ⟨hR0, (Nat.zero_le _), h⟩ ⟨rfl, rfl, rfl, trivial⟩ rfl rfl rfl (fun y hI hb25 => ?_)
  obtain ⟨n17, R19, i20, v23⟩ := y
  obtain ⟨hR21, le22, r24⟩ := hI
  try dsimp only at hR21 le22 r24
  refine Cov.prune [(3, .int .i64 v23), (0, _), (1, _)] ⟨rfl, rfl, rfl, trivial⟩ ?_
  refine Cov.same (bl' := []) (sl' := [.g R19]) (Fs' := G :: Fs) rfl rfl rfl ?_
  obtain ⟨m28, rfl⟩ : ∃ m, n17 = m + 1 := by cases n17 with | zero => exact absurd (show (none : Option _) = some _ from r24) (by simp) | succ m => exact ⟨m, rfl⟩
  have r27 : slices_Backward_Lintint_f1_B1 x1 (slices_Backward_Lintint_f1_L1 x1 m28) v23 = some (List.drop i20 l) := r24; clear r24; unfold slices_Backward_Lintint_f1_B1 at r27; try dsimp only at r27
  refine Cov.seq ?_
  refine Cov.seq ?_
  refine Cov.region rfl ?_
  refine Cov.q .ro (.move rfl) rfl ?_
  refine Cov.q .ro (.geq rfl rfl) rfl ?_
  refine Cov.region_end ?_
  refine Cov.cond_dec rfl (fun c29 => ?_) (fun c29 => ?_)
  · have r30 := ifT r27 c29; clear r27
    refine Cov.skip ?_
    refine Cov.seq ?_
    refine Cov.block ?_
    refine Cov.seq ?_
    refine Cov.region rfl ?_
    refine Cov.q .ro (.move rfl) rfl ?_
    refine Cov.q .ro (.move rfl) rfl ?_
    refine Cov.q .ro (.load_rp hp1 List.mem_cons_self rfl ty22 rfl) rfl ?_
    refine Cov.q .ro (.move rfl) rfl ?_
    obtain ⟨u31, hu31, r32⟩ := bind_some r30; clear r30
    obtain ⟨c33, p34, h35⟩ := SlR.get s1 hu31
    obtain rfl := h35
    refine Cov.q .ro (.idxR s1 rfl rfl hu31 sl22 ty3.sz) rfl ?_
    refine Cov.q .ro (.load_rp p34 List.mem_cons_self rfl ty3 rfl) rfl ?_
    obtain ⟨h36, r37⟩ := yc_some r32; clear r32
    refine Cov.yieldX hy ⟨_, h36, ⟨[_], _, rfl, ⟨_, rfl, ((Rep.intI .i64 v23) :)⟩, ⟨_, rfl, ((Rep.intI .i64 u31) :)⟩⟩⟩ hR21 (fun _ h => List.mem_cons_of_mem _ h) rfl rfl rfl (fun R38 hR39 => ?_) (fun R40 hE41 => ?_)
    · refine Cov.q .ro (.not_t rfl) rfl ?_
      refine Cov.region_end ?_
      refine Cov.cond_false rfl ?_
      refine Cov.skip ?_
      refine Cov.inBlock ?_
      refine Cov.region rfl ?_
      refine Cov.q .ro (.move rfl) rfl ?_
      refine Cov.q .ro (.subw rfl rfl) rfl ?_
      refine Cov.q .ro (.assign rfl) rfl ?_
      refine Cov.region_end ?_
      refine Cov.prune _ ?_ (Cov.same rfl rfl rfl (hb25 (m28, R38, (i20 + 1), (w64 (v23 - 1))) ⟨hR39, (yc_le h36), r37⟩ (Nat.lt_succ_self _)))
      exact ⟨rfl, rfl, rfl, trivial⟩
    · refine Cov.q .ro (.not_f rfl) rfl ?_
      refine Cov.region_end ?_
      refine Cov.cond_true rfl ?_
      refine Cov.leave (c := ⟨57, none⟩) (.inr ⟨_, rfl⟩) [] [] rfl Try.func57 Try.results57 trivial (fun _ h => List.mem_cons_of_mem _ h) (.inl rfl) (fresh_emp _) ⟨rfl, R40, .inr hE41, rfl⟩
  · have r42 := ifF r27 c29; clear r27
    refine Cov.exit rfl ?_
    have hi := yc_end r42 le22
    refine Cov.leave (c := ⟨57, none⟩) (.inl rfl) [] [] rfl Try.func57 Try.results57 trivial (fun _ h => List.mem_cons_of_mem _ h) (.inl rfl) (fresh_emp _) ⟨rfl, R19, .inl (hi ▸ hR21), rfl⟩

set_option maxHeartbeats 4000000 in
set_option maxRecDepth 100000 in
theorem slices_Backward_Lintint_c {Fs : List Hp} {G : Hp} {a0 : Option Addr} {k0 : Nat} {x0 : List Int} {r : (List (Int × Int))} (hG : G ∈ Fs) (s0 : SlR (Rep.int .i64) G a0 k0 x0) (h : slices_Backward_Lintint x0 = some r) : RetW Try.prog 46 #[.slice a0 x0.length k0] Fs [] [] (fun v bo so G => ∃ (Fi0 : FuncId) (ci0 : List Value), v = .func (.func Fi0) #[] ci0.toArray ∧ bo = [] ∧ so = [] ∧ (∀ args w, (callFunc Fi0 args).run Try.prog w = .ok (.enter Fi0 args) w) ∧ IterRX Try.prog (Yr.pair (Yr.v (Rep.int .i64)) (Yr.v (Rep.int .i64))) Fi0 ci0 G r) := by
  unfold slices_Backward_Lintint at h
  try dsimp only at h
  refine RetW.of (vs := [_]) Try.func46 rfl Try.ntmps46 [(0, _)] ⟨rfl, trivial⟩ rfl hG fun w0 S0 hS0 B0 => ?_
  refine Cov.seq ?_
  refine Cov.region rfl ?_
  refine Cov.box [_] .ro rfl rfl rfl (fun b1 hb1 => ?_)
  refine Cov.q .ro (.assign rfl) rfl ?_
  refine Cov.region_end ?_
  refine Cov.seq ?_
  refine Cov.region rfl ?_
  refine Cov.q .ro (.makeFunc (vf := []) (vc := [_]) rfl rfl) rfl ?_
  refine Cov.q .ro (.assign rfl) rfl ?_
  refine Cov.region_end ?_
  refine Cov.freezeBR 0 rfl [] rfl B0 (fun G2 e3 B4 p5 => ?_)
  obtain ⟨u7, hu7, r8⟩ := bind_some h; clear h
  cases r8
  refine Cov.retW (c := ⟨46, none⟩) (.inr ⟨_, rfl⟩) [.tmp 2] [_] rfl Try.func46 Try.results46 ⟨RV.tmp rfl, trivial⟩ (fun _ h => List.mem_cons_of_mem _ h) List.mem_cons_self B4 (by subst hS0; simp [blks]) (fun G' hg => ⟨_, _, rfl, rfl, rfl, Try.call57, (fun Fs' G1 hle hm => slices_Backward_Lintint_f1_i (G := G1) hm (Rp.mono (HpLe.trans hg hle) p5) (SlR.mono (HpLe.trans hg hle) (SlR.mono e3 s0)) hu7)⟩)

set_option maxHeartbeats 4000000 in
set_option maxRecDepth 100000 in
theorem layout_Decode_f1_c {Fs : List Hp} {G : Hp} {x0 : Int} {r : Bool} (hG : G ∈ Fs)  (h : layout_Decode_f1 x0 = some r) : RetS Try.prog 48 #[.int .i64 x0] Fs [] [] (fun v bo so => v = .bool r ∧ bo = [] ∧ so = []) := by
  unfold layout_Decode_f1 at h
  try dsimp only at h
  refine RetS.of (vs := [_]) Try.func48 rfl Try.ntmps48 [(0, _)] ⟨rfl, trivial⟩ rfl hG fun w0 S0 hS0 B0 => ?_
  refine Cov.seq ?_
  refine Cov.region rfl ?_
  refine Cov.q .ro (.assign rfl) rfl ?_
  refine Cov.region_end ?_
  refine Cov.seq ?_
  refine Cov.region rfl ?_
  refine Cov.q .ro (.move rfl) rfl ?_
  refine Cov.q .ro (.neq rfl rfl) rfl ?_
  refine Cov.q .ro (.assign rfl) rfl ?_
  refine Cov.region_end ?_
  cases h
  refine Cov.retS (c := ⟨48, none⟩) (.inr ⟨_, rfl⟩) [.tmp 2] [_] rfl Try.func48 Try.results48 ⟨RV.tmp rfl, trivial⟩ (fun _ h => List.mem_cons_of_mem _ h) ⟨rfl, rfl, rfl⟩

set_option maxHeartbeats 4000000 in
set_option maxRecDepth 100000 in
theorem layout_Decode_c {Fs : List Hp} {G : Hp} {x0_0 : Int} {x1 : Int} {x2 : Int} {a3 : Option Addr} {k3 : Nat} {x3 : List (List Int)} {r : (ByteArray × Int)} (hG : G ∈ Fs) (s3 : SlR (Rep.sl (Rep.int .i64)) G a3 k3 x3) (h : layout_Decode x0_0 x1 x2 x3 = some r) : RetS Try.prog 23 #[.agg #[.int .i64 x0_0], .int .i64 x1, .int .i64 x2, .slice a3 x3.length k3] Fs [] [] (fun v bo so => v = .tuple #[.string r.1, .int .i64 r.2] ∧ bo = [] ∧ so = []) := by
  unfold layout_Decode at h
  try dsimp only at h
  refine RetS.of (vs := [_, _, _, _]) Try.func23 rfl Try.ntmps23 [(0, _), (1, _), (2, _), (3, _)] ⟨rfl, rfl, rfl, rfl, trivial⟩ rfl hG fun w0 S0 hS0 B0 => ?_
  refine Cov.marks0 ?_
  refine Cov.seq ?_
  refine Cov.region rfl ?_
  refine Cov.box [_] .ro rfl rfl rfl (fun b1 hb1 => ?_)
  refine Cov.alloc .ro ty9 rfl (fun b2 hb2 => ?_)
  refine Cov.alloc .ro ty39 rfl (fun b3 hb3 => ?_)
  refine Cov.region_end ?_
  refine Cov.seq ?_
  refine Cov.region rfl ?_
  refine Cov.q .ro (.load_own_a 2 [_] rfl rfl ty24 rfl) rfl ?_
  obtain ⟨u4, hu4, r5⟩ := bind_some h; clear h
  refine Cov.callS (b1 := []) (b2 := [_, _, _]) (s1 := []) [_] [] .ro rfl rfl Try.call36 rfl rfl (residue_Of_c (G := G) List.mem_cons_self  hu4) rfl (fun v7 bo so h6 => ?_)
  obtain ⟨rfl, rfl, rfl⟩ := h6
  refine Cov.same (bl' := [_, _, _]) (sl' := [_]) rfl rfl rfl ?_
  refine Cov.q .ro (.move rfl) rfl ?_
  refine Cov.q .ro (.extract rfl rfl) rfl ?_
  refine Cov.q .ro (.extract rfl rfl) rfl ?_
  refine Cov.alloc .ro ty70 rfl (fun b8 hb8 => ?_)
  refine Cov.store 0 [_] [_, _, _, _] .ro rfl rfl rfl ty70 rfl rfl rfl rfl ?_
  refine Cov.q .ro (.assign rfl) rfl ?_
  refine Cov.region_end ?_
  refine Cov.seq ?_
  refine Cov.block ?_
  refine Cov.seq ?_
  refine Cov.region rfl ?_
  refine Cov.q .ro (.move rfl) rfl ?_
  refine Cov.q .ro (.not rfl) rfl ?_
  refine Cov.q .ro (.assign rfl) rfl ?_
  refine Cov.region_end ?_
  refine Cov.cond rfl (fun c9 => ?_) (fun c9 => ?_)
  · have r10 := ifT r5 c9; clear r5
    refine Cov.seq ?_
    refine Cov.region rfl ?_
    refine Cov.store 2 [_] [_, _, _, _] .ro rfl rfl rfl ty9 rfl rfl rfl rfl ?_
    refine Cov.store 1 [_] [_, _, _, _] .ro rfl rfl rfl ty39 rfl rfl rfl rfl ?_
    refine Cov.region_end ?_
    refine Cov.prune [(8, _), (9, _)] ⟨rfl, rfl, trivial⟩ ?_
    cases r10
    refine Cov.out (.inr ⟨_, rfl⟩) rfl (Cov.unmarkAll _ _ ?_)
    refine Cov.outSD 4 (c := ⟨23, none⟩) [.cell 8 9, .cell 9 39] [_, _] Try.func23 Try.results23 ⟨RV.cell 2 rfl rfl ty9 rfl, RV.cell 1 rfl rfl ty39 rfl, trivial⟩ (fun _ h => List.mem_cons_of_mem _ h) ⟨rfl, rfl, rfl⟩
  · have r11 := ifBF r5 c9; clear r5
    refine Cov.seq ?_
    refine Cov.region rfl ?_
    refine Cov.q .ro (.move rfl) rfl ?_
    obtain ⟨u12, hu12, r13⟩ := bind_some r11; clear r11
    refine Cov.callS (b1 := []) (b2 := [_, _, _, _]) (s1 := []) [_] [] .ro rfl rfl Try.call40 rfl rfl (layout_wide_c (G := G) List.mem_cons_self  hu12) rfl (fun v15 bo so h14 => ?_)
    obtain ⟨rfl, rfl, rfl⟩ := h14
    refine Cov.same (bl' := [_, _, _, _]) (sl' := [_]) rfl rfl rfl ?_
    refine Cov.q .ro (.not rfl) rfl ?_
    refine Cov.q .ro (.move rfl) rfl ?_
    refine Cov.cutR 3 (β := Unit) (fun y => [(36, .bool (decide (((!u12) = true) ∨ (x2 < 0))))]) [(1, _), (2, _), (3, _), (8, _), (9, _), (10, _)] (fun y => G :: Fs) (fun y => []) [_, _, _, _] (fun y => []) [_] (fun y => True) ⟨rfl, rfl, rfl, rfl, rfl, rfl, trivial⟩ [0, 1, 2, 3] rfl [0] rfl ?_ ?_
    · rintro _ _
      refine Cov.prune [(36, .bool (decide (((!u12) = true) ∨ (x2 < 0)))), (1, _), (2, _), (3, _), (8, _), (9, _), (10, _)] ⟨rfl, rfl, rfl, rfl, rfl, rfl, rfl, trivial⟩ ?_
      refine Cov.same (bl' := [_, _, _, _]) (sl' := [_]) (Fs' := G :: Fs) rfl rfl rfl ?_
      refine Cov.q .ro (.move rfl) rfl ?_
      refine Cov.cutR 3 (β := Unit) (fun y => [(40, .bool (decide ((((!u12) = true) ∨ (x2 < 0)) ∨ (1024 < x2))))]) [(1, _), (2, _), (3, _), (8, _), (9, _), (10, _)] (fun y => G :: Fs) (fun y => []) [_, _, _, _] (fun y => []) [_] (fun y => True) ⟨rfl, rfl, rfl, rfl, rfl, rfl, trivial⟩ [0, 1, 2, 3] rfl [0] rfl ?_ ?_
      · rintro _ _
        refine Cov.prune [(40, .bool (decide ((((!u12) = true) ∨ (x2 < 0)) ∨ (1024 < x2)))), (1, _), (2, _), (3, _), (8, _), (9, _), (10, _)] ⟨rfl, rfl, rfl, rfl, rfl, rfl, rfl, trivial⟩ ?_
        refine Cov.same (bl' := [_, _, _, _]) (sl' := [_]) (Fs' := G :: Fs) rfl rfl rfl ?_
        refine Cov.q .ro (.assign rfl) rfl ?_
        refine Cov.region_end ?_
        refine Cov.cond_dec rfl (fun c24 => ?_) (fun c24 => ?_)
        · have r25 := ifT r13 c24; clear r13
          refine Cov.seq ?_
          refine Cov.region rfl ?_
          refine Cov.store 2 [_] [_, _, _, _] .ro rfl rfl rfl ty9 rfl rfl rfl rfl ?_
          refine Cov.store 1 [_] [_, _, _, _] .ro rfl rfl rfl ty39 rfl rfl rfl rfl ?_
          refine Cov.region_end ?_
          cases r25
          refine Cov.out (.inr ⟨_, rfl⟩) rfl (Cov.unmarkAll _ _ ?_)
          refine Cov.outSD 4 (c := ⟨23, none⟩) [.cell 8 9, .cell 9 39] [_, _] Try.func23 Try.results23 ⟨RV.cell 2 rfl rfl ty9 rfl, RV.cell 1 rfl rfl ty39 rfl, trivial⟩ (fun _ h => List.mem_cons_of_mem _ h) ⟨rfl, rfl, rfl⟩
        · have r26 := ifF r13 c24; clear r13
          refine Cov.seq ?_
          refine Cov.region rfl ?_
          refine Cov.q .ro (.move rfl) rfl ?_
          refine Cov.q .ro (.len_sl rfl rfl sl26) rfl ?_
          refine Cov.q .ro (.load_own 0 rfl rfl ty70 rfl) rfl ?_
          refine Cov.q .ro (.move rfl) rfl ?_
          refine Cov.q .ro (.move rfl) rfl ?_
          obtain ⟨u27, hu27, r28⟩ := bind_some r26; clear r26
          refine Cov.callS (b1 := []) (b2 := [_, _, _, _]) (s1 := []) [_, _, _] [] .ro rfl rfl Try.call41 rfl rfl (layout_needed_c (G := G) List.mem_cons_self  hu27) rfl (fun v30 bo so h29 => ?_)
          obtain ⟨rfl, rfl, rfl⟩ := h29
          refine Cov.same (bl' := [_, _, _, _]) (sl' := [_]) rfl rfl rfl ?_
          refine Cov.q .ro (.neq rfl rfl) rfl ?_
          refine Cov.q .ro (.assign rfl) rfl ?_
          refine Cov.region_end ?_
          refine Cov.cond_dec rfl (fun c31 => ?_) (fun c31 => ?_)
          · have r32 := ifT r28 c31; clear r28
            refine Cov.seq ?_
            refine Cov.region rfl ?_
            refine Cov.store 2 [_] [_, _, _, _] .ro rfl rfl rfl ty9 rfl rfl rfl rfl ?_
            refine Cov.store 1 [_] [_, _, _, _] .ro rfl rfl rfl ty39 rfl rfl rfl rfl ?_
            refine Cov.region_end ?_
            refine Cov.prune [(8, _), (9, _)] ⟨rfl, rfl, trivial⟩ ?_
            cases r32
            refine Cov.out (.inr ⟨_, rfl⟩) rfl (Cov.unmarkAll _ _ ?_)
            refine Cov.outSD 4 (c := ⟨23, none⟩) [.cell 8 9, .cell 9 39] [_, _] Try.func23 Try.results23 ⟨RV.cell 2 rfl rfl ty9 rfl, RV.cell 1 rfl rfl ty39 rfl, trivial⟩ (fun _ h => List.mem_cons_of_mem _ h) ⟨rfl, rfl, rfl⟩
          · have r33 := ifF r28 c31; clear r28
            refine Cov.skip ?_
            refine Cov.inBlock ?_
            refine Cov.seq ?_
            refine Cov.region rfl ?_
            refine Cov.q .ro (.assign rfl) rfl ?_
            refine Cov.region_end ?_
            refine Cov.seq ?_
            refine Cov.seq ?_
            refine Cov.region rfl ?_
            refine Cov.q .ro (.move rfl) rfl ?_
            refine Cov.q .ro (.len_sl rfl rfl sl26) rfl ?_
            refine Cov.q .ro (.move rfl) rfl ?_
            refine Cov.region_end ?_
            refine Cov.cutBD (β := List Int × Option Addr × Nat × List Value × Int × Int × ByteArray × Int) (fun y => mks mk0.1) (fun y => [(12, .slice y.2.1 y.1.length y.2.2.1)]) [(2, _), (8, _), (9, _), (10, _)] (fun y => G :: Fs) (fun y => [(b8, .cells #[.int .i64 y.2.2.2.2.1] 70 (0, 0)), (b3, .cells #[.int .i64 y.2.2.2.2.2.1] 39 (0, 0)), (b2, .cells #[.string y.2.2.2.2.2.2.1] 9 (0, 0)), (b1, .cells #[.int .i64 y.2.2.2.2.2.2.2] 24 (0, 0))]) [] (fun y => [.s (.slice y.2.1 y.1.length y.2.2.1) 3 1 y.1.length y.2.2.2.1]) [_] (fun y => OL (Rep.int .i64) G y.2.2.2.1 y.1 ∧ (layout_Decode_J5 x2) y.1 y.2.2.2.2.1 y.2.2.2.2.2.1 y.2.2.2.2.2.2.1 y.2.2.2.2.2.2.2 = some r) ⟨rfl, rfl, rfl, rfl, trivial⟩ [] rfl [0] rfl ?_ ?_
            · intro y hI
              obtain ⟨v180, a181, k182, cs183, v186, v187, v188, v189⟩ := y
              obtain ⟨o184, r191⟩ := hI
              try dsimp only at o184 r191
              refine Cov.prune [(12, .slice a181 v180.length k182), (2, _), (8, _), (9, _), (10, _)] ⟨rfl, rfl, rfl, rfl, rfl, trivial⟩ ?_
              refine Cov.same (bl' := [(b8, .cells #[.int .i64 v186] 70 (0, 0)), (b3, .cells #[.int .i64 v187] 39 (0, 0)), (b2, .cells #[.string v188] 9 (0, 0)), (b1, .cells #[.int .i64 v189] 24 (0, 0))]) (sl' := [.s (.slice a181 v180.length k182) 3 1 v180.length cs183, _]) (Fs' := G :: Fs) rfl rfl rfl ?_
              unfold layout_Decode_J5 at r191
              try dsimp only at r191
              refine Cov.seq ?_
              refine Cov.region rfl ?_
              refine Cov.q .ro (.load_own 0 rfl rfl ty70 rfl) rfl ?_
              obtain ⟨u193, hu193, r194⟩ := bind_some r191; clear r191
              refine Cov.callS (b1 := []) (b2 := [_, _, _, _]) (s1 := []) [_] [] .ro rfl rfl Try.call37 rfl rfl (layout_digits_c (G := G) List.mem_cons_self  hu193) rfl (fun v196 bo so h195 => ?_)
              obtain ⟨rfl, rfl, rfl⟩ := h195
              refine Cov.same (bl' := [_, _, _, _]) (sl' := [_, _]) rfl rfl rfl ?_
              refine Cov.q .ro (.assign rfl) rfl ?_
              refine Cov.region_end ?_
              refine Cov.seq ?_
              refine Cov.region rfl ?_
              refine Cov.alloc .ro ty61 rfl (fun b197 hb197 => ?_)
              refine Cov.region_end ?_
              refine Cov.seq ?_
              refine Cov.seq ?_
              refine Cov.region rfl ?_
              refine Cov.q .ro (.move rfl) rfl ?_
              refine Cov.q .ro (.move rfl) rfl ?_
              refine Cov.q .ro (.move rfl) rfl ?_
              refine Cov.q .ro (.mulw rfl rfl) rfl ?_
              refine Cov.freezeR 0 rfl rfl o184 [_] rfl B0 (fun G198 e199 B200 s201 => ?_)
              obtain ⟨u203, hu203, r204⟩ := bind_some r194; clear r194
              obtain ⟨a205, k206, h207, s208⟩ := SlR.sub s201 hu203
              refine Cov.q .ro (.sliceR s201 rfl hu203 sl22 ty3.sz (fun _ => .no) (fun h => .yes' rfl h) h207) rfl ?_
              refine Cov.q .ro (.move rfl) rfl ?_
              obtain ⟨u209, hu209, r210⟩ := bind_some r204; clear r204
              refine Cov.callW (b1 := []) (b2 := [_, _, _, _, _]) (s1 := []) [_, _] [] .ro rfl rfl Try.call45 rfl rfl (slices_Chunk_Lintint_c (G := G198) List.mem_cons_self s208 hu209) rfl B200 (fun v212 bo so G213 e214 B215 h211 => ?_)
              obtain ⟨F217, c218, rfl, rfl, rfl, hc219, hi220⟩ := h211
              refine Cov.same (bl' := [_, _, _, _, _]) (sl' := [_]) rfl rfl rfl ?_
              refine Cov.region_end ?_
              refine Cov.cutBD (β := Hp × MK × List Int × Option Addr × Nat × List Value) (fun y => mks y.2.1.1) (fun y => []) [(12, _), (2, _), (8, _), (9, _), (15, _), (16, _)] (fun y => y.1 :: Fs) (fun y => [(b197, .cells #[.slice y.2.2.2.1 y.2.2.1.length y.2.2.2.2.1] 61 (0, 0))]) [_, _, _, _] (fun y => [.g (marksG y.2.1), .s (.slice y.2.2.2.1 y.2.2.1.length y.2.2.2.2.1) 5 1 y.2.2.1.length y.2.2.2.2.2]) [] (fun y => HpLe G213 y.1 ∧ Bd w0 S0 Fs y.1 ∧ OL (Rep.int .u8) y.1 y.2.2.2.2.2 y.2.2.1 ∧ (layout_Decode_J1 v180 x2 u193) y.2.2.1 = some r) ⟨rfl, rfl, rfl, rfl, rfl, rfl, trivial⟩ [1, 2, 3, 4] rfl [] rfl ?_ ?_
              · intro y hI
                obtain ⟨G635, mk639, v640, a641, k642, cs643⟩ := y
                obtain ⟨e636, B637, o644, r647⟩ := hI
                try dsimp only at e636 B637 o644 r647
                refine Cov.prune [(12, _), (2, _), (8, _), (9, _), (15, _), (16, _)] ⟨rfl, rfl, rfl, rfl, rfl, rfl, trivial⟩ ?_
                refine Cov.same (bl' := [(b197, .cells #[.slice a641 v640.length k642] 61 (0, 0)), _, _, _, _]) (sl' := [.g (marksG mk639), .s (.slice a641 v640.length k642) 5 1 v640.length cs643]) (Fs' := G635 :: Fs) rfl rfl rfl ?_
                unfold layout_Decode_J1 at r647
                try dsimp only at r647
                refine Cov.seq ?_
                refine Cov.seq ?_
                refine Cov.region rfl ?_
                refine Cov.q .ro (.move rfl) rfl ?_
                refine Cov.q .ro (.move rfl) rfl ?_
                refine Cov.q .ro (.move rfl) rfl ?_
                refine Cov.q .ro (.mulw rfl rfl) rfl ?_
                obtain ⟨u655, hu655, r656⟩ := bind_some r647; clear r647
                obtain ⟨a657, k658, h659, s660⟩ := SlR.sub (SlR.mono (HpLe.trans e214 e636) s201) hu655
                refine Cov.q .ro (.sliceR (SlR.mono (HpLe.trans e214 e636) s201) rfl hu655 sl22 ty3.sz (fun h => .yes' rfl h) (fun _ => .no) h659) rfl ?_
                obtain ⟨u661, hu661, r662⟩ := bind_some r656; clear r656
                refine Cov.callS (b1 := []) (b2 := [_, _, _, _, _]) (s1 := []) [_, _] [] .ro rfl rfl Try.call47 rfl rfl (slices_ContainsFunc_Lintint_c (G := G635) List.mem_cons_self s660 Try.call48 (fun Fs' G1 hle hm y0 r  hr => layout_Decode_f1_c (G := G1) hm   hr) hu661) rfl (fun v664 bo so h663 => ?_)
                obtain ⟨rfl, rfl, rfl⟩ := h663
                refine Cov.same (bl' := [_, _, _, _, _]) (sl' := [_, _]) rfl rfl rfl ?_
                refine Cov.region_end ?_
                refine Cov.cond rfl (fun c665 => ?_) (fun c665 => ?_)
                · have r666 := ifT r662 c665; clear r662
                  refine Cov.seq ?_
                  refine Cov.region rfl ?_
                  refine Cov.store 3 [_] [_, _, _, _, _] .ro rfl rfl rfl ty9 rfl rfl rfl rfl ?_
                  refine Cov.store 2 [_] [_, _, _, _, _] .ro rfl rfl rfl ty39 rfl rfl rfl rfl ?_
                  refine Cov.region_end ?_
                  cases r666
                  refine Cov.pullS 1 rfl [_, _] rfl ?_
                  refine Cov.drop 0 1 _ [_] rfl rfl ?_
                  refine Cov.out (.inr ⟨_, rfl⟩) rfl (Cov.unmarkAll _ _ ?_)
                  refine Cov.outSD 5 (c := ⟨23, none⟩) [.cell 8 9, .cell 9 39] [_, _] Try.func23 Try.results23 ⟨RV.cell 3 rfl rfl ty9 rfl, RV.cell 2 rfl rfl ty39 rfl, trivial⟩ (fun _ h => List.mem_cons_of_mem _ h) ⟨rfl, rfl, rfl⟩
                · have r667 := ifBF r662 c665; clear r662
                  refine Cov.skip ?_
                  refine Cov.seq ?_
                  refine Cov.region rfl ?_
                  refine Cov.q .ro (.load_own 0 rfl rfl ty61 rfl) rfl ?_
                  refine Cov.freezeR 1 rfl rfl o644 [_] rfl B637 (fun G668 e669 B670 s671 => ?_)
                  refine Cov.q .ro (.b2s s671 List.mem_cons_self rfl Try.underlying61 Try.underlying5 Try.underlying9) rfl ?_
                  refine Cov.store 3 [_] [_, _, _, _, _] .ro rfl rfl rfl ty9 rfl rfl rfl rfl ?_
                  refine Cov.store 2 [_] [_, _, _, _, _] .ro rfl rfl rfl ty39 rfl rfl rfl rfl ?_
                  refine Cov.region_end ?_
                  cases r667
                  refine Cov.out (.inr ⟨_, rfl⟩) rfl (Cov.unmarkAll _ _ ?_)
                  refine Cov.outSD 5 (c := ⟨23, none⟩) [.cell 8 9, .cell 9 39] [_, _] Try.func23 Try.results23 ⟨RV.cell 3 rfl rfl ty9 rfl, RV.cell 2 rfl rfl ty39 rfl, trivial⟩ (fun _ h => List.mem_cons_of_mem _ h) ⟨rfl, rfl, rfl⟩
              · intro hb673
                refine Cov.block ?_
                refine Cov.own_nil 5 1 ?_
                refine Cov.pull 3 rfl [_, _, _, _, _] rfl ?_
                refine Cov.pull 3 rfl [_, _, _, _, _] rfl ?_
                refine Cov.pull 3 rfl [_, _, _, _, _] rfl ?_
                refine Cov.pull 3 rfl [_, _, _, _, _] rfl ?_
                refine Cov.emp ?_
                refine Cov.rangeX (α := List Int × Option Addr × Nat × List Value × Hp) (β := List Int × Option Addr × Nat × List Value × Int × ByteArray × Hp) (fun y => [y.2.2.2.2]) (fun y => [(b197, .cells #[.slice y.2.1 y.1.length y.2.2.1] 61 (0, 0)), (b8, .cells #[.int .i64 v186] 70 (0, 0)), (b3, .cells #[.int .i64 v187] 39 (0, 0)), (b2, .cells #[.string v188] 9 (0, 0))]) (fun y => [.s (.slice y.2.1 y.1.length y.2.2.1) 5 1 y.1.length y.2.2.2.1]) (fun y => [y.2.2.2.2.2.2]) (fun y => [(b197, .cells #[.slice y.2.1 y.1.length y.2.2.1] 61 (0, 0)), (b8, .cells #[.int .i64 v186] 70 (0, 0)), (b3, .cells #[.int .i64 y.2.2.2.2.1] 39 (0, 0)), (b2, .cells #[.string y.2.2.2.2.2.1] 9 (0, 0))]) (fun y => [.s (.slice y.2.1 y.1.length y.2.2.1) 5 1 y.1.length y.2.2.2.1]) (fun _ => .ret) (fun i y => (∀ G', HpLe G213 G' → HpLe y.2.2.2.2 G' → OL (Rep.int .u8) G' y.2.2.2.1 y.1) ∧ layout_Decode_L4 (layout_Decode_J1 v180 x2 u193) v186 (List.drop i u209) y.1 = some r) (fun y => (∀ G', HpLe G213 G' → HpLe y.2.2.2.2.2.2 G' → OL (Rep.int .u8) G' y.2.2.2.1 y.1) ∧ some (y.2.2.2.2.2.1, y.2.2.2.2.1) = some r) (([] : List Int), none, 0, [], empHp)  c218 rfl rfl hc219 rfl (fun G hG b => by rw [List.mem_singleton.1 hG]; rfl) rfl rfl (hi220 _ G213 (HpLe.refl _) List.mem_cons_self) (fun _ _ hv => by obtain ⟨_, _, hv⟩ := hv; exact (Yr.len _ hv).trans rfl) (by kernel_rfl) ⟨(fun G' h1 _ => OL.mono h1 (OL.nil (Rp' := (Rep.int .u8)))), r210⟩ ?_ ?_ ?_
                · intro l938 tm939 D940 i941 y v942 hV943 hI w945 S946 hw947
                  obtain ⟨v920, a921, k922, cs923, G937⟩ := y
                  obtain ⟨o924, r927⟩ := hI
                  try dsimp only at o924 r927
                  obtain ⟨x948, h949, h950⟩ := hV943
                  refine Cov.union (Fin := (G937 :: G213 :: Fs)) bd_fin (fun G951 e952 B953 => ?_)
                  have e954 : HpLe G213 G951 := ext_le e952 (List.mem_cons_of_mem _ List.mem_cons_self)
                  have e955 : HpLe G937 G951 := ext_le e952 List.mem_cons_self
                  replace o924 := o924 G951 e954 e955
                  obtain ⟨v960, rfl, h961⟩ := h950
                  obtain ⟨a957, k958, h962, s959⟩ := h961
                  obtain ⟨rfl, _⟩ := List.cons.inj h962
                  rw [drop_cons h949] at r927
                  have r963 : layout_Decode_B4 (layout_Decode_J1 v180 x2 u193) v186 (layout_Decode_L4 (layout_Decode_J1 v180 x2 u193) v186 (List.drop (i941 + 1) u209)) x948 v920 = some r := r927; clear r927; unfold layout_Decode_B4 at r963; try dsimp only at r963
                  refine Cov.prune [(78, .slice a957 x948.length k958), (8, _), (9, _), (10, _), (16, _)] ⟨rfl, rfl, rfl, rfl, rfl, trivial⟩ ?_
                  refine Cov.same (bl' := [(b197, .cells #[.slice a921 v920.length k922] 61 (0, 0)), (b8, .cells #[.int .i64 v186] 70 (0, 0)), (b3, .cells #[.int .i64 v187] 39 (0, 0)), (b2, .cells #[.string v188] 9 (0, 0)), _]) (sl' := [.s (.slice a921 v920.length k922) 5 1 v920.length cs923]) (Fs' := G951 :: (G937 :: G213 :: Fs)) rfl rfl rfl ?_
                  refine Cov.region rfl ?_
                  refine Cov.q .ro (.assign rfl) rfl ?_
                  refine Cov.region_end ?_
                  refine Cov.beginRound 4 rfl rfl [_, _, _, _, _] rfl ?_
                  refine Cov.block ?_
                  refine Cov.seq ?_
                  refine Cov.region rfl ?_
                  refine Cov.alloc .ro ty3 rfl (fun b964 hb964 => ?_)
                  refine Cov.store 0 [_] [_, _, _, _, _, _] .ro rfl rfl rfl ty3 rfl rfl rfl rfl ?_
                  refine Cov.region_end ?_
                  refine Cov.seq ?_
                  refine Cov.seq ?_
                  refine Cov.region rfl ?_
                  refine Cov.q .ro (.move rfl) rfl ?_
                  obtain ⟨u965, hu965, r966⟩ := bind_some r963; clear r963
                  refine Cov.callW (b1 := []) (b2 := [_, _, _, _, _, _]) (s1 := []) [_] [] .ro rfl rfl Try.call46 rfl rfl (slices_Backward_Lintint_c (G := G951) List.mem_cons_self (SlR.mono e954 s959) hu965) rfl B953 (fun v968 bo so G969 e970 B971 h967 => ?_)
                  obtain ⟨F973, c974, rfl, rfl, rfl, hc975, hi976⟩ := h967
                  refine Cov.same (bl' := [_, _, _, _, _, _]) (sl' := [_]) rfl rfl rfl ?_
                  refine Cov.region_end ?_
                  refine Cov.cutB (β := Int) (fun y => []) [(8, _), (9, _), (16, _), (18, _)] (fun y => G969 :: (G937 :: G213 :: Fs)) (fun y => [(b964, .cells #[.int .i64 y] 3 (0, 0))]) [_, _, _, _, _] (fun y => []) [_] (fun y => (layout_Decode_J2 (layout_Decode_L4 (layout_Decode_J1 v180 x2 u193) v186 (List.drop (i941 + 1) u209)) v920) y = some r) ⟨rfl, rfl, rfl, rfl, trivial⟩ [1, 2, 3, 4, 5] rfl [0] rfl ?_ ?_
                  · intro v1014 hI
                    have r1016 := hI; clear hI
                    refine Cov.prune [(8, _), (9, _), (16, _), (18, _)] ⟨rfl, rfl, rfl, rfl, trivial⟩ ?_
                    refine Cov.same (bl' := [(b964, .cells #[.int .i64 v1014] 3 (0, 0)), _, _, _, _, _]) (sl' := [_]) (Fs' := G969 :: (G937 :: G213 :: Fs)) rfl rfl rfl ?_
                    unfold layout_Decode_J2 at r1016
                    try dsimp only at r1016
                    refine Cov.seq ?_
                    refine Cov.seq ?_
                    refine Cov.region rfl ?_
                    refine Cov.q .ro (.load_own 0 rfl rfl ty3 rfl) rfl ?_
                    refine Cov.q .ro (.gtr rfl rfl) rfl ?_
                    refine Cov.region_end ?_
                    refine Cov.cond_dec rfl (fun c1021 => ?_) (fun c1021 => ?_)
                    · have r1022 := ifT r1016 c1021; clear r1016
                      refine Cov.seq ?_
                      refine Cov.region rfl ?_
                      refine Cov.store 4 [_] [_, _, _, _, _, _] .ro rfl rfl rfl ty9 rfl rfl rfl rfl ?_
                      refine Cov.store 3 [_] [_, _, _, _, _, _] .ro rfl rfl rfl ty39 rfl rfl rfl rfl ?_
                      refine Cov.region_end ?_
                      refine Cov.drop 1 0 [_, _, _, _, _] _ rfl rfl ?_
                      refine Cov.round_ret (v920, a921, k922, cs923, 2, ByteArray.empty, G969) 4 rfl rfl ⟨(fun G' _ h2 => OL.mono h2 (OL.mono e970 o924)), r1022⟩ rfl rfl rfl (fun F hF => by rcases List.mem_cons.1 hF with rfl | hF; exact List.mem_cons_self; exact List.mem_cons_of_mem _ (List.mem_cons_of_mem _ hF)) (fun F hF => by rw [List.mem_singleton.1 hF]; exact B971)
                    · have r1023 := ifF r1016 c1021; clear r1016
                      refine Cov.skip ?_
                      refine Cov.region rfl ?_
                      refine Cov.q .ro (.load_own 1 rfl rfl ty61 rfl) rfl ?_
                      refine Cov.q .ro (.load_own 0 rfl rfl ty3 rfl) rfl ?_
                      refine Cov.q .ro (.convw Try.underlying3 Try.underlying5 rfl) rfl ?_
                      refine Cov.lit [_] [(0, _)] .ro sl61 ty5 rfl rfl rfl rfl rfl rfl (fun b1024 hb1024 => ?_)
                      have o1025 : OL (Rep.int .u8) G969 [.int .u8 (wu8 v1014)] ([(wu8 v1014)] : List Int) := ((OL.cons rfl (Rep.intI .u8 (wu8 v1014)) (OL.nil (Rp' := (Rep.int .u8)))) :)
                      refine Cov.reval 93 (n' := ([(wu8 v1014)] : List Int).length) rfl rfl ?_
                      obtain ⟨u1031, hu1031, r1032⟩ := bind_some r1023; clear r1023
                      refine Cov.appO (Q := (Rep.int .u8)) 0 .ro sl61 ty5 rfl rfl rfl rfl rfl rfl (OL.mono e970 o924) o1025 rfl rfl rfl B971 hu1031 rfl (fun a1027 k1028 cs1029 o1030 => ?_)
                      refine Cov.store 1 [_] [_, _, _, _, _, _] .ro rfl rfl rfl ty61 rfl rfl rfl rfl ?_
                      refine Cov.region_end ?_
                      refine Cov.inBlock ?_
                      refine Cov.drop 1 0 [_, _, _, _, _] _ rfl rfl ?_
                      refine Cov.round_endX (u1031, a1027, k1028, cs1029, G969) 4 rfl rfl ⟨(fun G' _ h2 => OL.mono h2 o1030), r1032⟩ rfl rfl (fun F hF => by rcases List.mem_cons.1 hF with rfl | hF; exact List.mem_cons_self; exact List.mem_cons_of_mem _ (List.mem_cons_of_mem _ hF)) (fun F hF => by rw [List.mem_singleton.1 hF]; exact B971)
                  · intro hb1034
                    refine Cov.block ?_
                    refine Cov.pull 2 rfl [_, _, _, _, _, _] rfl ?_
                    refine Cov.pull 1 rfl [_, _, _, _, _, _] rfl ?_
                    refine Cov.rangeN (α := Int) (β := Unit) (fun y => []) (fun y => [(b964, .cells #[.int .i64 y] 3 (0, 0)), (b8, .cells #[.int .i64 v186] 70 (0, 0))]) (fun y => []) (fun _ => []) (fun _ => []) (fun _ => []) (fun _ => .skip) (fun i y => layout_Decode_L3 (layout_Decode_J2 (layout_Decode_L4 (layout_Decode_J1 v180 x2 u193) v186 (List.drop (i941 + 1) u209)) v920) v186 (List.drop i u965) y = some r) (fun _ => False) (0) 5 c974 rfl rfl rfl hc975 rfl (by simp) rfl rfl (hi976 _ G969 (HpLe.refl _) List.mem_cons_self) (fun _ _ hv => by obtain ⟨_, _, hv⟩ := hv; exact (Yr.len _ hv).trans rfl) (by kernel_rfl) r966 ?_ ?_ (fun _ h => h.elim)
                    · intro l1048 tm1049 D1050 i1051 v1045 v1052 hV1053 hI w1055 S1056 hw1057
                      have r1047 := hI; clear hI
                      obtain ⟨x1058, h1059, h1060⟩ := hV1053
                      refine Cov.dup (G := G969) List.mem_cons_self ?_
                      obtain ⟨_, _, rfl, h1061, h1062⟩ := h1060
                      obtain ⟨v1063, rfl, h1064⟩ := h1061
                      obtain ⟨rfl, _⟩ := List.cons.inj h1064
                      obtain ⟨v1066, rfl, h1067⟩ := h1062
                      obtain ⟨rfl, _⟩ := List.cons.inj h1067
                      rw [drop_cons h1059] at r1047
                      have r1069 : layout_Decode_B3 (layout_Decode_J2 (layout_Decode_L4 (layout_Decode_J1 v180 x2 u193) v186 (List.drop (i941 + 1) u209)) v920) v186 (layout_Decode_L3 (layout_Decode_J2 (layout_Decode_L4 (layout_Decode_J1 v180 x2 u193) v186 (List.drop (i941 + 1) u209)) v920) v186 (List.drop (i1051 + 1) u965)) x1058 v1045 = some r := r1047; clear r1047; unfold layout_Decode_B3 at r1069; try dsimp only at r1069
                      refine Cov.prune [(81, .int .i64 x1058.1), (82, .int .i64 x1058.2), (10, _), (18, _)] ⟨rfl, rfl, rfl, rfl, trivial⟩ ?_
                      refine Cov.same (bl' := [(b964, .cells #[.int .i64 v1045] 3 (0, 0)), (b8, .cells #[.int .i64 v186] 70 (0, 0)), _]) (sl' := []) (Fs' := G969 :: (G969 :: (G937 :: G213 :: Fs))) rfl rfl rfl ?_
                      refine Cov.region rfl ?_
                      refine Cov.q .ro (.assign rfl) rfl ?_
                      refine Cov.region_end ?_
                      refine Cov.beginRound 2 rfl rfl [_, _, _] rfl ?_
                      refine Cov.block ?_
                      refine Cov.region rfl ?_
                      refine Cov.q .ro (.load_own 0 rfl rfl ty3 rfl) rfl ?_
                      refine Cov.q .ro (.load_own 1 rfl rfl ty70 rfl) rfl ?_
                      refine Cov.q .ro (.mulw rfl rfl) rfl ?_
                      refine Cov.q .ro (.move rfl) rfl ?_
                      refine Cov.q .ro (.addw rfl rfl) rfl ?_
                      refine Cov.store 0 [_] [_, _, _] .ro rfl rfl rfl ty3 rfl rfl rfl rfl ?_
                      refine Cov.region_end ?_
                      refine Cov.inBlock ?_
                      refine Cov.round_endX ((w64 ((w64 (v1045 * v186)) + x1058.2))) 2 rfl rfl r1069 rfl rfl (fun F hF => List.mem_cons_of_mem _ hF) (by simp)
                    · intro v1045 hI hb1071
                      have r1047 := hI; clear hI
                      refine Cov.prune [(8, _), (9, _), (16, _), (18, _)] ⟨rfl, rfl, rfl, rfl, trivial⟩ ?_
                      refine Cov.same (bl' := [(b964, .cells #[.int .i64 v1045] 3 (0, 0)), (b8, .cells #[.int .i64 v186] 70 (0, 0)), _, _, _, _]) (sl' := [_]) (Fs' := G969 :: (G937 :: G213 :: Fs)) rfl rfl rfl ?_
                      rw [List.drop_length] at r1047; rw [layout_Decode_L3] at r1047; try dsimp only at r1047
                      refine Cov.inBlock ?_
                      refine Cov.pull 5 rfl [_, _, _, _, _, _] rfl ?_
                      refine Cov.pull 5 rfl [_, _, _, _, _, _] rfl ?_
                      refine Cov.pull 5 rfl [_, _, _, _, _, _] rfl ?_
                      refine Cov.pull 4 rfl [_, _, _, _, _, _] rfl ?_
                      refine Cov.pull 5 rfl [_, _, _, _, _, _] rfl ?_
                      refine Cov.pull 5 rfl [_, _, _, _, _, _] rfl ?_
                      refine Cov.prune _ ?_ (Cov.same rfl rfl rfl (hb1034 (v1045) r1047))
                      exact ⟨rfl, rfl, rfl, rfl, trivial⟩
                · intro q1072 y hI hb1073
                  obtain ⟨v920, a921, k922, cs923, G937⟩ := y
                  obtain ⟨o924, r927⟩ := hI
                  try dsimp only at o924 r927
                  refine Cov.union (Fin := Fs) (bd_cons (Bd.trans (hb1073 _ List.mem_cons_self) B215) (bd_cons B215 bd_fin)) (fun G1074 e1075 B1076 => ?_)
                  have e1077 : HpLe G213 G1074 := ext_le e1075 (List.mem_cons_of_mem _ List.mem_cons_self)
                  have e1078 : HpLe G937 G1074 := ext_le e1075 List.mem_cons_self
                  replace o924 := o924 G1074 e1077 e1078
                  refine Cov.less (G1074 :: Fs) (fun F hF => by rcases List.mem_cons.1 hF with rfl | hF; exact List.mem_cons_self; exact List.mem_cons_of_mem _ (List.mem_cons_of_mem _ (List.mem_cons_of_mem _ hF))) ?_
                  refine Cov.prune [(12, _), (2, _), (8, _), (9, _), (15, _), (16, _)] ⟨rfl, rfl, rfl, rfl, rfl, rfl, trivial⟩ ?_
                  refine Cov.same (bl' := [(b197, .cells #[.slice a921 v920.length k922] 61 (0, 0)), (b8, .cells #[.int .i64 v186] 70 (0, 0)), (b3, .cells #[.int .i64 v187] 39 (0, 0)), (b2, .cells #[.string v188] 9 (0, 0)), _, _]) (sl' := [.s (.slice a921 v920.length k922) 5 1 v920.length cs923, _]) (Fs' := G1074 :: Fs) rfl rfl rfl ?_
                  refine Cov.pullS 1 rfl [_, _] rfl ?_
                  refine Cov.mkmerge 4 rfl [_, _, _, _, _] rfl (fun mk1080 => ?_)
                  rw [List.drop_length] at r927; rw [layout_Decode_L4] at r927; try dsimp only at r927
                  refine Cov.inBlock ?_
                  refine Cov.prune _ ?_ (Cov.same rfl rfl rfl (hb673 (G1074, mk1080, v920, a921, k922, cs923) ⟨e1077, B1076, o924, r927⟩))
                  exact ⟨rfl, rfl, rfl, rfl, rfl, rfl, trivial⟩
                · intro q1072 y hI hb1073
                  obtain ⟨x928, a929, k930, cs931, x934, x935, G936⟩ := y
                  obtain ⟨o932, r927⟩ := hI
                  try dsimp only at o932 r927
                  refine Cov.union (Fin := Fs) (bd_cons (Bd.trans (hb1073 _ List.mem_cons_self) B215) (bd_cons B215 bd_fin)) (fun G1081 e1082 B1083 => ?_)
                  have e1084 : HpLe G213 G1081 := ext_le e1082 (List.mem_cons_of_mem _ List.mem_cons_self)
                  have e1085 : HpLe G936 G1081 := ext_le e1082 List.mem_cons_self
                  replace o932 := o932 G1081 e1084 e1085
                  refine Cov.less (G1081 :: Fs) (fun F hF => by rcases List.mem_cons.1 hF with rfl | hF; exact List.mem_cons_self; exact List.mem_cons_of_mem _ (List.mem_cons_of_mem _ (List.mem_cons_of_mem _ hF))) ?_
                  refine Cov.prune [(8, _), (9, _)] ⟨rfl, rfl, trivial⟩ ?_
                  refine Cov.same (bl' := [(b197, .cells #[.slice a929 x928.length k930] 61 (0, 0)), (b8, .cells #[.int .i64 v186] 70 (0, 0)), (b3, .cells #[.int .i64 x934] 39 (0, 0)), (b2, .cells #[.string x935] 9 (0, 0)), _, _]) (sl' := [.s (.slice a929 x928.length k930) 5 1 x928.length cs931, _]) (Fs' := G1081 :: Fs) rfl rfl rfl ?_
                  refine Cov.pullS 1 rfl [_, _] rfl ?_
                  refine Cov.mkmerge 4 rfl [_, _, _, _, _] rfl (fun mk1087 => ?_)
                  cases r927
                  refine Cov.pullS 1 rfl [_, _] rfl ?_
                  refine Cov.drop 0 1 _ [_] rfl rfl ?_
                  refine Cov.out (.inr ⟨_, rfl⟩) rfl (Cov.unmarkAll _ _ ?_)
                  refine Cov.outSD 5 (c := ⟨23, none⟩) [.cell 8 9, .cell 9 39] [_, _] Try.func23 Try.results23 ⟨RV.cell 3 rfl rfl ty9 rfl, RV.cell 2 rfl rfl ty39 rfl, trivial⟩ (fun _ h => List.mem_cons_of_mem _ h) ⟨rfl, rfl, rfl⟩
            · intro hb1088
              refine Cov.block ?_
              refine Cov.own_nil 3 1 ?_
              refine Cov.loopD (β := Nat × List (List Int) × List Int × Option Addr × Nat × List Value) (fun y => mks mk0.1) (fun y => [(12, .slice y.2.2.2.1 y.2.2.1.length y.2.2.2.2.1), (51, .int .i64 (y.1 : Int))]) [(1, _), (2, _), (8, _), (9, _), (10, _), (49, _), (50, _)] (fun y => []) (fun y => []) [_, _, _, _] (fun y => [.s (.slice y.2.2.2.1 y.2.2.1.length y.2.2.2.2.1) 3 1 y.2.2.1.length y.2.2.2.2.2]) [_] (fun y => OL (Rep.int .i64) G y.2.2.2.2.2 y.2.2.1 ∧ List.drop y.1 x3 = y.2.1 ∧ layout_Decode_L6 (layout_Decode_J5 x2) x1 u4.1 x0_0 y.2.1 y.2.2.1 = some r) (fun y => y.2.1.length) (0, x3, ([] : List Int), none, 0, []) ⟨(OL.nil (Rp' := (Rep.int .i64))), rfl, r33⟩ rfl ⟨rfl, rfl, rfl, rfl, rfl, rfl, rfl, rfl, rfl, trivial⟩ rfl rfl rfl (fun y hI hb1193 => ?_)
              obtain ⟨i1183, w1184, v1186, a1187, k1188, cs1189⟩ := y
              obtain ⟨o1190, g1185, r1192⟩ := hI
              try dsimp only at o1190 g1185 r1192
              refine Cov.prune [(12, .slice a1187 v1186.length k1188), (51, .int .i64 (i1183 : Int)), (1, _), (2, _), (8, _), (9, _), (10, _), (49, _), (50, _)] ⟨rfl, rfl, rfl, rfl, rfl, rfl, rfl, rfl, rfl, trivial⟩ ?_
              refine Cov.same (bl' := [_, _, _, _]) (sl' := [.s (.slice a1187 v1186.length k1188) 3 1 v1186.length cs1189, _]) (Fs' := G :: Fs) rfl rfl rfl ?_
              cases w1184 with
              | nil =>
                rw [layout_Decode_L6] at r1192; try dsimp only at r1192
                refine Cov.seq ?_
                refine Cov.region rfl ?_
                refine Cov.q .ro (.lss rfl rfl) rfl ?_
                refine Cov.region_end ?_
                refine Cov.seq ?_
                refine Cov.cond_dec rfl (fun c => absurd c (drop_nil g1185)) (fun _ => ?_)
                refine Cov.exit rfl ?_
                refine Cov.prune _ ?_ (Cov.same rfl rfl rfl (hb1088 (v1186, a1187, k1188, cs1189, u4.1, 0, ByteArray.empty, x0_0) ⟨o1190, r1192⟩))
                exact ⟨rfl, rfl, rfl, rfl, rfl, trivial⟩
              | cons x1201 xs1202 =>
                have r1200 : layout_Decode_B6 (layout_Decode_J5 x2) x1 u4.1 x0_0 (layout_Decode_L6 (layout_Decode_J5 x2) x1 u4.1 x0_0 xs1202) x1201 v1186 = some r := r1192; clear r1192; unfold layout_Decode_B6 at r1200; try dsimp only at r1200
                refine Cov.seq ?_
                refine Cov.region rfl ?_
                refine Cov.q .ro (.lss rfl rfl) rfl ?_
                refine Cov.region_end ?_
                refine Cov.seq ?_
                refine Cov.cond_dec rfl (fun _ => ?_) (fun c => absurd (drop_lt g1185) c)
                refine Cov.skip ?_
                refine Cov.seq ?_
                refine Cov.block ?_
                refine Cov.seq ?_
                refine Cov.region rfl ?_
                obtain ⟨c1203, p1204, h1205⟩ := SlR.get s3 (drop_idx g1185)
                obtain ⟨a1206, k1207, rfl, s1208⟩ := h1205
                refine Cov.q .ro (.idxR s3 rfl rfl (drop_idx g1185) sl26 ty22.sz) rfl ?_
                refine Cov.q .ro (.load_rp p1204 List.mem_cons_self rfl ty22 rfl) rfl ?_
                refine Cov.q .ro (.assign rfl) rfl ?_
                refine Cov.region_end ?_
                refine Cov.seq ?_
                refine Cov.seq ?_
                refine Cov.region rfl ?_
                refine Cov.q .ro (.move rfl) rfl ?_
                refine Cov.q .ro (.len_sl rfl rfl sl22) rfl ?_
                refine Cov.q .ro (.move rfl) rfl ?_
                refine Cov.q .ro (.neq rfl rfl) rfl ?_
                refine Cov.q .ro (.move rfl) rfl ?_
                obtain ⟨u1215, h1216, r1217⟩ := bind_some r1200; clear r1200
                refine Cov.cutR 5 (β := Unit) (fun y => [(64, .bool u1215)]) [(12, _), (51, _), (1, _), (2, _), (8, _), (9, _), (10, _), (49, _), (50, _), (14, _)] (fun y => G :: Fs) (fun y => []) [_, _, _, _] (fun y => []) [_, _] (fun y => True) ⟨rfl, rfl, rfl, rfl, rfl, rfl, rfl, rfl, rfl, rfl, trivial⟩ [0, 1, 2, 3] rfl [0, 1] rfl ?_ ?_
                · rintro _ _
                  refine Cov.prune [(64, .bool u1215), (12, _), (51, _), (1, _), (2, _), (8, _), (9, _), (10, _), (49, _), (50, _), (14, _)] ⟨rfl, rfl, rfl, rfl, rfl, rfl, rfl, rfl, rfl, rfl, rfl, trivial⟩ ?_
                  refine Cov.same (bl' := [_, _, _, _]) (sl' := [_, _]) (Fs' := G :: Fs) rfl rfl rfl ?_
                  refine Cov.region_end ?_
                  refine Cov.cond rfl (fun c1220 => ?_) (fun c1220 => ?_)
                  · have r1221 := ifT r1217 c1220; clear r1217
                    refine Cov.seq ?_
                    refine Cov.region rfl ?_
                    refine Cov.store 2 [_] [_, _, _, _] .ro rfl rfl rfl ty9 rfl rfl rfl rfl ?_
                    refine Cov.store 1 [_] [_, _, _, _] .ro rfl rfl rfl ty39 rfl rfl rfl rfl ?_
                    refine Cov.region_end ?_
                    cases r1221
                    refine Cov.drop 0 1 _ [_] rfl rfl ?_
                    refine Cov.out (.inr ⟨_, rfl⟩) rfl (Cov.unmarkAll _ _ ?_)
                    refine Cov.outSD 4 (c := ⟨23, none⟩) [.cell 8 9, .cell 9 39] [_, _] Try.func23 Try.results23 ⟨RV.cell 2 rfl rfl ty9 rfl, RV.cell 1 rfl rfl ty39 rfl, trivial⟩ (fun _ h => List.mem_cons_of_mem _ h) ⟨rfl, rfl, rfl⟩
                  · have r1222 := ifBF r1217 c1220; clear r1217
                    refine Cov.skip ?_
                    refine Cov.region rfl ?_
                    refine Cov.q .ro (.move rfl) rfl ?_
                    refine Cov.q .ro (.move rfl) rfl ?_
                    obtain ⟨u1227, hu1227, r1228⟩ := bind_some r1222; clear r1222
                    refine Cov.appR (Q := (Rep.int .i64)) 0 .ro sl22 ty3 rfl rfl rfl rfl rfl o1190 rfl rfl s1208 rfl List.mem_cons_self hu1227 rfl (fun a1223 k1224 cs1225 o1226 => ?_)
                    refine Cov.q .ro (.assign rfl) rfl ?_
                    refine Cov.region_end ?_
                    refine Cov.inBlock ?_
                    refine Cov.region rfl ?_
                    refine Cov.q .ro (.addw rfl rfl) rfl ?_
                    refine Cov.q .ro (.move rfl) rfl ?_
                    refine Cov.region_end ?_
                    refine Cov.prune _ ?_ (Cov.same rfl rfl rfl (hb1193 ((i1183 + 1), xs1202, u1227, a1223, k1224, cs1225) ⟨o1226, (drop_succ g1185), r1228⟩ (Nat.lt_succ_self _)))
                    exact ⟨rfl, (congrArg (fun z => some (Value.int .i64 z)) (idx_wrap (SlR.len s3) g1185)), rfl, rfl, rfl, rfl, rfl, rfl, rfl, trivial⟩
                · intro hb1214
                  refine Cov.split 59 rfl (fun c1213 => ?_) (fun c1213 => ?_)
                  · have r1230 := ifT h1216 c1213
                    refine Cov.g_off rfl rfl rfl ?_
                    refine Cov.g_off rfl rfl rfl ?_
                    refine Cov.g_off rfl rfl rfl ?_
                    refine Cov.g_off rfl rfl rfl ?_
                    refine Cov.q .ro (.pick_t rfl rfl) rfl ?_
                    refine Cov.prune _ ?_ (Cov.same rfl rfl rfl (hb1214 () trivial))
                    exact ⟨sval r1230, rfl, rfl, rfl, rfl, rfl, rfl, rfl, rfl, rfl, rfl, trivial⟩
                  · have r1231 := ifF h1216 c1213
                    refine Cov.g_on rfl ?_
                    refine Cov.q .ro (.load_own 0 rfl rfl ty70 rfl) rfl ?_
                    refine Cov.g_on rfl ?_
                    refine Cov.q .ro (.move rfl) rfl ?_
                    refine Cov.g_on rfl ?_
                    obtain ⟨u1232, hu1232, r1233⟩ := bind_some r1231; clear r1231
                    refine Cov.callS (b1 := []) (b2 := [_, _, _, _]) (s1 := []) [_, _] [] .ro rfl rfl Try.call44 rfl rfl (residue_Field_All_c (G := G) List.mem_cons_self s1208 hu1232) rfl (fun v1235 bo so h1234 => ?_)
                    obtain ⟨rfl, rfl, rfl⟩ := h1234
                    refine Cov.same (bl' := [_, _, _, _]) (sl' := [_, _]) rfl rfl rfl ?_
                    refine Cov.g_on rfl ?_
                    refine Cov.q .ro (.not rfl) rfl ?_
                    refine Cov.q .ro (.pick_f rfl rfl) rfl ?_
                    refine Cov.prune _ ?_ (Cov.same rfl rfl rfl (hb1214 () trivial))
                    exact ⟨sval r1233, rfl, rfl, rfl, rfl, rfl, rfl, rfl, rfl, rfl, rfl, trivial⟩
      · intro hb21
        refine Cov.split 37 rfl (fun c20 => ?_) (fun c20 => ?_)
        · refine Cov.g_off rfl rfl rfl ?_
          refine Cov.g_off rfl rfl rfl ?_
          refine Cov.q .ro (.pick_t rfl rfl) rfl ?_
          refine Cov.prune _ ?_ (Cov.same rfl rfl rfl (hb21 () trivial))
          exact ⟨dor_t c20, rfl, rfl, rfl, rfl, rfl, rfl, trivial⟩
        · refine Cov.g_on rfl ?_
          refine Cov.q .ro (.move rfl) rfl ?_
          refine Cov.g_on rfl ?_
          refine Cov.q .ro (.gtr rfl rfl) rfl ?_
          refine Cov.q .ro (.pick_f rfl rfl) rfl ?_
          refine Cov.prune _ ?_ (Cov.same rfl rfl rfl (hb21 () trivial))
          exact ⟨dor_f c20, rfl, rfl, rfl, rfl, rfl, rfl, trivial⟩
    · intro hb17
      refine Cov.split_b 33 rfl (fun c16 => ?_) (fun c16 => ?_)
      · refine Cov.g_off rfl rfl rfl ?_
        refine Cov.g_off rfl rfl rfl ?_
        refine Cov.q .ro (.pick_t rfl rfl) rfl ?_
        refine Cov.prune _ ?_ (Cov.same rfl rfl rfl (hb17 () trivial))
        exact ⟨dor_t c16, rfl, rfl, rfl, rfl, rfl, rfl, trivial⟩
      · refine Cov.g_on rfl ?_
        refine Cov.q .ro (.move rfl) rfl ?_
        refine Cov.g_on rfl ?_
        refine Cov.q .ro (.lss rfl rfl) rfl ?_
        refine Cov.q .ro (.pick_f rfl rfl) rfl ?_
        refine Cov.prune _ ?_ (Cov.same rfl rfl rfl (hb17 () trivial))
        exact ⟨dor_f (bne_of c16), rfl, rfl, rfl, rfl, rfl, rfl, trivial⟩

set_option maxHeartbeats 4000000 in
set_option maxRecDepth 100000 in
theorem layout_Check_c {Fs : List Hp} {G : Hp} {x0_0 : Int} {a0_1 : Option Addr} {k0_1 : Nat} {x0_1 : List (Int × Int × Int)} {x1 : Int} {r : Int} (hG : G ∈ Fs) (s0_1 : SlR (Rep.pair (Rep.int .i64) (Rep.pair (Rep.int .i64) (Rep.int .i64))) G a0_1 k0_1 x0_1) (h : layout_Check (x0_0, x0_1) x1 = some r) : RetS Try.prog 27 #[.agg #[.int .i64 x0_0, .slice a0_1 x0_1.length k0_1], .int .i64 x1] Fs [] [] (fun v bo so => v = .int .i64 r ∧ bo = [] ∧ so = []) := by
  unfold layout_Check at h
  try dsimp only at h
  refine RetS.of (vs := [_, _]) Try.func27 rfl Try.ntmps27 [(0, _), (1, _)] ⟨rfl, rfl, trivial⟩ rfl hG fun w0 S0 hS0 B0 => ?_
  refine Cov.seq ?_
  refine Cov.region rfl ?_
  refine Cov.box [_, _] .ro rfl rfl rfl (fun b1 hb1 => ?_)
  refine Cov.q .ro (.assign rfl) rfl ?_
  refine Cov.region_end ?_
  refine Cov.seq ?_
  refine Cov.seq ?_
  refine Cov.region rfl ?_
  refine Cov.q .ro (.fieldAddr 0 rfl fl34_0 ty3.sz rfl) rfl ?_
  refine Cov.q .ro (.load_own 0 rfl rfl ty3 rfl) rfl ?_
  obtain ⟨u2, hu2, r3⟩ := bind_some h; clear h
  refine Cov.callS (b1 := []) (b2 := [_]) (s1 := []) [_] [] .ro rfl rfl Try.call40 rfl rfl (layout_wide_c (G := G) List.mem_cons_self  hu2) rfl (fun v5 bo so h4 => ?_)
  obtain ⟨rfl, rfl, rfl⟩ := h4
  refine Cov.same (bl' := [_]) (sl' := []) rfl rfl rfl ?_
  refine Cov.q .ro (.not rfl) rfl ?_
  refine Cov.q .ro (.move rfl) rfl ?_
  refine Cov.cutR 5 (β := Unit) (fun y => [(17, .bool (decide (((!u2) = true) ∨ (256 < (x0_1.length : Int)))))]) [(1, _), (2, _)] (fun y => G :: Fs) (fun y => []) [_] (fun y => []) [] (fun y => True) ⟨rfl, rfl, trivial⟩ [0] rfl [] rfl ?_ ?_
  · rintro _ _
    refine Cov.prune [(17, .bool (decide (((!u2) = true) ∨ (256 < (x0_1.length : Int))))), (1, _), (2, _)] ⟨rfl, rfl, rfl, trivial⟩ ?_
    refine Cov.same (bl' := [_]) (sl' := []) (Fs' := G :: Fs) rfl rfl rfl ?_
    refine Cov.region_end ?_
    refine Cov.cond_dec rfl (fun c10 => ?_) (fun c10 => ?_)
    · have r11 := ifT r3 c10; clear r3
      refine Cov.seq ?_
      refine Cov.region rfl ?_
      refine Cov.q .ro (.assign rfl) rfl ?_
      refine Cov.region_end ?_
      cases r11
      refine Cov.drop 1 0 [] _ rfl rfl ?_
      refine Cov.retS (c := ⟨27, none⟩) (.inr ⟨_, rfl⟩) [.tmp 4] [_] rfl Try.func27 Try.results27 ⟨RV.tmp rfl, trivial⟩ (fun _ h => List.mem_cons_of_mem _ h) ⟨rfl, rfl, rfl⟩
    · have r12 := ifF r3 c10; clear r3
      refine Cov.skip ?_
      refine Cov.seq ?_
      refine Cov.region rfl ?_
      refine Cov.q .ro (.assign rfl) rfl ?_
      refine Cov.region_end ?_
      refine Cov.seq ?_
      refine Cov.seq ?_
      refine Cov.region rfl ?_
      refine Cov.q .ro (.fieldAddr 1 rfl fl34_1 ty32.sz rfl) rfl ?_
      refine Cov.q .ro (.load_own 0 rfl rfl ty32 rfl) rfl ?_
      refine Cov.q .ro (.len_sl rfl rfl sl32) rfl ?_
      refine Cov.q .ro (.move rfl) rfl ?_
      refine Cov.region_end ?_
      refine Cov.cutB (β := Int × Int) (fun y => [(5, .int .i64 y.1)]) [(1, _)] (fun y => G :: Fs) (fun y => [(b1, .cells #[.int .i64 y.2, .slice a0_1 x0_1.length k0_1] 34 (0, 0))]) [] (fun y => []) [] (fun y => (layout_Check_J1 x1) y.1 y.2 = some r) ⟨rfl, trivial⟩ [] rfl [] rfl ?_ ?_
      · intro y hI
        obtain ⟨v90, v91⟩ := y
        have r93 := hI; clear hI
        try dsimp only at r93
        refine Cov.prune [(5, .int .i64 v90), (1, _)] ⟨rfl, rfl, trivial⟩ ?_
        refine Cov.same (bl' := [(b1, .cells #[.int .i64 v91, .slice a0_1 x0_1.length k0_1] 34 (0, 0))]) (sl' := []) (Fs' := G :: Fs) rfl rfl rfl ?_
        unfold layout_Check_J1 at r93
        try dsimp only at r93
        refine Cov.seq ?_
        refine Cov.seq ?_
        refine Cov.region rfl ?_
        refine Cov.q .ro (.move rfl) rfl ?_
        refine Cov.q .ro (.move rfl) rfl ?_
        refine Cov.q .ro (.neq rfl rfl) rfl ?_
        refine Cov.region_end ?_
        refine Cov.cond_dec rfl (fun c96 => ?_) (fun c96 => ?_)
        · have r97 := ifT r93 c96; clear r93
          refine Cov.seq ?_
          refine Cov.region rfl ?_
          refine Cov.q .ro (.assign rfl) rfl ?_
          refine Cov.region_end ?_
          cases r97
          refine Cov.drop 1 0 [] _ rfl rfl ?_
          refine Cov.retS (c := ⟨27, none⟩) (.inr ⟨_, rfl⟩) [.tmp 4] [_] rfl Try.func27 Try.results27 ⟨RV.tmp rfl, trivial⟩ (fun _ h => List.mem_cons_of_mem _ h) ⟨rfl, rfl, rfl⟩
        · have r98 := ifF r93 c96; clear r93
          refine Cov.skip ?_
          refine Cov.seq ?_
          refine Cov.region rfl ?_
          refine Cov.q .ro (.assign rfl) rfl ?_
          refine Cov.region_end ?_
          cases r98
          refine Cov.drop 1 0 [] _ rfl rfl ?_
          refine Cov.retS (c := ⟨27, none⟩) (.inr ⟨_, rfl⟩) [.tmp 4] [_] rfl Try.func27 Try.results27 ⟨RV.tmp rfl, trivial⟩ (fun _ h => List.mem_cons_of_mem _ h) ⟨rfl, rfl, rfl⟩
      · intro hb99
        refine Cov.block ?_
        refine Cov.loop2 (α := Nat × (List (Int × Int × Int)) × Int) (fun y => [(5, .int .i64 y.2.2), (21, .int .i64 (y.1 : Int))]) [(1, _), (19, _), (20, _)] (fun y => []) (fun y => []) [_] (fun y => []) [] (fun y => List.drop y.1 x0_1 = y.2.1 ∧ layout_Check_L2 (layout_Check_J1 x1) x1 x0_0 y.2.1 y.2.2 = some r) (fun y => y.2.1.length) (0, x0_1, 0) ⟨rfl, r12⟩ ⟨rfl, rfl, rfl, rfl, rfl, trivial⟩ rfl rfl rfl (fun y hI hb142 => ?_)
        obtain ⟨i137, w138, v140⟩ := y
        obtain ⟨g139, r141⟩ := hI
        try dsimp only at g139 r141
        refine Cov.prune [(5, .int .i64 v140), (21, .int .i64 (i137 : Int)), (1, _), (19, _), (20, _)] ⟨rfl, rfl, rfl, rfl, rfl, trivial⟩ ?_
        refine Cov.same (bl' := [_]) (sl' := []) (Fs' := G :: Fs) rfl rfl rfl ?_
        cases w138 with
        | nil =>
          rw [layout_Check_L2] at r141; try dsimp only at r141
          refine Cov.seq ?_
          refine Cov.region rfl ?_
          refine Cov.q .ro (.lss rfl rfl) rfl ?_
          refine Cov.region_end ?_
          refine Cov.seq ?_
          refine Cov.cond_dec rfl (fun c => absurd c (drop_nil g139)) (fun _ => ?_)
          refine Cov.exit rfl ?_
          refine Cov.prune _ ?_ (Cov.same rfl rfl rfl (hb99 (v140, x0_0) r141))
          exact ⟨rfl, rfl, trivial⟩
        | cons x148 xs149 =>
          have r147 : layout_Check_B2 (layout_Check_J1 x1) x1 x0_0 (layout_Check_L2 (layout_Check_J1 x1) x1 x0_0 xs149) x148 v140 = some r := r141; clear r141; unfold layout_Check_B2 at r147; try dsimp only at r147
          refine Cov.seq ?_
          refine Cov.region rfl ?_
          refine Cov.q .ro (.lss rfl rfl) rfl ?_
          refine Cov.region_end ?_
          refine Cov.seq ?_
          refine Cov.cond_dec rfl (fun _ => ?_) (fun c => absurd (drop_lt g139) c)
          refine Cov.skip ?_
          refine Cov.seq ?_
          refine Cov.block ?_
          refine Cov.seq ?_
          refine Cov.region rfl ?_
          obtain ⟨c150, p151, h152⟩ := SlR.get s0_1 (drop_idx g139)
          obtain ⟨_, _, rfl, rfl, _, _, rfl, rfl, rfl⟩ := h152
          refine Cov.q .ro (.idxR s0_1 rfl rfl (drop_idx g139) sl32 ty56.sz) rfl ?_
          refine Cov.q .ro (.load_rp_a [_, _, _] p151 List.mem_cons_self rfl ty56 rfl) rfl ?_
          refine Cov.alloc .ro ty56 rfl (fun b153 hb153 => ?_)
          refine Cov.store 0 [_, _, _] [_, _] .ro rfl rfl rfl ty56 rfl rfl rfl rfl ?_
          refine Cov.region_end ?_
          refine Cov.seq ?_
          refine Cov.seq ?_
          refine Cov.region rfl ?_
          refine Cov.q .ro (.fieldAddr 2 rfl fl56_2 ty3.sz rfl) rfl ?_
          refine Cov.q .ro (.load_own 0 rfl rfl ty3 rfl) rfl ?_
          refine Cov.q .ro (.lss rfl rfl) rfl ?_
          refine Cov.q .ro (.move rfl) rfl ?_
          refine Cov.cutR 4 (β := Unit) (fun y => [(32, .bool (decide ((x148.2.2 < 0) ∨ (1024 < x148.2.2))))]) [(5, _), (21, _), (1, _), (19, _), (20, _), (7, _)] (fun y => G :: Fs) (fun y => []) [_, _] (fun y => []) [] (fun y => True) ⟨rfl, rfl, rfl, rfl, rfl, rfl, trivial⟩ [0, 1] rfl [] rfl ?_ ?_
          · rintro _ _
            refine Cov.prune [(32, .bool (decide ((x148.2.2 < 0) ∨ (1024 < x148.2.2)))), (5, _), (21, _), (1, _), (19, _), (20, _), (7, _)] ⟨rfl, rfl, rfl, rfl, rfl, rfl, rfl, trivial⟩ ?_
            refine Cov.same (bl' := [_, _]) (sl' := []) (Fs' := G :: Fs) rfl rfl rfl ?_
            refine Cov.q .ro (.move rfl) rfl ?_
            refine Cov.cutR 4 (β := Unit) (fun y => [(37, .bool (decide (((x148.2.2 < 0) ∨ (1024 < x148.2.2)) ∨ (x148.2.1 < 1))))]) [(5, _), (21, _), (1, _), (19, _), (20, _), (7, _)] (fun y => G :: Fs) (fun y => []) [_, _] (fun y => []) [] (fun y => True) ⟨rfl, rfl, rfl, rfl, rfl, rfl, trivial⟩ [0, 1] rfl [] rfl ?_ ?_
            · rintro _ _
              refine Cov.prune [(37, .bool (decide (((x148.2.2 < 0) ∨ (1024 < x148.2.2)) ∨ (x148.2.1 < 1)))), (5, _), (21, _), (1, _), (19, _), (20, _), (7, _)] ⟨rfl, rfl, rfl, rfl, rfl, rfl, rfl, trivial⟩ ?_
              refine Cov.same (bl' := [_, _]) (sl' := []) (Fs' := G :: Fs) rfl rfl rfl ?_
              refine Cov.q .ro (.move rfl) rfl ?_
              refine Cov.cutR 4 (β := Unit) (fun y => [(42, .bool (decide ((((x148.2.2 < 0) ∨ (1024 < x148.2.2)) ∨ (x148.2.1 < 1)) ∨ (1024 < x148.2.1))))]) [(5, _), (21, _), (1, _), (19, _), (20, _), (7, _)] (fun y => G :: Fs) (fun y => []) [_, _] (fun y => []) [] (fun y => True) ⟨rfl, rfl, rfl, rfl, rfl, rfl, trivial⟩ [0, 1] rfl [] rfl ?_ ?_
              · rintro _ _
                refine Cov.prune [(42, .bool (decide ((((x148.2.2 < 0) ∨ (1024 < x148.2.2)) ∨ (x148.2.1 < 1)) ∨ (1024 < x148.2.1)))), (5, _), (21, _), (1, _), (19, _), (20, _), (7, _)] ⟨rfl, rfl, rfl, rfl, rfl, rfl, rfl, trivial⟩ ?_
                refine Cov.same (bl' := [_, _]) (sl' := []) (Fs' := G :: Fs) rfl rfl rfl ?_
                refine Cov.q .ro (.move rfl) rfl ?_
                refine Cov.cutR 5 (β := Unit) (fun y => [(48, .bool (decide (((((x148.2.2 < 0) ∨ (1024 < x148.2.2)) ∨ (x148.2.1 < 1)) ∨ (1024 < x148.2.1)) ∨ (x148.1 ≠ v140))))]) [(5, _), (21, _), (1, _), (19, _), (20, _), (7, _)] (fun y => G :: Fs) (fun y => []) [_, _] (fun y => []) [] (fun y => True) ⟨rfl, rfl, rfl, rfl, rfl, rfl, trivial⟩ [0, 1] rfl [] rfl ?_ ?_
                · rintro _ _
                  refine Cov.prune [(48, .bool (decide (((((x148.2.2 < 0) ∨ (1024 < x148.2.2)) ∨ (x148.2.1 < 1)) ∨ (1024 < x148.2.1)) ∨ (x148.1 ≠ v140)))), (5, _), (21, _), (1, _), (19, _), (20, _), (7, _)] ⟨rfl, rfl, rfl, rfl, rfl, rfl, rfl, trivial⟩ ?_
                  refine Cov.same (bl' := [_, _]) (sl' := []) (Fs' := G :: Fs) rfl rfl rfl ?_
                  refine Cov.q .ro (.move rfl) rfl ?_
                  refine Cov.cutR 7 (β := Unit) (fun y => [(56, .bool (decide ((((((x148.2.2 < 0) ∨ (1024 < x148.2.2)) ∨ (x148.2.1 < 1)) ∨ (1024 < x148.2.1)) ∨ (x148.1 ≠ v140)) ∨ ((w64 (x1 - v140)) < x148.2.1))))]) [(5, _), (21, _), (1, _), (19, _), (20, _), (7, _)] (fun y => G :: Fs) (fun y => []) [_, _] (fun y => []) [] (fun y => True) ⟨rfl, rfl, rfl, rfl, rfl, rfl, trivial⟩ [0, 1] rfl [] rfl ?_ ?_
                  · rintro _ _
                    refine Cov.prune [(56, .bool (decide ((((((x148.2.2 < 0) ∨ (1024 < x148.2.2)) ∨ (x148.2.1 < 1)) ∨ (1024 < x148.2.1)) ∨ (x148.1 ≠ v140)) ∨ ((w64 (x1 - v140)) < x148.2.1)))), (5, _), (21, _), (1, _), (19, _), (20, _), (7, _)] ⟨rfl, rfl, rfl, rfl, rfl, rfl, rfl, trivial⟩ ?_
                    refine Cov.same (bl' := [_, _]) (sl' := []) (Fs' := G :: Fs) rfl rfl rfl ?_
                    refine Cov.region_end ?_
                    refine Cov.cond_dec rfl (fun c174 => ?_) (fun c174 => ?_)
                    · have r175 := ifT r147 c174; clear r147
                      refine Cov.seq ?_
                      refine Cov.region rfl ?_
                      refine Cov.q .ro (.assign rfl) rfl ?_
                      refine Cov.region_end ?_
                      cases r175
                      refine Cov.drop 2 0 [] _ rfl rfl ?_
                      refine Cov.retS (c := ⟨27, none⟩) (.inr ⟨_, rfl⟩) [.tmp 4] [_] rfl Try.func27 Try.results27 ⟨RV.tmp rfl, trivial⟩ (fun _ h => List.mem_cons_of_mem _ h) ⟨rfl, rfl, rfl⟩
                    · have r176 := ifF r147 c174; clear r147
                      refine Cov.skip ?_
                      refine Cov.region rfl ?_
                      refine Cov.q .ro (.move rfl) rfl ?_
                      refine Cov.q .ro (.fieldAddr 1 rfl fl56_1 ty3.sz rfl) rfl ?_
                      refine Cov.q .ro (.load_own 0 rfl rfl ty3 rfl) rfl ?_
                      refine Cov.q .ro (.addw rfl rfl) rfl ?_
                      refine Cov.q .ro (.assign rfl) rfl ?_
                      refine Cov.region_end ?_
                      refine Cov.inBlock ?_
                      refine Cov.region rfl ?_
                      refine Cov.q .ro (.addw rfl rfl) rfl ?_
                      refine Cov.q .ro (.move rfl) rfl ?_
                      refine Cov.region_end ?_
                      refine Cov.drop 1 0 [_] _ rfl rfl ?_
                      refine Cov.prune _ ?_ (Cov.same rfl rfl rfl (hb142 ((i137 + 1), xs149, (w64 (v140 + x148.2.1))) ⟨(drop_succ g139), r176⟩ (Nat.lt_succ_self _)))
                      exact ⟨rfl, (congrArg (fun z => some (Value.int .i64 z)) (idx_wrap (SlR.len s0_1) g139)), rfl, rfl, rfl, trivial⟩
                  · intro hb171
                    refine Cov.split 49 rfl (fun c170 => ?_) (fun c170 => ?_)
                    · refine Cov.g_off rfl rfl rfl ?_
                      refine Cov.g_off rfl rfl rfl ?_
                      refine Cov.g_off rfl rfl rfl ?_
                      refine Cov.g_off rfl rfl rfl ?_
                      refine Cov.g_off rfl rfl rfl ?_
                      refine Cov.g_off rfl rfl rfl ?_
                      refine Cov.q .ro (.pick_t rfl rfl) rfl ?_
                      refine Cov.prune _ ?_ (Cov.same rfl rfl rfl (hb171 () trivial))
                      exact ⟨dor_t c170, rfl, rfl, rfl, rfl, rfl, rfl, trivial⟩
                    · refine Cov.g_on rfl ?_
                      refine Cov.q .ro (.fieldAddr 1 rfl fl56_1 ty3.sz rfl) rfl ?_
                      refine Cov.g_on rfl ?_
                      refine Cov.q .ro (.load_own 0 rfl rfl ty3 rfl) rfl ?_
                      refine Cov.g_on rfl ?_
                      refine Cov.q .ro (.move rfl) rfl ?_
                      refine Cov.g_on rfl ?_
                      refine Cov.q .ro (.move rfl) rfl ?_
                      refine Cov.g_on rfl ?_
                      refine Cov.q .ro (.subw rfl rfl) rfl ?_
                      refine Cov.g_on rfl ?_
                      refine Cov.q .ro (.gtr rfl rfl) rfl ?_
                      refine Cov.q .ro (.pick_f rfl rfl) rfl ?_
                      refine Cov.prune _ ?_ (Cov.same rfl rfl rfl (hb171 () trivial))
                      exact ⟨dor_f c170, rfl, rfl, rfl, rfl, rfl, rfl, trivial⟩
                · intro hb167
                  refine Cov.split 43 rfl (fun c166 => ?_) (fun c166 => ?_)
                  · refine Cov.g_off rfl rfl rfl ?_
                    refine Cov.g_off rfl rfl rfl ?_
                    refine Cov.g_off rfl rfl rfl ?_
                    refine Cov.g_off rfl rfl rfl ?_
                    refine Cov.q .ro (.pick_t rfl rfl) rfl ?_
                    refine Cov.prune _ ?_ (Cov.same rfl rfl rfl (hb167 () trivial))
                    exact ⟨dor_t c166, rfl, rfl, rfl, rfl, rfl, rfl, trivial⟩
                  · refine Cov.g_on rfl ?_
                    refine Cov.q .ro (.fieldAddr 0 rfl fl56_0 ty3.sz rfl) rfl ?_
                    refine Cov.g_on rfl ?_
                    refine Cov.q .ro (.load_own 0 rfl rfl ty3 rfl) rfl ?_
                    refine Cov.g_on rfl ?_
                    refine Cov.q .ro (.move rfl) rfl ?_
                    refine Cov.g_on rfl ?_
                    refine Cov.q .ro (.neq rfl rfl) rfl ?_
                    refine Cov.q .ro (.pick_f rfl rfl) rfl ?_
                    refine Cov.prune _ ?_ (Cov.same rfl rfl rfl (hb167 () trivial))
                    exact ⟨dor_f c166, rfl, rfl, rfl, rfl, rfl, rfl, trivial⟩
              · intro hb163
                refine Cov.split 38 rfl (fun c162 => ?_) (fun c162 => ?_)
                · refine Cov.g_off rfl rfl rfl ?_
                  refine Cov.g_off rfl rfl rfl ?_
                  refine Cov.g_off rfl rfl rfl ?_
                  refine Cov.q .ro (.pick_t rfl rfl) rfl ?_
                  refine Cov.prune _ ?_ (Cov.same rfl rfl rfl (hb163 () trivial))
                  exact ⟨dor_t c162, rfl, rfl, rfl, rfl, rfl, rfl, trivial⟩
                · refine Cov.g_on rfl ?_
                  refine Cov.q .ro (.fieldAddr 1 rfl fl56_1 ty3.sz rfl) rfl ?_
                  refine Cov.g_on rfl ?_
                  refine Cov.q .ro (.load_own 0 rfl rfl ty3 rfl) rfl ?_
                  refine Cov.g_on rfl ?_
                  refine Cov.q .ro (.gtr rfl rfl) rfl ?_
                  refine Cov.q .ro (.pick_f rfl rfl) rfl ?_
                  refine Cov.prune _ ?_ (Cov.same rfl rfl rfl (hb163 () trivial))
                  exact ⟨dor_f c162, rfl, rfl, rfl, rfl, rfl, rfl, trivial⟩
            · intro hb159
              refine Cov.split 33 rfl (fun c158 => ?_) (fun c158 => ?_)
              · refine Cov.g_off rfl rfl rfl ?_
                refine Cov.g_off rfl rfl rfl ?_
                refine Cov.g_off rfl rfl rfl ?_
                refine Cov.q .ro (.pick_t rfl rfl) rfl ?_
                refine Cov.prune _ ?_ (Cov.same rfl rfl rfl (hb159 () trivial))
                exact ⟨dor_t c158, rfl, rfl, rfl, rfl, rfl, rfl, trivial⟩
              · refine Cov.g_on rfl ?_
                refine Cov.q .ro (.fieldAddr 1 rfl fl56_1 ty3.sz rfl) rfl ?_
                refine Cov.g_on rfl ?_
                refine Cov.q .ro (.load_own 0 rfl rfl ty3 rfl) rfl ?_
                refine Cov.g_on rfl ?_
                refine Cov.q .ro (.lss rfl rfl) rfl ?_
                refine Cov.q .ro (.pick_f rfl rfl) rfl ?_
                refine Cov.prune _ ?_ (Cov.same rfl rfl rfl (hb159 () trivial))
                exact ⟨dor_f c158, rfl, rfl, rfl, rfl, rfl, rfl, trivial⟩
          · intro hb155
            refine Cov.split 28 rfl (fun c154 => ?_) (fun c154 => ?_)
            · refine Cov.g_off rfl rfl rfl ?_
              refine Cov.g_off rfl rfl rfl ?_
              refine Cov.g_off rfl rfl rfl ?_
              refine Cov.q .ro (.pick_t rfl rfl) rfl ?_
              refine Cov.prune _ ?_ (Cov.same rfl rfl rfl (hb155 () trivial))
              exact ⟨dor_t c154, rfl, rfl, rfl, rfl, rfl, rfl, trivial⟩
            · refine Cov.g_on rfl ?_
              refine Cov.q .ro (.fieldAddr 2 rfl fl56_2 ty3.sz rfl) rfl ?_
              refine Cov.g_on rfl ?_
              refine Cov.q .ro (.load_own 0 rfl rfl ty3 rfl) rfl ?_
              refine Cov.g_on rfl ?_
              refine Cov.q .ro (.gtr rfl rfl) rfl ?_
              refine Cov.q .ro (.pick_f rfl rfl) rfl ?_
              refine Cov.prune _ ?_ (Cov.same rfl rfl rfl (hb155 () trivial))
              exact ⟨dor_f c154, rfl, rfl, rfl, rfl, rfl, rfl, trivial⟩
  · intro hb7
    refine Cov.split_b 12 rfl (fun c6 => ?_) (fun c6 => ?_)
    · refine Cov.g_off rfl rfl rfl ?_
      refine Cov.g_off rfl rfl rfl ?_
      refine Cov.g_off rfl rfl rfl ?_
      refine Cov.g_off rfl rfl rfl ?_
      refine Cov.q .ro (.pick_t rfl rfl) rfl ?_
      refine Cov.prune _ ?_ (Cov.same rfl rfl rfl (hb7 () trivial))
      exact ⟨dor_t c6, rfl, rfl, trivial⟩
    · refine Cov.g_on rfl ?_
      refine Cov.q .ro (.fieldAddr 1 rfl fl34_1 ty32.sz rfl) rfl ?_
      refine Cov.g_on rfl ?_
      refine Cov.q .ro (.load_own 0 rfl rfl ty32 rfl) rfl ?_
      refine Cov.g_on rfl ?_
      refine Cov.q .ro (.len_sl rfl rfl sl32) rfl ?_
      refine Cov.g_on rfl ?_
      refine Cov.q .ro (.gtr rfl rfl) rfl ?_
      refine Cov.q .ro (.pick_f rfl rfl) rfl ?_
      refine Cov.prune _ ?_ (Cov.same rfl rfl rfl (hb7 () trivial))
      exact ⟨dor_f (bne_of c6), rfl, rfl, trivial⟩

set_option maxHeartbeats 4000000 in
set_option maxRecDepth 100000 in
theorem layout_Record_c {Fs : List Hp} {G : Hp} {x0_0 : Int} {x1_0 : Int} {a1_1 : Option Addr} {k1_1 : Nat} {x1_1 : List (Int × Int × Int)} {a2 : Option Addr} {k2 : Nat} {x2 : List (List Int)} {x3 : Int} {r : (ByteArray × Int)} (hG : G ∈ Fs) (s1_1 : SlR (Rep.pair (Rep.int .i64) (Rep.pair (Rep.int .i64) (Rep.int .i64))) G a1_1 k1_1 x1_1) (s2 : SlR (Rep.sl (Rep.int .i64)) G a2 k2 x2) (h : layout_Record x0_0 (x1_0, x1_1) x2 x3 = some r) : RetS Try.prog 28 #[.agg #[.int .i64 x0_0], .agg #[.int .i64 x1_0, .slice a1_1 x1_1.length k1_1], .slice a2 x2.length k2, .int .i64 x3] Fs [] [] (fun v bo so => v = .tuple #[.string r.1, .int .i64 r.2] ∧ bo = [] ∧ so = []) := by
  unfold layout_Record at h
  try dsimp only at h
  refine RetS.of (vs := [_, _, _, _]) Try.func28 rfl Try.ntmps28 [(0, _), (1, _), (2, _), (3, _)] ⟨rfl, rfl, rfl, rfl, trivial⟩ rfl hG fun w0 S0 hS0 B0 => ?_
  refine Cov.seq ?_
  refine Cov.region rfl ?_
  refine Cov.box [_] .ro rfl rfl rfl (fun b1 hb1 => ?_)
  refine Cov.box [_, _] .ro rfl rfl rfl (fun b2 hb2 => ?_)
  refine Cov.q .ro (.assign rfl) rfl ?_
  refine Cov.q .ro (.assign rfl) rfl ?_
  refine Cov.region_end ?_
  refine Cov.seq ?_
  refine Cov.seq ?_
  refine Cov.region rfl ?_
  refine Cov.q .ro (.load_own_a 0 [_, _] rfl rfl ty34 rfl) rfl ?_
  refine Cov.q .ro (.move rfl) rfl ?_
  refine Cov.q .ro (.len_sl rfl rfl sl26) rfl ?_
  obtain ⟨u3, hu3, r4⟩ := bind_some h; clear h
  refine Cov.callS (b1 := []) (b2 := [_, _]) (s1 := []) [_, _] [] .ro rfl rfl Try.call27 rfl rfl (layout_Check_c (G := G) List.mem_cons_self s1_1 hu3) rfl (fun v6 bo so h5 => ?_)
  obtain ⟨rfl, rfl, rfl⟩ := h5
  refine Cov.same (bl' := [_, _]) (sl' := []) rfl rfl rfl ?_
  refine Cov.q .ro (.assign rfl) rfl ?_
  refine Cov.region_end ?_
  refine Cov.seq ?_
  refine Cov.region rfl ?_
  refine Cov.q .ro (.move rfl) rfl ?_
  refine Cov.q .ro (.neq rfl rfl) rfl ?_
  refine Cov.region_end ?_
  refine Cov.cond_dec rfl (fun c7 => ?_) (fun c7 => ?_)
  · have r8 := ifT r4 c7; clear r4
    refine Cov.seq ?_
    refine Cov.region rfl ?_
    refine Cov.q .ro (.move rfl) rfl ?_
    refine Cov.q .ro (.assign rfl) rfl ?_
    refine Cov.q .ro (.assign rfl) rfl ?_
    refine Cov.region_end ?_
    refine Cov.prune [(8, _), (9, _)] ⟨rfl, rfl, trivial⟩ ?_
    cases r8
    refine Cov.drop 2 0 [] _ rfl rfl ?_
    refine Cov.retS (c := ⟨28, none⟩) (.inr ⟨_, rfl⟩) [.tmp 8, .tmp 9] [_, _] rfl Try.func28 Try.results28 ⟨RV.tmp rfl, RV.tmp rfl, trivial⟩ (fun _ h => List.mem_cons_of_mem _ h) ⟨rfl, rfl, rfl⟩
  · have r9 := ifF r4 c7; clear r4
    refine Cov.skip ?_
    refine Cov.seq ?_
    refine Cov.seq ?_
    refine Cov.region rfl ?_
    refine Cov.q .ro (.move rfl) rfl ?_
    refine Cov.q .ro (.lss rfl rfl) rfl ?_
    refine Cov.q .ro (.move rfl) rfl ?_
    refine Cov.cutR 6 (β := Unit) (fun y => [(27, .bool (decide ((x3 < 0) ∨ ((x1_1.length : Int) ≤ x3))))]) [(2, _), (3, _), (4, _), (5, _)] (fun y => G :: Fs) (fun y => []) [_, _] (fun y => []) [] (fun y => True) ⟨rfl, rfl, rfl, rfl, trivial⟩ [0, 1] rfl [] rfl ?_ ?_
    · rintro _ _
      refine Cov.prune [(27, .bool (decide ((x3 < 0) ∨ ((x1_1.length : Int) ≤ x3)))), (2, _), (3, _), (4, _), (5, _)] ⟨rfl, rfl, rfl, rfl, rfl, trivial⟩ ?_
      refine Cov.same (bl' := [_, _]) (sl' := []) (Fs' := G :: Fs) rfl rfl rfl ?_
      refine Cov.region_end ?_
      refine Cov.cond_dec rfl (fun c14 => ?_) (fun c14 => ?_)
      · have r15 := ifT r9 c14; clear r9
        refine Cov.seq ?_
        refine Cov.region rfl ?_
        refine Cov.q .ro (.assign rfl) rfl ?_
        refine Cov.q .ro (.assign rfl) rfl ?_
        refine Cov.region_end ?_
        cases r15
        refine Cov.drop 2 0 [] _ rfl rfl ?_
        refine Cov.retS (c := ⟨28, none⟩) (.inr ⟨_, rfl⟩) [.tmp 8, .tmp 9] [_, _] rfl Try.func28 Try.results28 ⟨RV.tmp rfl, RV.tmp rfl, trivial⟩ (fun _ h => List.mem_cons_of_mem _ h) ⟨rfl, rfl, rfl⟩
      · have r16 := ifF r9 c14; clear r9
        refine Cov.skip ?_
        refine Cov.seq ?_
        refine Cov.region rfl ?_
        refine Cov.q .ro (.fieldAddr 1 rfl fl34_1 ty32.sz rfl) rfl ?_
        refine Cov.q .ro (.load_own 0 rfl rfl ty32 rfl) rfl ?_
        refine Cov.q .ro (.move rfl) rfl ?_
        obtain ⟨u17, hu17, r18⟩ := bind_some r16; clear r16
        obtain ⟨c19, p20, h21⟩ := SlR.get s1_1 hu17
        obtain ⟨_, _, rfl, rfl, _, _, rfl, rfl, rfl⟩ := h21
        refine Cov.q .ro (.idxR s1_1 rfl rfl hu17 sl32 ty56.sz) rfl ?_
        refine Cov.q .ro (.load_rp_a [_, _, _] p20 List.mem_cons_self rfl ty56 rfl) rfl ?_
        refine Cov.alloc .ro ty56 rfl (fun b22 hb22 => ?_)
        refine Cov.store 0 [_, _, _] [_, _, _] .ro rfl rfl rfl ty56 rfl rfl rfl rfl ?_
        refine Cov.region_end ?_
        refine Cov.seq ?_
        refine Cov.drawL (.q 0 (.q 1 (.q 2 (.q 3 (.q 4 (.q 5 (.q 6 (.q 7 (.q 8 (.q 9 (.q 10 (.q 11 (.q 12 (.q 13 (.e 14 1 (.q 15 (.q 16 (.q 17 (.q 18 .nil))))))))))))))))))) [_, _, _] (by kernel_rfl) (by kernel_rfl) (pick_mem [0, 1, 2] rfl) ?_
        refine Cov.dq (.load_own_a 2 [_] rfl rfl ty24 rfl) rfl ?_
        refine Cov.dq (.fieldAddr 0 rfl fl34_0 ty3.sz rfl) rfl ?_
        refine Cov.dq (.load_own 1 rfl rfl ty3 rfl) rfl ?_
        refine Cov.dq (.fieldAddr 2 rfl fl56_2 ty3.sz rfl) rfl ?_
        refine Cov.dq (.load_own 0 rfl rfl ty3 rfl) rfl ?_
        refine Cov.dq (.move rfl) rfl ?_
        refine Cov.dq (.fieldAddr 0 rfl fl56_0 ty3.sz rfl) rfl ?_
        refine Cov.dq (.load_own 0 rfl rfl ty3 rfl) rfl ?_
        refine Cov.dq (.fieldAddr 0 rfl fl56_0 ty3.sz rfl) rfl ?_
        refine Cov.dq (.load_own 0 rfl rfl ty3 rfl) rfl ?_
        refine Cov.dq (.fieldAddr 1 rfl fl56_1 ty3.sz rfl) rfl ?_
        refine Cov.dq (.load_own 0 rfl rfl ty3 rfl) rfl ?_
        refine Cov.dq (.addw rfl rfl) rfl ?_
        obtain ⟨u23, hu23, r24⟩ := bind_some r18; clear r18
        obtain ⟨a25, k26, h27, s28⟩ := SlR.sub s2 hu23
        refine Cov.dq (.sliceR s2 rfl hu23 sl26 ty22.sz (fun h => .yes' rfl h) (fun h => .yes' rfl h) h27) rfl ?_
        obtain ⟨u29, hu29, r30⟩ := bind_some r24; clear r24
        refine Cov.callS (b1 := []) (b2 := [_, _, _]) (s1 := []) [_, _, _, _] [] .d1 rfl rfl Try.call23 rfl rfl (layout_Decode_c (G := G) List.mem_cons_self s28 hu29) rfl (fun v32 bo so h31 => ?_)
        obtain ⟨rfl, rfl, rfl⟩ := h31
        refine Cov.same (bl' := [_, _, _]) (sl' := []) rfl rfl rfl ?_
        refine Cov.clsL (HpLe.refl _) (pick_mem [0, 1, 2] rfl) ?_
        refine Cov.dq (.extract rfl rfl) rfl ?_
        refine Cov.dq (.extract rfl rfl) rfl ?_
        refine Cov.dq (.assign rfl) rfl ?_
        refine Cov.dq (.assign rfl) rfl ?_
        refine Cov.draw_end ?_
        refine Cov.prune [(8, _), (9, _)] ⟨rfl, rfl, trivial⟩ ?_
        cases r30
        refine Cov.drop 3 0 [] _ rfl rfl ?_
        refine Cov.retS (c := ⟨28, none⟩) (.inr ⟨_, rfl⟩) [.tmp 8, .tmp 9] [_, _] rfl Try.func28 Try.results28 ⟨RV.tmp rfl, RV.tmp rfl, trivial⟩ (fun _ h => List.mem_cons_of_mem _ h) ⟨rfl, rfl, rfl⟩
    · intro hb11
      refine Cov.split 21 rfl (fun c10 => ?_) (fun c10 => ?_)
      · refine Cov.g_off rfl rfl rfl ?_
        refine Cov.g_off rfl rfl rfl ?_
        refine Cov.g_off rfl rfl rfl ?_
        refine Cov.g_off rfl rfl rfl ?_
        refine Cov.g_off rfl rfl rfl ?_
        refine Cov.q .ro (.pick_t rfl rfl) rfl ?_
        refine Cov.prune _ ?_ (Cov.same rfl rfl rfl (hb11 () trivial))
        exact ⟨dor_t c10, rfl, rfl, rfl, rfl, trivial⟩
      · refine Cov.g_on rfl ?_
        refine Cov.q .ro (.move rfl) rfl ?_
        refine Cov.g_on rfl ?_
        refine Cov.q .ro (.fieldAddr 1 rfl fl34_1 ty32.sz rfl) rfl ?_
        refine Cov.g_on rfl ?_
        refine Cov.q .ro (.load_own 0 rfl rfl ty32 rfl) rfl ?_
        refine Cov.g_on rfl ?_
        refine Cov.q .ro (.len_sl rfl rfl sl32) rfl ?_
        refine Cov.g_on rfl ?_
        refine Cov.q .ro (.geq rfl rfl) rfl ?_
        refine Cov.q .ro (.pick_f rfl rfl) rfl ?_
        refine Cov.prune _ ?_ (Cov.same rfl rfl rfl (hb11 () trivial))
        exact ⟨dor_f c10, rfl, rfl, rfl, rfl, trivial⟩

set_option maxHeartbeats 4000000 in
set_option maxRecDepth 100000 in
theorem ref04_Same_c {Fs : List Hp} {G : Hp} {a0 : Option Addr} {k0 : Nat} {x0 : List Int} {a1 : Option Addr} {k1 : Nat} {x1 : List Int} {r : Bool} (hG : G ∈ Fs) (s0 : SlR (Rep.int .i64) G a0 k0 x0) (s1 : SlR (Rep.int .i64) G a1 k1 x1) (h : ref04_Same x0 x1 = some r) : RetS Try.prog 34 #[.slice a0 x0.length k0, .slice a1 x1.length k1] Fs [] [] (fun v bo so => v = .bool r ∧ bo = [] ∧ so = []) := by
  unfold ref04_Same at h
  try dsimp only at h
  refine RetS.of (vs := [_, _]) Try.func34 rfl Try.ntmps34 [(0, _), (1, _)] ⟨rfl, rfl, trivial⟩ rfl hG fun w0 S0 hS0 B0 => ?_
  refine Cov.seq ?_
  refine Cov.region rfl ?_
  refine Cov.q .ro (.assign rfl) rfl ?_
  refine Cov.region_end ?_
  refine Cov.seq ?_
  refine Cov.seq ?_
  refine Cov.region rfl ?_
  refine Cov.q .ro (.move rfl) rfl ?_
  refine Cov.q .ro (.len_sl rfl rfl sl22) rfl ?_
  refine Cov.q .ro (.move rfl) rfl ?_
  refine Cov.q .ro (.len_sl rfl rfl sl22) rfl ?_
  refine Cov.q .ro (.neq rfl rfl) rfl ?_
  refine Cov.region_end ?_
  refine Cov.cond_dec rfl (fun c1 => ?_) (fun c1 => ?_)
  · have r2 := ifT h c1; clear h
    refine Cov.seq ?_
    refine Cov.region rfl ?_
    refine Cov.q .ro (.assign rfl) rfl ?_
    refine Cov.region_end ?_
    cases r2
    refine Cov.retS (c := ⟨34, none⟩) (.inr ⟨_, rfl⟩) [.tmp 4] [_] rfl Try.func34 Try.results34 ⟨RV.tmp rfl, trivial⟩ (fun _ h => List.mem_cons_of_mem _ h) ⟨rfl, rfl, rfl⟩
  · have r3 := ifF h c1; clear h
    refine Cov.skip ?_
    refine Cov.seq ?_
    refine Cov.seq ?_
    refine Cov.region rfl ?_
    refine Cov.q .ro (.move rfl) rfl ?_
    refine Cov.q .ro (.len_sl rfl rfl sl22) rfl ?_
    refine Cov.q .ro (.move rfl) rfl ?_
    refine Cov.region_end ?_
    refine Cov.block ?_
    refine Cov.loop2 (α := Nat × List Int) (fun y => [(13, .int .i64 (y.1 : Int))]) [(0, _), (1, _), (12, _)] (fun y => []) (fun y => []) [] (fun y => []) [] (fun y => List.drop y.1 x0 = y.2 ∧ ref04_Same_L1 x1 y.2 y.1  = some r) (fun y => y.2.length) (0, x0) ⟨rfl, r3⟩ ⟨rfl, rfl, rfl, rfl, trivial⟩ rfl rfl rfl (fun y hI hb27 => ?_)
    obtain ⟨i23, w24⟩ := y
    obtain ⟨g25, r26⟩ := hI
    try dsimp only at g25 r26
    refine Cov.prune [(13, .int .i64 (i23 : Int)), (0, _), (1, _), (12, _)] ⟨rfl, rfl, rfl, rfl, trivial⟩ ?_
    refine Cov.same (bl' := []) (sl' := []) (Fs' := G :: Fs) rfl rfl rfl ?_
    cases w24 with
    | nil =>
      rw [ref04_Same_L1] at r26; try dsimp only at r26
      refine Cov.seq ?_
      refine Cov.region rfl ?_
      refine Cov.q .ro (.lss rfl rfl) rfl ?_
      refine Cov.region_end ?_
      refine Cov.seq ?_
      refine Cov.cond_dec rfl (fun c => absurd c (drop_nil g25)) (fun _ => ?_)
      refine Cov.exit rfl ?_
      refine Cov.seq ?_
      refine Cov.region rfl ?_
      refine Cov.q .ro (.assign rfl) rfl ?_
      refine Cov.region_end ?_
      cases r26
      refine Cov.retS (c := ⟨34, none⟩) (.inr ⟨_, rfl⟩) [.tmp 4] [_] rfl Try.func34 Try.results34 ⟨RV.tmp rfl, trivial⟩ (fun _ h => List.mem_cons_of_mem _ h) ⟨rfl, rfl, rfl⟩
    | cons x32 xs33 =>
      have r31 : ref04_Same_B1 x1 (ref04_Same_L1 x1 xs33 (i23 + 1)) x32 i23  = some r := r26; clear r26; unfold ref04_Same_B1 at r31; try dsimp only at r31
      refine Cov.seq ?_
      refine Cov.region rfl ?_
      refine Cov.q .ro (.lss rfl rfl) rfl ?_
      refine Cov.region_end ?_
      refine Cov.seq ?_
      refine Cov.cond_dec rfl (fun _ => ?_) (fun c => absurd (drop_lt g25) c)
      refine Cov.skip ?_
      refine Cov.seq ?_
      refine Cov.block ?_
      refine Cov.seq ?_
      refine Cov.region rfl ?_
      refine Cov.q .ro (.move rfl) rfl ?_
      refine Cov.q .ro (.assign rfl) rfl ?_
      refine Cov.region_end ?_
      refine Cov.seq ?_
      refine Cov.drawL (.q 0 (.q 1 (.q 2 (.q 3 (.q 4 (.q 5 (.q 6 (.q 7 (.q 8 .nil))))))))) [] (by kernel_rfl) (by kernel_rfl) (pick_mem [] rfl) ?_
      refine Cov.dq (.move rfl) rfl ?_
      refine Cov.dq (.move rfl) rfl ?_
      obtain ⟨c34, p35, h36⟩ := SlR.get s0 (drop_idx g25)
      obtain rfl := h36
      refine Cov.dq (.idxR s0 rfl rfl (drop_idx g25) sl22 ty3.sz) rfl ?_
      refine Cov.dq (.load_rp p35 List.mem_cons_self rfl ty3 rfl) rfl ?_
      refine Cov.dq (.move rfl) rfl ?_
      refine Cov.dq (.move rfl) rfl ?_
      obtain ⟨u37, hu37, r38⟩ := bind_some r31; clear r31
      obtain ⟨c39, p40, h41⟩ := SlR.get s1 hu37
      obtain rfl := h41
      refine Cov.dq (.idxR s1 rfl rfl hu37 sl22 ty3.sz) rfl ?_
      refine Cov.dq (.load_rp p40 List.mem_cons_self rfl ty3 rfl) rfl ?_
      refine Cov.dq (.neq rfl rfl) rfl ?_
      refine Cov.draw_end ?_
      refine Cov.cond_dec rfl (fun c42 => ?_) (fun c42 => ?_)
      · have r43 := ifT r38 c42; clear r38
        refine Cov.seq ?_
        refine Cov.region rfl ?_
        refine Cov.q .ro (.assign rfl) rfl ?_
        refine Cov.region_end ?_
        refine Cov.prune [(4, _)] ⟨rfl, trivial⟩ ?_
        cases r43
        refine Cov.retS (c := ⟨34, none⟩) (.inr ⟨_, rfl⟩) [.tmp 4] [_] rfl Try.func34 Try.results34 ⟨RV.tmp rfl, trivial⟩ (fun _ h => List.mem_cons_of_mem _ h) ⟨rfl, rfl, rfl⟩
      · have r44 := ifF r38 c42; clear r38
        refine Cov.skip ?_
        refine Cov.inBlock ?_
        refine Cov.region rfl ?_
        refine Cov.q .ro (.addw rfl rfl) rfl ?_
        refine Cov.q .ro (.move rfl) rfl ?_
        refine Cov.region_end ?_
        refine Cov.prune [(13, _), (0, _), (1, _), (12, _)] ⟨rfl, rfl, rfl, rfl, trivial⟩ ?_
        refine Cov.prune _ ?_ (Cov.same rfl rfl rfl (hb27 ((i23 + 1), xs33) ⟨(drop_succ g25), r44⟩ (Nat.lt_succ_self _)))
        exact ⟨(congrArg (fun z => some (Value.int .i64 z)) (idx_wrap (SlR.len s0) g25)), rfl, rfl, rfl, trivial⟩

set_option maxHeartbeats 4000000 in
set_option maxRecDepth 100000 in
theorem law13_sane_c {Fs : List Hp} {G : Hp}  {r : Bool} (hG : G ∈ Fs)  (h : law13_sane = some r) : RetS Try.prog 10 #[] Fs [] [] (fun v bo so => v = .bool r ∧ bo = [] ∧ so = []) := by
  unfold law13_sane at h
  try dsimp only at h
  refine RetS.of (vs := []) Try.func10 rfl Try.ntmps10 [] trivial rfl hG fun w0 S0 hS0 B0 => ?_
  refine Cov.seq ?_
  refine Cov.region rfl ?_
  refine Cov.q .ro (.assign rfl) rfl ?_
  refine Cov.region_end ?_
  refine Cov.seq ?_
  refine Cov.region rfl ?_
  refine Cov.q .ro (.build [_] [(0, _)] ty24 pl24 rfl rfl) rfl ?_
  refine Cov.alloc .ro ty24 rfl (fun b1 hb1 => ?_)
  refine Cov.store 0 [_] [_] .ro rfl rfl rfl ty24 rfl rfl rfl rfl ?_
  refine Cov.region_end ?_
  refine Cov.seq ?_
  refine Cov.region rfl ?_
  refine Cov.q .ro (.load_own_a 0 [_] rfl rfl ty24 rfl) rfl ?_
  obtain ⟨u2, hu2, r3⟩ := bind_some h; clear h
  refine Cov.callS (b1 := []) (b2 := [_]) (s1 := []) [_] [] .ro rfl rfl Try.call16 rfl rfl (layout_Digits_c (G := G) List.mem_cons_self  hu2) rfl (fun v5 bo so h4 => ?_)
  obtain ⟨rfl, rfl, rfl⟩ := h4
  refine Cov.same (bl' := [_]) (sl' := []) rfl rfl rfl ?_
  refine Cov.q .ro (.move rfl) rfl ?_
  refine Cov.q .ro (.extract rfl rfl) rfl ?_
  refine Cov.q .ro (.extract rfl rfl) rfl ?_
  refine Cov.q .ro (.assign rfl) rfl ?_
  refine Cov.q .ro (.assign rfl) rfl ?_
  refine Cov.region_end ?_
  refine Cov.seq ?_
  refine Cov.region rfl ?_
  refine Cov.q .ro (.load_own_a 0 [_] rfl rfl ty24 rfl) rfl ?_
  refine Cov.lit [_] [(0, _)] .ro sl25 ty9 rfl rfl rfl rfl rfl rfl (fun b6 hb6 => ?_)
  have o7 : OL Rep.str G [.string ⟨#[35]⟩] ([⟨#[35]⟩] : List ByteArray) := ((OL.cons rfl (Rep.strI ⟨#[35]⟩) (OL.nil (Rp' := Rep.str))) :)
  refine Cov.reval 17 (n' := ([⟨#[35]⟩] : List ByteArray).length) rfl rfl ?_
  refine Cov.freezeR 0 rfl rfl o7 [] rfl B0 (fun G9 e10 B11 s12 => ?_)
  obtain ⟨u14, hu14, r15⟩ := bind_some r3; clear r3
  refine Cov.callW (b1 := []) (b2 := [_]) (s1 := []) [_, _, _] [] .ro rfl rfl Try.call19 rfl rfl (layout_Encode_c (G := G9) List.mem_cons_self s12 hu14) rfl B11 (fun v17 bo so G18 e19 B20 h16 => ?_)
  obtain ⟨a22, k23, a25, k26, rfl, rfl, rfl, s24, s27⟩ := h16
  refine Cov.same (bl' := [_]) (sl' := []) rfl rfl rfl ?_
  refine Cov.q .ro (.move rfl) rfl ?_
  refine Cov.q .ro (.extract rfl rfl) rfl ?_
  refine Cov.q .ro (.extract rfl rfl) rfl ?_
  refine Cov.q .ro (.extract rfl rfl) rfl ?_
  refine Cov.alloc .ro ty34 rfl (fun b28 hb28 => ?_)
  refine Cov.q .ro (.assign rfl) rfl ?_
  refine Cov.store 0 [_, _] [_, _] .ro rfl rfl rfl ty34 rfl rfl rfl rfl ?_
  refine Cov.q .ro (.assign rfl) rfl ?_
  refine Cov.region_end ?_
  refine Cov.prune [(1, _), (2, _), (3, _), (5, _), (4, _), (6, _)] ⟨rfl, rfl, rfl, rfl, rfl, rfl, trivial⟩ ?_
  refine Cov.seq ?_
  refine Cov.region rfl ?_
  refine Cov.q .ro (.load_own_a 1 [_] rfl rfl ty24 rfl) rfl ?_
  refine Cov.q .ro (.load_own_a 0 [_, _] rfl rfl ty34 rfl) rfl ?_
  refine Cov.q .ro (.move rfl) rfl ?_
  obtain ⟨u29, hu29, r30⟩ := bind_some r15; clear r15
  refine Cov.callS (b1 := []) (b2 := [_, _]) (s1 := []) [_, _, _, _] [] .ro rfl rfl Try.call28 rfl rfl (layout_Record_c (G := G18) List.mem_cons_self s27 s24 hu29) rfl (fun v32 bo so h31 => ?_)
  obtain ⟨rfl, rfl, rfl⟩ := h31
  refine Cov.same (bl' := [_, _]) (sl' := []) rfl rfl rfl ?_
  refine Cov.q .ro (.move rfl) rfl ?_
  refine Cov.q .ro (.extract rfl rfl) rfl ?_
  refine Cov.q .ro (.extract rfl rfl) rfl ?_
  refine Cov.q .ro (.assign rfl) rfl ?_
  refine Cov.q .ro (.assign rfl) rfl ?_
  refine Cov.region_end ?_
  refine Cov.seq ?_
  refine Cov.region rfl ?_
  refine Cov.q .ro (.move rfl) rfl ?_
  refine Cov.q .ro (.eql rfl rfl) rfl ?_
  refine Cov.q .ro (.move rfl) rfl ?_
  refine Cov.cutR 3 (β := Unit) (fun y => [(34, .bool (decide ((u2.2 = 0) ∧ (u14.2.2 = 0))))]) [(2, _), (4, _), (7, _), (8, _)] (fun y => G18 :: Fs) (fun y => []) [_, _] (fun y => []) [] (fun y => True) ⟨rfl, rfl, rfl, rfl, trivial⟩ [0, 1] rfl [] rfl ?_ ?_
  · rintro _ _
    refine Cov.prune [(34, .bool (decide ((u2.2 = 0) ∧ (u14.2.2 = 0)))), (2, _), (4, _), (7, _), (8, _)] ⟨rfl, rfl, rfl, rfl, rfl, trivial⟩ ?_
    refine Cov.same (bl' := [_, _]) (sl' := []) (Fs' := G18 :: Fs) rfl rfl rfl ?_
    refine Cov.q .ro (.move rfl) rfl ?_
    refine Cov.cutR 3 (β := Unit) (fun y => [(38, .bool (decide (((u2.2 = 0) ∧ (u14.2.2 = 0)) ∧ (u29.2 = 0))))]) [(2, _), (4, _), (7, _)] (fun y => G18 :: Fs) (fun y => []) [_, _] (fun y => []) [] (fun y => True) ⟨rfl, rfl, rfl, trivial⟩ [0, 1] rfl [] rfl ?_ ?_
    · rintro _ _
      refine Cov.prune [(38, .bool (decide (((u2.2 = 0) ∧ (u14.2.2 = 0)) ∧ (u29.2 = 0)))), (2, _), (4, _), (7, _)] ⟨rfl, rfl, rfl, rfl, trivial⟩ ?_
      refine Cov.same (bl' := [_, _]) (sl' := []) (Fs' := G18 :: Fs) rfl rfl rfl ?_
      refine Cov.q .ro (.move rfl) rfl ?_
      refine Cov.cutR 3 (β := Unit) (fun y => [(42, .bool (decide ((((u2.2 = 0) ∧ (u14.2.2 = 0)) ∧ (u29.2 = 0)) ∧ (u2.1 = 2))))]) [(4, _), (7, _)] (fun y => G18 :: Fs) (fun y => []) [_, _] (fun y => []) [] (fun y => True) ⟨rfl, rfl, trivial⟩ [0, 1] rfl [] rfl ?_ ?_
      · rintro _ _
        refine Cov.prune [(42, .bool (decide ((((u2.2 = 0) ∧ (u14.2.2 = 0)) ∧ (u29.2 = 0)) ∧ (u2.1 = 2)))), (4, _), (7, _)] ⟨rfl, rfl, rfl, trivial⟩ ?_
        refine Cov.same (bl' := [_, _]) (sl' := []) (Fs' := G18 :: Fs) rfl rfl rfl ?_
        refine Cov.q .ro (.move rfl) rfl ?_
        refine Cov.cutR 4 (β := Unit) (fun y => [(47, .bool (decide (((((u2.2 = 0) ∧ (u14.2.2 = 0)) ∧ (u29.2 = 0)) ∧ (u2.1 = 2)) ∧ ((u14.1.length : Int) = 1))))]) [(4, _), (7, _)] (fun y => G18 :: Fs) (fun y => []) [_, _] (fun y => []) [] (fun y => True) ⟨rfl, rfl, trivial⟩ [0, 1] rfl [] rfl ?_ ?_
        · rintro _ _
          refine Cov.prune [(47, .bool (decide (((((u2.2 = 0) ∧ (u14.2.2 = 0)) ∧ (u29.2 = 0)) ∧ (u2.1 = 2)) ∧ ((u14.1.length : Int) = 1)))), (4, _), (7, _)] ⟨rfl, rfl, rfl, trivial⟩ ?_
          refine Cov.same (bl' := [_, _]) (sl' := []) (Fs' := G18 :: Fs) rfl rfl rfl ?_
          refine Cov.q .ro (.move rfl) rfl ?_
          obtain ⟨u71, h72, r73⟩ := bind_some r30; clear r30
          refine Cov.cutR 6 (β := Hp) (fun y => [(54, .bool u71)]) [(7, _)] (fun y => y :: Fs) (fun y => []) [_, _] (fun y => []) [] (fun y => HpLe G18 y ∧ Bd w0 S0 Fs y) ⟨rfl, trivial⟩ [0, 1] rfl [] rfl ?_ ?_
          · rintro G74 ⟨e75, B76⟩
            refine Cov.prune [(54, .bool u71), (7, _)] ⟨rfl, rfl, trivial⟩ ?_
            refine Cov.same (bl' := [_, _]) (sl' := []) (Fs' := G74 :: Fs) rfl rfl rfl ?_
            refine Cov.q .ro (.move rfl) rfl ?_
            refine Cov.cutR 3 (β := Unit) (fun y => [(58, .bool (decide ((u71 = true) ∧ (u29.1 = ⟨#[35]⟩))))]) [] (fun y => G74 :: Fs) (fun y => []) [_, _] (fun y => []) [] (fun y => True) trivial [0, 1] rfl [] rfl ?_ ?_
            · rintro _ _
              refine Cov.prune [(58, .bool (decide ((u71 = true) ∧ (u29.1 = ⟨#[35]⟩))))] ⟨rfl, trivial⟩ ?_
              refine Cov.same (bl' := [_, _]) (sl' := []) (Fs' := G74 :: Fs) rfl rfl rfl ?_
              refine Cov.q .ro (.assign rfl) rfl ?_
              refine Cov.region_end ?_
              cases r73
              refine Cov.drop 2 0 [] _ rfl rfl ?_
              refine Cov.retS (c := ⟨10, none⟩) (.inr ⟨_, rfl⟩) [.tmp 0] [_] rfl Try.func10 Try.results10 ⟨RV.tmp rfl, trivial⟩ (fun _ h => List.mem_cons_of_mem _ h) ⟨rfl, rfl, rfl⟩
            · intro hb79
              refine Cov.split_b 55 rfl (fun c78 => ?_) (fun c78 => ?_)
              · refine Cov.g_on rfl ?_
                refine Cov.q .ro (.move rfl) rfl ?_
                refine Cov.g_on rfl ?_
                refine Cov.q .ro (.eql_s rfl rfl) rfl ?_
                refine Cov.q .ro (.pick_t rfl rfl) rfl ?_
                refine Cov.prune _ ?_ (Cov.same rfl rfl rfl (hb79 () trivial))
                exact ⟨dand_t c78, trivial⟩
              · refine Cov.g_off rfl rfl rfl ?_
                refine Cov.g_off rfl rfl rfl ?_
                refine Cov.q .ro (.pick_f rfl rfl) rfl ?_
                refine Cov.prune _ ?_ (Cov.same rfl rfl rfl (hb79 () trivial))
                exact ⟨dand_f (bne_of c78), trivial⟩
          · intro hb70
            refine Cov.split 48 rfl (fun c69 => ?_) (fun c69 => ?_)
            · have r82 := ifT h72 c69
              refine Cov.g_on rfl ?_
              refine Cov.q .ro (.move rfl) rfl ?_
              refine Cov.g_on rfl ?_
              obtain ⟨u83, hu83, r84⟩ := bind_some r82; clear r82
              obtain ⟨c85, p86, h87⟩ := SlR.get s24 hu83
              obtain ⟨a88, k89, rfl, s90⟩ := h87
              refine Cov.q .ro (.idxR s24 rfl rfl hu83 sl26 ty22.sz) rfl ?_
              refine Cov.g_on rfl ?_
              refine Cov.q .ro (.load_rp p86 List.mem_cons_self rfl ty22 rfl) rfl ?_
              refine Cov.g_on rfl ?_
              refine Cov.lit [_, _] [(0, _), (1, _)] .ro sl22 ty3 rfl rfl rfl rfl rfl rfl (fun b91 hb91 => ?_)
              have o92 : OL (Rep.int .i64) G18 [.int .i64 1, .int .i64 2] ([1, 2] : List Int) := ((OL.cons rfl (Rep.intI .i64 1) (OL.cons rfl (Rep.intI .i64 2) (OL.nil (Rp' := (Rep.int .i64))))) :)
              refine Cov.reval 52 (n' := ([1, 2] : List Int).length) rfl rfl ?_
              refine Cov.g_on rfl ?_
              refine Cov.freezeR 0 rfl rfl o92 [] rfl B20 (fun G94 e95 B96 s97 => ?_)
              obtain ⟨u99, hu99, r100⟩ := bind_some r84; clear r84
              refine Cov.callS (b1 := []) (b2 := [_, _]) (s1 := []) [_, _] [] .ro rfl rfl Try.call34 rfl rfl (ref04_Same_c (G := G94) List.mem_cons_self (SlR.mono e95 s90) s97 hu99) rfl (fun v102 bo so h101 => ?_)
              obtain ⟨rfl, rfl, rfl⟩ := h101
              refine Cov.same (bl' := [_, _]) (sl' := []) rfl rfl rfl ?_
              refine Cov.q .ro (.pick_t rfl rfl) rfl ?_
              refine Cov.prune _ ?_ (Cov.same rfl rfl rfl (hb70 G94 ⟨e95, B96⟩))
              exact ⟨sval r100, rfl, trivial⟩
            · have r103 := ifF h72 c69
              refine Cov.g_off rfl rfl rfl ?_
              refine Cov.g_off rfl rfl rfl ?_
              refine Cov.g_off rfl rfl rfl ?_
              refine Cov.g_off rfl rfl rfl ?_
              refine Cov.g_off rfl rfl rfl ?_
              refine Cov.q .ro (.pick_f rfl rfl) rfl ?_
              refine Cov.prune _ ?_ (Cov.same rfl rfl rfl (hb70 G18 ⟨(HpLe.refl _), B20⟩))
              exact ⟨sval r103, rfl, trivial⟩
        · intro hb46
          refine Cov.split 43 rfl (fun c45 => ?_) (fun c45 => ?_)
          · refine Cov.g_on rfl ?_
            refine Cov.q .ro (.move rfl) rfl ?_
            refine Cov.g_on rfl ?_
            refine Cov.q .ro (.len_sl rfl rfl sl26) rfl ?_
            refine Cov.g_on rfl ?_
            refine Cov.q .ro (.eql rfl rfl) rfl ?_
            refine Cov.q .ro (.pick_t rfl rfl) rfl ?_
            refine Cov.prune _ ?_ (Cov.same rfl rfl rfl (hb46 () trivial))
            exact ⟨dand_t c45, rfl, rfl, trivial⟩
          · refine Cov.g_off rfl rfl rfl ?_
            refine Cov.g_off rfl rfl rfl ?_
            refine Cov.g_off rfl rfl rfl ?_
            refine Cov.q .ro (.pick_f rfl rfl) rfl ?_
            refine Cov.prune _ ?_ (Cov.same rfl rfl rfl (hb46 () trivial))
            exact ⟨dand_f c45, rfl, rfl, trivial⟩
      · intro hb42
        refine Cov.split 39 rfl (fun c41 => ?_) (fun c41 => ?_)
        · refine Cov.g_on rfl ?_
          refine Cov.q .ro (.move rfl) rfl ?_
          refine Cov.g_on rfl ?_
          refine Cov.q .ro (.eql rfl rfl) rfl ?_
          refine Cov.q .ro (.pick_t rfl rfl) rfl ?_
          refine Cov.prune _ ?_ (Cov.same rfl rfl rfl (hb42 () trivial))
          exact ⟨dand_t c41, rfl, rfl, trivial⟩
        · refine Cov.g_off rfl rfl rfl ?_
          refine Cov.g_off rfl rfl rfl ?_
          refine Cov.q .ro (.pick_f rfl rfl) rfl ?_
          refine Cov.prune _ ?_ (Cov.same rfl rfl rfl (hb42 () trivial))
          exact ⟨dand_f c41, rfl, rfl, trivial⟩
    · intro hb38
      refine Cov.split 35 rfl (fun c37 => ?_) (fun c37 => ?_)
      · refine Cov.g_on rfl ?_
        refine Cov.q .ro (.move rfl) rfl ?_
        refine Cov.g_on rfl ?_
        refine Cov.q .ro (.eql rfl rfl) rfl ?_
        refine Cov.q .ro (.pick_t rfl rfl) rfl ?_
        refine Cov.prune _ ?_ (Cov.same rfl rfl rfl (hb38 () trivial))
        exact ⟨dand_t c37, rfl, rfl, rfl, trivial⟩
      · refine Cov.g_off rfl rfl rfl ?_
        refine Cov.g_off rfl rfl rfl ?_
        refine Cov.q .ro (.pick_f rfl rfl) rfl ?_
        refine Cov.prune _ ?_ (Cov.same rfl rfl rfl (hb38 () trivial))
        exact ⟨dand_f c37, rfl, rfl, rfl, trivial⟩
  · intro hb34
    refine Cov.split 31 rfl (fun c33 => ?_) (fun c33 => ?_)
    · refine Cov.g_on rfl ?_
      refine Cov.q .ro (.move rfl) rfl ?_
      refine Cov.g_on rfl ?_
      refine Cov.q .ro (.eql rfl rfl) rfl ?_
      refine Cov.q .ro (.pick_t rfl rfl) rfl ?_
      refine Cov.prune _ ?_ (Cov.same rfl rfl rfl (hb34 () trivial))
      exact ⟨dand_t c33, rfl, rfl, rfl, rfl, trivial⟩
    · refine Cov.g_off rfl rfl rfl ?_
      refine Cov.g_off rfl rfl rfl ?_
      refine Cov.q .ro (.pick_f rfl rfl) rfl ?_
      refine Cov.prune _ ?_ (Cov.same rfl rfl rfl (hb34 () trivial))
      exact ⟨dand_f c33, rfl, rfl, rfl, rfl, trivial⟩

set_option maxHeartbeats 4000000 in
set_option maxRecDepth 100000 in
theorem make_Few_c {Fs : List Hp} {G : Hp} {a0 : Option Addr} {k0 : Nat} {x0 : List Int} {r : Bool} (hG : G ∈ Fs) (s0 : SlR (Rep.int .i64) G a0 k0 x0) (h : make_Few x0 = some r) : RetS Try.prog 11 #[.slice a0 x0.length k0] Fs [] [] (fun v bo so => v = .bool r ∧ bo = [] ∧ so = []) := by
  unfold make_Few at h
  try dsimp only at h
  refine RetS.of (vs := [_]) Try.func11 rfl Try.ntmps11 [(0, _)] ⟨rfl, trivial⟩ rfl hG fun w0 S0 hS0 B0 => ?_
  refine Cov.seq ?_
  refine Cov.region rfl ?_
  refine Cov.q .ro (.assign rfl) rfl ?_
  refine Cov.region_end ?_
  refine Cov.seq ?_
  refine Cov.region rfl ?_
  refine Cov.q .ro (.move rfl) rfl ?_
  refine Cov.q .ro (.len_sl rfl rfl sl22) rfl ?_
  refine Cov.q .ro (.leq rfl rfl) rfl ?_
  refine Cov.q .ro (.assign rfl) rfl ?_
  refine Cov.region_end ?_
  cases h
  refine Cov.retS (c := ⟨11, none⟩) (.inr ⟨_, rfl⟩) [.tmp 2] [_] rfl Try.func11 Try.results11 ⟨RV.tmp rfl, trivial⟩ (fun _ h => List.mem_cons_of_mem _ h) ⟨rfl, rfl, rfl⟩

set_option maxHeartbeats 4000000 in
set_option maxRecDepth 100000 in
theorem law13_small_c {Fs : List Hp} {G : Hp} {a0 : Option Addr} {k0 : Nat} {x0 : List (List Int)} {r : Bool} (hG : G ∈ Fs) (s0 : SlR (Rep.sl (Rep.int .i64)) G a0 k0 x0) (h : law13_small x0 = some r) : RetS Try.prog 12 #[.slice a0 x0.length k0] Fs [] [] (fun v bo so => v = .bool r ∧ bo = [] ∧ so = []) := by
  unfold law13_small at h
  try dsimp only at h
  refine RetS.of (vs := [_]) Try.func12 rfl Try.ntmps12 [(0, _)] ⟨rfl, trivial⟩ rfl hG fun w0 S0 hS0 B0 => ?_
  refine Cov.seq ?_
  refine Cov.region rfl ?_
  refine Cov.q .ro (.assign rfl) rfl ?_
  refine Cov.region_end ?_
  refine Cov.seq ?_
  refine Cov.region rfl ?_
  refine Cov.q .ro (.assign rfl) rfl ?_
  refine Cov.region_end ?_
  refine Cov.seq ?_
  refine Cov.seq ?_
  refine Cov.region rfl ?_
  refine Cov.q .ro (.move rfl) rfl ?_
  refine Cov.q .ro (.len_sl rfl rfl sl26) rfl ?_
  refine Cov.q .ro (.move rfl) rfl ?_
  refine Cov.region_end ?_
  refine Cov.block ?_
  refine Cov.loop2 (α := Nat × List (List Int) × Int) (fun y => [(3, .int .i64 y.2.2), (8, .int .i64 (y.1 : Int))]) [(6, _), (7, _)] (fun y => []) (fun y => []) [] (fun y => []) [] (fun y => List.drop y.1 x0 = y.2.1 ∧ law13_small_L1 y.2.1 y.2.2 = some r) (fun y => y.2.1.length) (0, x0, 0) ⟨rfl, h⟩ ⟨rfl, rfl, rfl, rfl, trivial⟩ rfl rfl rfl (fun y hI hb21 => ?_)
  obtain ⟨i16, w17, v19⟩ := y
  obtain ⟨g18, r20⟩ := hI
  try dsimp only at g18 r20
  refine Cov.prune [(3, .int .i64 v19), (8, .int .i64 (i16 : Int)), (6, _), (7, _)] ⟨rfl, rfl, rfl, rfl, trivial⟩ ?_
  refine Cov.same (bl' := []) (sl' := []) (Fs' := G :: Fs) rfl rfl rfl ?_
  cases w17 with
  | nil =>
    rw [law13_small_L1] at r20; try dsimp only at r20
    refine Cov.seq ?_
    refine Cov.region rfl ?_
    refine Cov.q .ro (.lss rfl rfl) rfl ?_
    refine Cov.region_end ?_
    refine Cov.seq ?_
    refine Cov.cond_dec rfl (fun c => absurd c (drop_nil g18)) (fun _ => ?_)
    refine Cov.exit rfl ?_
    refine Cov.seq ?_
    refine Cov.region rfl ?_
    refine Cov.q .ro (.move rfl) rfl ?_
    refine Cov.q .ro (.lss rfl rfl) rfl ?_
    refine Cov.q .ro (.assign rfl) rfl ?_
    refine Cov.region_end ?_
    cases r20
    refine Cov.retS (c := ⟨12, none⟩) (.inr ⟨_, rfl⟩) [.tmp 2] [_] rfl Try.func12 Try.results12 ⟨RV.tmp rfl, trivial⟩ (fun _ h => List.mem_cons_of_mem _ h) ⟨rfl, rfl, rfl⟩
  | cons x25 xs26 =>
    have r24 : law13_small_B1 (law13_small_L1 xs26) x25 v19 = some r := r20; clear r20; unfold law13_small_B1 at r24; try dsimp only at r24
    refine Cov.seq ?_
    refine Cov.region rfl ?_
    refine Cov.q .ro (.lss rfl rfl) rfl ?_
    refine Cov.region_end ?_
    refine Cov.seq ?_
    refine Cov.cond_dec rfl (fun _ => ?_) (fun c => absurd (drop_lt g18) c)
    refine Cov.skip ?_
    refine Cov.seq ?_
    refine Cov.block ?_
    refine Cov.seq ?_
    refine Cov.region rfl ?_
    obtain ⟨c27, p28, h29⟩ := SlR.get s0 (drop_idx g18)
    obtain ⟨a30, k31, rfl, s32⟩ := h29
    refine Cov.q .ro (.idxR s0 rfl rfl (drop_idx g18) sl26 ty22.sz) rfl ?_
    refine Cov.q .ro (.load_rp p28 List.mem_cons_self rfl ty22 rfl) rfl ?_
    refine Cov.q .ro (.assign rfl) rfl ?_
    refine Cov.region_end ?_
    refine Cov.region rfl ?_
    refine Cov.q .ro (.move rfl) rfl ?_
    refine Cov.q .ro (.move rfl) rfl ?_
    refine Cov.q .ro (.len_sl rfl rfl sl22) rfl ?_
    refine Cov.q .ro (.addw rfl rfl) rfl ?_
    refine Cov.q .ro (.addw rfl rfl) rfl ?_
    refine Cov.q .ro (.assign rfl) rfl ?_
    refine Cov.region_end ?_
    refine Cov.inBlock ?_
    refine Cov.region rfl ?_
    refine Cov.q .ro (.addw rfl rfl) rfl ?_
    refine Cov.q .ro (.move rfl) rfl ?_
    refine Cov.region_end ?_
    refine Cov.prune _ ?_ (Cov.same rfl rfl rfl (hb21 ((i16 + 1), xs26, (w64 (v19 + (w64 (1 + (x25.length : Int)))))) ⟨(drop_succ g18), r24⟩ (Nat.lt_succ_self _)))
    exact ⟨rfl, (congrArg (fun z => some (Value.int .i64 z)) (idx_wrap (SlR.len s0) g18)), rfl, rfl, trivial⟩

set_option maxHeartbeats 4000000 in
set_option maxRecDepth 100000 in
theorem make_New_c {Fs : List Hp} {G : Hp} {a0 : Option Addr} {k0 : Nat} {x0 : List Int} {r : ((List Int) × Int)} (hG : G ∈ Fs) (s0 : SlR (Rep.int .i64) G a0 k0 x0) (h : make_New x0 = some r) : RetS Try.prog 13 #[.slice a0 x0.length k0] Fs [] [] (fun v bo so => ∃ a0 : Option Addr, ∃ k0 : Nat, ∃ b0 : Nat, v = .pointer (some ⟨b0, 0, none⟩) ∧ bo = [(b0, .cells #[.slice a0 r.1.length k0, .int .i64 r.2] 69 (0, 0))] ∧ so = [] ∧ SlR (Rep.int .i64) G a0 k0 r.1) := by
  unfold make_New at h
  try dsimp only at h
  refine RetS.of (vs := [_]) Try.func13 rfl Try.ntmps13 [(0, _)] ⟨rfl, trivial⟩ rfl hG fun w0 S0 hS0 B0 => ?_
  refine Cov.seq ?_
  refine Cov.region rfl ?_
  refine Cov.q .ro (.assign rfl) rfl ?_
  refine Cov.region_end ?_
  refine Cov.seq ?_
  refine Cov.region rfl ?_
  refine Cov.q .ro (.move rfl) rfl ?_
  refine Cov.q .ro (.build [_, _] [(0, _)] ty69 pl69 rfl rfl) rfl ?_
  refine Cov.box [_, _] .ro rfl rfl rfl (fun b1 hb1 => ?_)
  refine Cov.q .ro (.assign rfl) rfl ?_
  refine Cov.region_end ?_
  cases h
  refine Cov.retS (c := ⟨13, none⟩) (.inr ⟨_, rfl⟩) [.tmp 2] [_] rfl Try.func13 Try.results13 ⟨RV.tmp rfl, trivial⟩ (fun _ h => List.mem_cons_of_mem _ h) ⟨a0, k0, _, rfl, rfl, rfl, s0⟩

set_option maxHeartbeats 4000000 in
set_option maxRecDepth 100000 in
theorem make_Mod_c {Fs : List Hp} {G : Hp} {x0 : Int} {x1 : Int} {r : Int} (hG : G ∈ Fs)  (h : make_Mod x0 x1 = some r) : RetS Try.prog 18 #[.int .i64 x0, .int .i64 x1] Fs [] [] (fun v bo so => v = .int .i64 r ∧ bo = [] ∧ so = []) := by
  unfold make_Mod at h
  try dsimp only at h
  refine RetS.of (vs := [_, _]) Try.func18 rfl Try.ntmps18 [(0, _), (1, _)] ⟨rfl, rfl, trivial⟩ rfl hG fun w0 S0 hS0 B0 => ?_
  refine Cov.seq ?_
  refine Cov.region rfl ?_
  refine Cov.q .ro (.assign rfl) rfl ?_
  refine Cov.region_end ?_
  refine Cov.seq ?_
  refine Cov.region rfl ?_
  refine Cov.q .ro (.move rfl) rfl ?_
  refine Cov.q .ro (.move rfl) rfl ?_
  obtain ⟨u1, hu1, r2⟩ := bind_some h; clear h
  refine Cov.q .ro (.remt rfl rfl (nz_some hu1)) rfl ?_
  refine Cov.q .ro (.move rfl) rfl ?_
  refine Cov.q .ro (.addw rfl rfl) rfl ?_
  refine Cov.q .ro (.move rfl) rfl ?_
  obtain ⟨u3, hu3, r4⟩ := bind_some r2; clear r2
  refine Cov.q .ro (.remt rfl rfl (nz_some hu3)) rfl ?_
  refine Cov.q .ro (.assign rfl) rfl ?_
  refine Cov.region_end ?_
  cases r4
  refine Cov.retS (c := ⟨18, none⟩) (.inr ⟨_, rfl⟩) [.tmp 4] [_] rfl Try.func18 Try.results18 ⟨RV.tmp rfl, trivial⟩ (fun _ h => List.mem_cons_of_mem _ h) ⟨rfl, rfl, rfl⟩

set_option maxHeartbeats 4000000 in
set_option maxRecDepth 100000 in
theorem make_Deck_Next_c {Fs : List Hp} {G : Hp} {p0 : Nat} {a0_0 : Option Addr} {k0_0 : Nat} {x0_0 : List Int} {x0_1 : Int} {x1 : Int} {r : (Int × ((List Int) × Int))} (hG : G ∈ Fs) (s0_0 : SlR (Rep.int .i64) G a0_0 k0_0 x0_0) (h : make_Deck_Next (x0_0, x0_1) x1 = some r) : RetS Try.prog 15 #[.pointer (some ⟨p0, 0, none⟩), .int .i64 x1] Fs [(p0, .cells #[.slice a0_0 x0_0.length k0_0, .int .i64 x0_1] 69 (0, 0))] [] (fun v bo so => ∃ a0 : Option Addr, ∃ k0 : Nat, v = .int .i64 r.1 ∧ bo = [(p0, .cells #[.slice a0 r.2.1.length k0, .int .i64 r.2.2] 69 (0, 0))] ∧ so = [] ∧ SlR (Rep.int .i64) G a0 k0 r.2.1) := by
  unfold make_Deck_Next at h
  try dsimp only at h
  refine RetS.of (vs := [_, _]) Try.func15 rfl Try.ntmps15 [(0, _), (1, _)] ⟨rfl, rfl, trivial⟩ rfl hG fun w0 S0 hS0 B0 => ?_
  refine Cov.seq ?_
  refine Cov.region rfl ?_
  refine Cov.q .ro (.assign rfl) rfl ?_
  refine Cov.region_end ?_
  refine Cov.seq ?_
  refine Cov.seq ?_
  refine Cov.drawL (.q 0 (.q 1 (.q 2 (.q 3 (.q 4 (.q 5 (.q 6 (.q 7 (.q 8 (.q 9 (.q 10 (.q 11 (.q 12 (.q 13 .nil)))))))))))))) [_] (by kernel_rfl) (by kernel_rfl) (pick_mem [0] rfl) ?_
  refine Cov.dq (.move rfl) rfl ?_
  refine Cov.dq (.lss rfl rfl) rfl ?_
  refine Cov.dq (.move rfl) rfl ?_
  refine Cov.cutD 11 (β := Unit) (fun y => [(19, .bool (decide ((x1 < 1) ∨ ((x0_0.length : Int) ≤ x0_1))))]) [(0, _), (1, _)] (fun y => G :: Fs) (fun y => []) [_] (fun y => []) [] (fun y => True) ⟨rfl, rfl, trivial⟩ [0] rfl [] rfl ?_ ?_
  · rintro _ _
    refine Cov.prune [(19, .bool (decide ((x1 < 1) ∨ ((x0_0.length : Int) ≤ x0_1)))), (0, _), (1, _)] ⟨rfl, rfl, rfl, trivial⟩ ?_
    refine Cov.same (bl' := [_]) (sl' := []) (Fs' := G :: Fs) rfl rfl rfl ?_
    refine Cov.draw_end ?_
    refine Cov.cond_dec rfl (fun c5 => ?_) (fun c5 => ?_)
    · have r6 := ifT h c5; clear h
      refine Cov.seq ?_
      refine Cov.region rfl ?_
      refine Cov.q .ro (.assign rfl) rfl ?_
      refine Cov.region_end ?_
      cases r6
      refine Cov.retS (c := ⟨15, none⟩) (.inr ⟨_, rfl⟩) [.tmp 4] [_] rfl Try.func15 Try.results15 ⟨RV.tmp rfl, trivial⟩ (fun _ h => List.mem_cons_of_mem _ h) ⟨a0_0, k0_0, rfl, rfl, rfl, s0_0⟩
    · have r7 := ifF h c5; clear h
      refine Cov.skip ?_
      refine Cov.seq ?_
      refine Cov.drawL (.q 0 (.q 1 (.q 2 (.q 3 (.q 4 (.q 5 (.q 6 (.q 7 (.q 8 (.q 9 (.q 10 .nil))))))))))) [_] (by kernel_rfl) (by kernel_rfl) (pick_mem [0] rfl) ?_
      refine Cov.dq (.move rfl) rfl ?_
      refine Cov.dq (.nilCheck rfl rfl) rfl ?_
      refine Cov.dq (.fieldAddr 0 rfl fl69_0 ty22.sz rfl) rfl ?_
      refine Cov.dq (.load_own 0 rfl rfl ty22 rfl) rfl ?_
      refine Cov.dq (.move rfl) rfl ?_
      refine Cov.dq (.nilCheck rfl rfl) rfl ?_
      refine Cov.dq (.fieldAddr 1 rfl fl69_1 ty3.sz rfl) rfl ?_
      refine Cov.dq (.load_own 0 rfl rfl ty3 rfl) rfl ?_
      obtain ⟨u8, hu8, r9⟩ := bind_some r7; clear r7
      obtain ⟨c10, p11, h12⟩ := SlR.get s0_0 hu8
      obtain rfl := h12
      refine Cov.dq (.idxR s0_0 rfl rfl hu8 sl22 ty3.sz) rfl ?_
      refine Cov.dq (.load_rp p11 List.mem_cons_self rfl ty3 rfl) rfl ?_
      refine Cov.dq (.assign rfl) rfl ?_
      refine Cov.draw_end ?_
      refine Cov.seq ?_
      refine Cov.region rfl ?_
      refine Cov.q .ro (.move rfl) rfl ?_
      refine Cov.q .ro (.nilCheck rfl rfl) rfl ?_
      refine Cov.q .ro (.fieldAddr 1 rfl fl69_1 ty3.sz rfl) rfl ?_
      refine Cov.q .ro (.load_own 0 rfl rfl ty3 rfl) rfl ?_
      refine Cov.q .ro (.addw rfl rfl) rfl ?_
      refine Cov.q .ro (.nilCheck rfl rfl) rfl ?_
      refine Cov.q .ro (.fieldAddr 1 rfl fl69_1 ty3.sz rfl) rfl ?_
      refine Cov.store 0 [_, _] [_] .ro rfl rfl rfl ty3 rfl rfl rfl rfl ?_
      refine Cov.region_end ?_
      refine Cov.prune [(1, _), (5, _)] ⟨rfl, rfl, trivial⟩ ?_
      refine Cov.seq ?_
      refine Cov.region rfl ?_
      refine Cov.q .ro (.move rfl) rfl ?_
      refine Cov.q .ro (.move rfl) rfl ?_
      obtain ⟨u13, hu13, r14⟩ := bind_some r9; clear r9
      refine Cov.callS (b1 := []) (b2 := [_]) (s1 := []) [_, _] [] .ro rfl rfl Try.call18 rfl rfl (make_Mod_c (G := G) List.mem_cons_self  hu13) rfl (fun v16 bo so h15 => ?_)
      obtain ⟨rfl, rfl, rfl⟩ := h15
      refine Cov.same (bl' := [_]) (sl' := []) rfl rfl rfl ?_
      refine Cov.q .ro (.assign rfl) rfl ?_
      refine Cov.region_end ?_
      cases r14
      refine Cov.retS (c := ⟨15, none⟩) (.inr ⟨_, rfl⟩) [.tmp 4] [_] rfl Try.func15 Try.results15 ⟨RV.tmp rfl, trivial⟩ (fun _ h => List.mem_cons_of_mem _ h) ⟨a0_0, k0_0, rfl, rfl, rfl, s0_0⟩
  · intro hb2
    refine Cov.split 8 rfl (fun c1 => ?_) (fun c1 => ?_)
    · refine Cov.dgq_off rfl rfl rfl ?_
      refine Cov.dgq_off rfl rfl rfl ?_
      refine Cov.dgq_off rfl rfl rfl ?_
      refine Cov.dgq_off rfl rfl rfl ?_
      refine Cov.dgq_off rfl rfl rfl ?_
      refine Cov.dgq_off rfl rfl rfl ?_
      refine Cov.dgq_off rfl rfl rfl ?_
      refine Cov.dgq_off rfl rfl rfl ?_
      refine Cov.dgq_off rfl rfl rfl ?_
      refine Cov.dgq_off rfl rfl rfl ?_
      refine Cov.dq (.pick_t rfl rfl) rfl ?_
      refine Cov.prune _ ?_ (Cov.same rfl rfl rfl (hb2 () trivial))
      exact ⟨dor_t c1, rfl, rfl, trivial⟩
    · refine Cov.dgq_on rfl ?_
      refine Cov.dq (.move rfl) rfl ?_
      refine Cov.dgq_on rfl ?_
      refine Cov.dq (.nilCheck rfl rfl) rfl ?_
      refine Cov.dgq_on rfl ?_
      refine Cov.dq (.fieldAddr 1 rfl fl69_1 ty3.sz rfl) rfl ?_
      refine Cov.dgq_on rfl ?_
      refine Cov.dq (.load_own 0 rfl rfl ty3 rfl) rfl ?_
      refine Cov.dgq_on rfl ?_
      refine Cov.dq (.move rfl) rfl ?_
      refine Cov.dgq_on rfl ?_
      refine Cov.dq (.nilCheck rfl rfl) rfl ?_
      refine Cov.dgq_on rfl ?_
      refine Cov.dq (.fieldAddr 0 rfl fl69_0 ty22.sz rfl) rfl ?_
      refine Cov.dgq_on rfl ?_
      refine Cov.dq (.load_own 0 rfl rfl ty22 rfl) rfl ?_
      refine Cov.dgq_on rfl ?_
      refine Cov.dq (.len_sl rfl rfl sl22) rfl ?_
      refine Cov.dgq_on rfl ?_
      refine Cov.dq (.geq rfl rfl) rfl ?_
      refine Cov.dq (.pick_f rfl rfl) rfl ?_
      refine Cov.prune _ ?_ (Cov.same rfl rfl rfl (hb2 () trivial))
      exact ⟨dor_f c1, rfl, rfl, trivial⟩

end Go.Proofs.Ythgmcgldmahgeaa
