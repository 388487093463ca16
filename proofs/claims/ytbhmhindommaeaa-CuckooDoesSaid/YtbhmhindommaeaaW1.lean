/- The walks. Printed by wip/lift/drive.py. -/
import Derived.Test.YtbhmhindommaeaaS
import Derived.Test.YtbhmhindommaeaaL17
import Derived.Test.YtbhmhindommaeaaRows
namespace Go.Proofs.Ytbhmhindommaeaa
open Go.RowKit
set_option linter.unusedSimpArgs false
set_option linter.unusedVariables false
set_option synthInstance.maxSize 2000
set_option synthInstance.maxHeartbeats 400000

theorem ty3 : TyI Try.prog 3 false 1 8 [.int .i64 0] := ⟨by kernel_rfl, by kernel_rfl, by kernel_rfl, by kernel_rfl⟩
theorem ty4 : TyI Try.prog 4 false 1 1 [.bool false] := ⟨by kernel_rfl, by kernel_rfl, by kernel_rfl, by kernel_rfl⟩
theorem ty22 : TyI Try.prog 22 false 1 24 [.slice none 0 0] := ⟨by kernel_rfl, by kernel_rfl, by kernel_rfl, by kernel_rfl⟩
theorem ty23 : TyI Try.prog 23 false 1 24 [.slice none 0 0] := ⟨by kernel_rfl, by kernel_rfl, by kernel_rfl, by kernel_rfl⟩
theorem ty25 : TyI Try.prog 25 true 2 32 [.int .i64 0, .slice none 0 0] := ⟨by kernel_rfl, by kernel_rfl, by kernel_rfl, by kernel_rfl⟩
theorem ty32 : TyI Try.prog 32 true 2 16 [.int .i64 0, .int .i64 0] := ⟨by kernel_rfl, by kernel_rfl, by kernel_rfl, by kernel_rfl⟩
theorem ty40 : TyI Try.prog 40 true 2 16 [.int .i64 0, .int .i64 0] := ⟨by kernel_rfl, by kernel_rfl, by kernel_rfl, by kernel_rfl⟩
theorem ty43 : TyI Try.prog 43 true 1 24 [.slice none 0 0] := ⟨by kernel_rfl, by kernel_rfl, by kernel_rfl, by kernel_rfl⟩
theorem ty49 : TyI Try.prog 49 false 1 24 [.slice none 0 0] := ⟨by kernel_rfl, by kernel_rfl, by kernel_rfl, by kernel_rfl⟩
theorem ty54 : TyI Try.prog 54 false 1 24 [.slice none 0 0] := ⟨by kernel_rfl, by kernel_rfl, by kernel_rfl, by kernel_rfl⟩
theorem ty64 : TyI Try.prog 64 true 2 32 [.slice none 0 0, .int .i64 0] := ⟨by kernel_rfl, by kernel_rfl, by kernel_rfl, by kernel_rfl⟩
theorem ty65 : TyI Try.prog 65 false 1 8 [.nilFunc] := ⟨by kernel_rfl, by kernel_rfl, by kernel_rfl, by kernel_rfl⟩
theorem ty71 : TyI Try.prog 71 true 3 72 [.slice none 0 0, .slice none 0 0, .slice none 0 0] := ⟨by kernel_rfl, by kernel_rfl, by kernel_rfl, by kernel_rfl⟩
theorem fl25_0 : fldOf Try.prog 25 0 = some (0, 3) := by kernel_rfl
theorem fl25_1 : fldOf Try.prog 25 1 = some (1, 23) := by kernel_rfl
theorem fl40_0 : fldOf Try.prog 40 0 = some (0, 3) := by kernel_rfl
theorem fl40_1 : fldOf Try.prog 40 1 = some (1, 3) := by kernel_rfl
theorem fl43_0 : fldOf Try.prog 43 0 = some (0, 22) := by kernel_rfl
theorem fl64_0 : fldOf Try.prog 64 0 = some (0, 22) := by kernel_rfl
theorem fl64_1 : fldOf Try.prog 64 1 = some (1, 3) := by kernel_rfl
theorem fl71_0 : fldOf Try.prog 71 0 = some (0, 54) := by kernel_rfl
theorem fl71_1 : fldOf Try.prog 71 1 = some (1, 22) := by kernel_rfl
theorem fl71_2 : fldOf Try.prog 71 2 = some (2, 49) := by kernel_rfl
theorem pl25 : plOf Try.prog 25 = some [(0, 1), (1, 1)] := by kernel_rfl
theorem pl40 : plOf Try.prog 40 = some [(0, 1), (1, 1)] := by kernel_rfl
theorem pl43 : plOf Try.prog 43 = some [(0, 1)] := by kernel_rfl
theorem pl64 : plOf Try.prog 64 = some [(0, 1), (1, 1)] := by kernel_rfl
theorem pl71 : plOf Try.prog 71 = some [(0, 1), (1, 1), (2, 1)] := by kernel_rfl
theorem sl22 : slOf Try.prog 22 = some 3 := by kernel_rfl
theorem sl23 : slOf Try.prog 23 = some 40 := by kernel_rfl
theorem sl31 : slOf Try.prog 31 = some 25 := by kernel_rfl
theorem sl34 : slOf Try.prog 34 = some 32 := by kernel_rfl
theorem sl49 : slOf Try.prog 49 = some 4 := by kernel_rfl
theorem sl54 : slOf Try.prog 54 = some 22 := by kernel_rfl
theorem sl60 : slOf Try.prog 60 = some 43 := by kernel_rfl
theorem ar32 : arOf Try.prog 32 = some (2, 3) := by kernel_rfl

set_option maxHeartbeats 4000000 in
set_option maxRecDepth 100000 in
theorem cuckoo_Check_c {Fs : List Hp} {G : Hp} {x0_0 : Int} {a0_1 : Option Addr} {k0_1 : Nat} {x0_1 : List (Int × Int)} {r : Int} (hG : G ∈ Fs) (s0_1 : SlR (Rep.pair (Rep.int .i64) (Rep.int .i64)) G a0_1 k0_1 x0_1) (h : cuckoo_Check (x0_0, x0_1) = some r) : RetS Try.prog 22 #[.agg #[.int .i64 x0_0, .slice a0_1 x0_1.length k0_1]] Fs [] [] (fun v bo so => v = .int .i64 r ∧ bo = [] ∧ so = []) := by
  unfold cuckoo_Check at h
  try dsimp only at h
  refine RetS.of (vs := [_]) Try.func22 rfl Try.ntmps22 [(0, _)] ⟨rfl, trivial⟩ rfl hG fun w0 S0 hS0 B0 => ?_
  refine Cov.seq ?_
  refine Cov.region rfl ?_
  refine Cov.box [_, _] .ro rfl rfl rfl (fun b1 hb1 => ?_)
  refine Cov.q .ro (.assign rfl) rfl ?_
  refine Cov.region_end ?_
  refine Cov.seq ?_
  refine Cov.seq ?_
  refine Cov.region rfl ?_
  refine Cov.q .ro (.fieldAddr 0 rfl fl25_0 ty3.sz rfl) rfl ?_
  refine Cov.q .ro (.load_own 0 rfl rfl ty3 rfl) rfl ?_
  refine Cov.q .ro (.lss rfl rfl) rfl ?_
  refine Cov.q .ro (.move rfl) rfl ?_
  refine Cov.cutR 4 (β := Unit) (fun y => [(12, .bool (decide ((x0_0 < 1) ∨ (64 < x0_0))))]) [(1, _)] (fun y => G :: Fs) (fun y => []) [_] (fun y => []) [] (fun y => True) ⟨rfl, trivial⟩ [0] rfl [] rfl ?_ ?_
  · rintro _ _
    refine Cov.prune [(12, .bool (decide ((x0_0 < 1) ∨ (64 < x0_0)))), (1, _)] ⟨rfl, rfl, trivial⟩ ?_
    refine Cov.same (bl' := [_]) (sl' := []) (Fs' := G :: Fs) rfl rfl rfl ?_
    refine Cov.q .ro (.move rfl) rfl ?_
    refine Cov.cutR 5 (β := Unit) (fun y => [(18, .bool (decide (((x0_0 < 1) ∨ (64 < x0_0)) ∨ ((x0_1.length : Int) < 1))))]) [(1, _)] (fun y => G :: Fs) (fun y => []) [_] (fun y => []) [] (fun y => True) ⟨rfl, trivial⟩ [0] rfl [] rfl ?_ ?_
    · rintro _ _
      refine Cov.prune [(18, .bool (decide (((x0_0 < 1) ∨ (64 < x0_0)) ∨ ((x0_1.length : Int) < 1)))), (1, _)] ⟨rfl, rfl, trivial⟩ ?_
      refine Cov.same (bl' := [_]) (sl' := []) (Fs' := G :: Fs) rfl rfl rfl ?_
      refine Cov.q .ro (.move rfl) rfl ?_
      refine Cov.cutR 5 (β := Unit) (fun y => [(24, .bool (decide ((((x0_0 < 1) ∨ (64 < x0_0)) ∨ ((x0_1.length : Int) < 1)) ∨ (4 < (x0_1.length : Int)))))]) [(1, _)] (fun y => G :: Fs) (fun y => []) [_] (fun y => []) [] (fun y => True) ⟨rfl, trivial⟩ [0] rfl [] rfl ?_ ?_
      · rintro _ _
        refine Cov.prune [(24, .bool (decide ((((x0_0 < 1) ∨ (64 < x0_0)) ∨ ((x0_1.length : Int) < 1)) ∨ (4 < (x0_1.length : Int))))), (1, _)] ⟨rfl, rfl, trivial⟩ ?_
        refine Cov.same (bl' := [_]) (sl' := []) (Fs' := G :: Fs) rfl rfl rfl ?_
        refine Cov.region_end ?_
        refine Cov.cond_dec rfl (fun c14 => ?_) (fun c14 => ?_)
        · have r15 := ifT h c14; clear h
          refine Cov.seq ?_
          refine Cov.region rfl ?_
          refine Cov.q .ro (.assign rfl) rfl ?_
          refine Cov.region_end ?_
          cases r15
          refine Cov.drop 1 0 [] _ rfl rfl ?_
          refine Cov.retS (c := ⟨22, none⟩) (.inr ⟨_, rfl⟩) [.tmp 2] [_] rfl Try.func22 Try.results22 ⟨RV.tmp rfl, trivial⟩ (fun _ h => List.mem_cons_of_mem _ h) ⟨rfl, rfl, rfl⟩
        · have r16 := ifF h c14; clear h
          refine Cov.skip ?_
          refine Cov.seq ?_
          refine Cov.seq ?_
          refine Cov.region rfl ?_
          refine Cov.q .ro (.fieldAddr 1 rfl fl25_1 ty23.sz rfl) rfl ?_
          refine Cov.q .ro (.load_own 0 rfl rfl ty23 rfl) rfl ?_
          refine Cov.q .ro (.len_sl rfl rfl sl23) rfl ?_
          refine Cov.q .ro (.move rfl) rfl ?_
          refine Cov.region_end ?_
          refine Cov.block ?_
          refine Cov.loop2 (α := Nat × (List (Int × Int))) (fun y => [(28, .int .i64 (y.1 : Int))]) [(26, _), (27, _)] (fun y => []) (fun y => []) [_] (fun y => []) [] (fun y => List.drop y.1 x0_1 = y.2 ∧ cuckoo_Check_L1 y.2  = some r) (fun y => y.2.length) (0, x0_1) ⟨rfl, r16⟩ ⟨rfl, rfl, rfl, trivial⟩ rfl rfl rfl (fun y hI hb49 => ?_)
          obtain ⟨i45, w46⟩ := y
          obtain ⟨g47, r48⟩ := hI
          try dsimp only at g47 r48
          refine Cov.prune [(28, .int .i64 (i45 : Int)), (26, _), (27, _)] ⟨rfl, rfl, rfl, trivial⟩ ?_
          refine Cov.same (bl' := [_]) (sl' := []) (Fs' := G :: Fs) rfl rfl rfl ?_
          cases w46 with
          | nil =>
            rw [cuckoo_Check_L1] at r48; try dsimp only at r48
            refine Cov.seq ?_
            refine Cov.region rfl ?_
            refine Cov.q .ro (.lss rfl rfl) rfl ?_
            refine Cov.region_end ?_
            refine Cov.seq ?_
            refine Cov.cond_dec rfl (fun c => absurd c (drop_nil g47)) (fun _ => ?_)
            refine Cov.exit rfl ?_
            refine Cov.seq ?_
            refine Cov.region rfl ?_
            refine Cov.q .ro (.assign rfl) rfl ?_
            refine Cov.region_end ?_
            cases r48
            refine Cov.drop 1 0 [] _ rfl rfl ?_
            refine Cov.retS (c := ⟨22, none⟩) (.inr ⟨_, rfl⟩) [.tmp 2] [_] rfl Try.func22 Try.results22 ⟨RV.tmp rfl, trivial⟩ (fun _ h => List.mem_cons_of_mem _ h) ⟨rfl, rfl, rfl⟩
          | cons x54 xs55 =>
            have r53 : cuckoo_Check_B1 (cuckoo_Check_L1 xs55) x54  = some r := r48; clear r48; unfold cuckoo_Check_B1 at r53; try dsimp only at r53
            refine Cov.seq ?_
            refine Cov.region rfl ?_
            refine Cov.q .ro (.lss rfl rfl) rfl ?_
            refine Cov.region_end ?_
            refine Cov.seq ?_
            refine Cov.cond_dec rfl (fun _ => ?_) (fun c => absurd (drop_lt g47) c)
            refine Cov.skip ?_
            refine Cov.seq ?_
            refine Cov.block ?_
            refine Cov.seq ?_
            refine Cov.region rfl ?_
            obtain ⟨c56, p57, h58⟩ := SlR.get s0_1 (drop_idx g47)
            obtain ⟨_, _, rfl, rfl, rfl⟩ := h58
            refine Cov.q .ro (.idxR s0_1 rfl rfl (drop_idx g47) sl23 ty40.sz) rfl ?_
            refine Cov.q .ro (.load_rp_a [_, _] p57 List.mem_cons_self rfl ty40 rfl) rfl ?_
            refine Cov.alloc .ro ty40 rfl (fun b59 hb59 => ?_)
            refine Cov.store 0 [_, _] [_, _] .ro rfl rfl rfl ty40 rfl rfl rfl rfl ?_
            refine Cov.region_end ?_
            refine Cov.seq ?_
            refine Cov.region rfl ?_
            refine Cov.q .ro (.fieldAddr 0 rfl fl40_0 ty3.sz rfl) rfl ?_
            refine Cov.q .ro (.load_own 0 rfl rfl ty3 rfl) rfl ?_
            refine Cov.q .ro (.lss rfl rfl) rfl ?_
            refine Cov.q .ro (.move rfl) rfl ?_
            refine Cov.cutR 4 (β := Unit) (fun y => [(39, .bool (decide ((x54.1 < 0) ∨ (2147483647 ≤ x54.1))))]) [(28, _), (26, _), (27, _), (4, _)] (fun y => G :: Fs) (fun y => []) [_, _] (fun y => []) [] (fun y => True) ⟨rfl, rfl, rfl, rfl, trivial⟩ [0, 1] rfl [] rfl ?_ ?_
            · rintro _ _
              refine Cov.prune [(39, .bool (decide ((x54.1 < 0) ∨ (2147483647 ≤ x54.1)))), (28, _), (26, _), (27, _), (4, _)] ⟨rfl, rfl, rfl, rfl, rfl, trivial⟩ ?_
              refine Cov.same (bl' := [_, _]) (sl' := []) (Fs' := G :: Fs) rfl rfl rfl ?_
              refine Cov.q .ro (.move rfl) rfl ?_
              refine Cov.cutR 4 (β := Unit) (fun y => [(44, .bool (decide (((x54.1 < 0) ∨ (2147483647 ≤ x54.1)) ∨ (x54.2 < 0))))]) [(28, _), (26, _), (27, _), (4, _)] (fun y => G :: Fs) (fun y => []) [_, _] (fun y => []) [] (fun y => True) ⟨rfl, rfl, rfl, rfl, trivial⟩ [0, 1] rfl [] rfl ?_ ?_
              · rintro _ _
                refine Cov.prune [(44, .bool (decide (((x54.1 < 0) ∨ (2147483647 ≤ x54.1)) ∨ (x54.2 < 0)))), (28, _), (26, _), (27, _), (4, _)] ⟨rfl, rfl, rfl, rfl, rfl, trivial⟩ ?_
                refine Cov.same (bl' := [_, _]) (sl' := []) (Fs' := G :: Fs) rfl rfl rfl ?_
                refine Cov.q .ro (.move rfl) rfl ?_
                refine Cov.cutR 4 (β := Unit) (fun y => [(49, .bool (decide ((((x54.1 < 0) ∨ (2147483647 ≤ x54.1)) ∨ (x54.2 < 0)) ∨ (2147483647 ≤ x54.2))))]) [(28, _), (26, _), (27, _)] (fun y => G :: Fs) (fun y => []) [_, _] (fun y => []) [] (fun y => True) ⟨rfl, rfl, rfl, trivial⟩ [0, 1] rfl [] rfl ?_ ?_
                · rintro _ _
                  refine Cov.prune [(49, .bool (decide ((((x54.1 < 0) ∨ (2147483647 ≤ x54.1)) ∨ (x54.2 < 0)) ∨ (2147483647 ≤ x54.2)))), (28, _), (26, _), (27, _)] ⟨rfl, rfl, rfl, rfl, trivial⟩ ?_
                  refine Cov.same (bl' := [_, _]) (sl' := []) (Fs' := G :: Fs) rfl rfl rfl ?_
                  refine Cov.region_end ?_
                  refine Cov.cond_dec rfl (fun c72 => ?_) (fun c72 => ?_)
                  · have r73 := ifT r53 c72; clear r53
                    refine Cov.seq ?_
                    refine Cov.region rfl ?_
                    refine Cov.q .ro (.assign rfl) rfl ?_
                    refine Cov.region_end ?_
                    cases r73
                    refine Cov.drop 2 0 [] _ rfl rfl ?_
                    refine Cov.retS (c := ⟨22, none⟩) (.inr ⟨_, rfl⟩) [.tmp 2] [_] rfl Try.func22 Try.results22 ⟨RV.tmp rfl, trivial⟩ (fun _ h => List.mem_cons_of_mem _ h) ⟨rfl, rfl, rfl⟩
                  · have r74 := ifF r53 c72; clear r53
                    refine Cov.skip ?_
                    refine Cov.inBlock ?_
                    refine Cov.region rfl ?_
                    refine Cov.q .ro (.addw rfl rfl) rfl ?_
                    refine Cov.q .ro (.move rfl) rfl ?_
                    refine Cov.region_end ?_
                    refine Cov.drop 1 0 [_] _ rfl rfl ?_
                    refine Cov.prune _ ?_ (Cov.same rfl rfl rfl (hb49 ((i45 + 1), xs55) ⟨(drop_succ g47), r74⟩ (Nat.lt_succ_self _)))
                    exact ⟨(congrArg (fun z => some (Value.int .i64 z)) (idx_wrap (SlR.len s0_1) g47)), rfl, rfl, trivial⟩
                · intro hb69
                  refine Cov.split 45 rfl (fun c68 => ?_) (fun c68 => ?_)
                  · refine Cov.g_off rfl rfl rfl ?_
                    refine Cov.g_off rfl rfl rfl ?_
                    refine Cov.g_off rfl rfl rfl ?_
                    refine Cov.q .ro (.pick_t rfl rfl) rfl ?_
                    refine Cov.prune _ ?_ (Cov.same rfl rfl rfl (hb69 () trivial))
                    exact ⟨dor_t c68, rfl, rfl, rfl, trivial⟩
                  · refine Cov.g_on rfl ?_
                    refine Cov.q .ro (.fieldAddr 1 rfl fl40_1 ty3.sz rfl) rfl ?_
                    refine Cov.g_on rfl ?_
                    refine Cov.q .ro (.load_own 0 rfl rfl ty3 rfl) rfl ?_
                    refine Cov.g_on rfl ?_
                    refine Cov.q .ro (.geq rfl rfl) rfl ?_
                    refine Cov.q .ro (.pick_f rfl rfl) rfl ?_
                    refine Cov.prune _ ?_ (Cov.same rfl rfl rfl (hb69 () trivial))
                    exact ⟨dor_f c68, rfl, rfl, rfl, trivial⟩
              · intro hb65
                refine Cov.split 40 rfl (fun c64 => ?_) (fun c64 => ?_)
                · refine Cov.g_off rfl rfl rfl ?_
                  refine Cov.g_off rfl rfl rfl ?_
                  refine Cov.g_off rfl rfl rfl ?_
                  refine Cov.q .ro (.pick_t rfl rfl) rfl ?_
                  refine Cov.prune _ ?_ (Cov.same rfl rfl rfl (hb65 () trivial))
                  exact ⟨dor_t c64, rfl, rfl, rfl, rfl, trivial⟩
                · refine Cov.g_on rfl ?_
                  refine Cov.q .ro (.fieldAddr 1 rfl fl40_1 ty3.sz rfl) rfl ?_
                  refine Cov.g_on rfl ?_
                  refine Cov.q .ro (.load_own 0 rfl rfl ty3 rfl) rfl ?_
                  refine Cov.g_on rfl ?_
                  refine Cov.q .ro (.lss rfl rfl) rfl ?_
                  refine Cov.q .ro (.pick_f rfl rfl) rfl ?_
                  refine Cov.prune _ ?_ (Cov.same rfl rfl rfl (hb65 () trivial))
                  exact ⟨dor_f c64, rfl, rfl, rfl, rfl, trivial⟩
            · intro hb61
              refine Cov.split 35 rfl (fun c60 => ?_) (fun c60 => ?_)
              · refine Cov.g_off rfl rfl rfl ?_
                refine Cov.g_off rfl rfl rfl ?_
                refine Cov.g_off rfl rfl rfl ?_
                refine Cov.q .ro (.pick_t rfl rfl) rfl ?_
                refine Cov.prune _ ?_ (Cov.same rfl rfl rfl (hb61 () trivial))
                exact ⟨dor_t c60, rfl, rfl, rfl, rfl, trivial⟩
              · refine Cov.g_on rfl ?_
                refine Cov.q .ro (.fieldAddr 0 rfl fl40_0 ty3.sz rfl) rfl ?_
                refine Cov.g_on rfl ?_
                refine Cov.q .ro (.load_own 0 rfl rfl ty3 rfl) rfl ?_
                refine Cov.g_on rfl ?_
                refine Cov.q .ro (.geq rfl rfl) rfl ?_
                refine Cov.q .ro (.pick_f rfl rfl) rfl ?_
                refine Cov.prune _ ?_ (Cov.same rfl rfl rfl (hb61 () trivial))
                exact ⟨dor_f c60, rfl, rfl, rfl, rfl, trivial⟩
      · intro hb11
        refine Cov.split 19 rfl (fun c10 => ?_) (fun c10 => ?_)
        · refine Cov.g_off rfl rfl rfl ?_
          refine Cov.g_off rfl rfl rfl ?_
          refine Cov.g_off rfl rfl rfl ?_
          refine Cov.g_off rfl rfl rfl ?_
          refine Cov.q .ro (.pick_t rfl rfl) rfl ?_
          refine Cov.prune _ ?_ (Cov.same rfl rfl rfl (hb11 () trivial))
          exact ⟨dor_t c10, rfl, trivial⟩
        · refine Cov.g_on rfl ?_
          refine Cov.q .ro (.fieldAddr 1 rfl fl25_1 ty23.sz rfl) rfl ?_
          refine Cov.g_on rfl ?_
          refine Cov.q .ro (.load_own 0 rfl rfl ty23 rfl) rfl ?_
          refine Cov.g_on rfl ?_
          refine Cov.q .ro (.len_sl rfl rfl sl23) rfl ?_
          refine Cov.g_on rfl ?_
          refine Cov.q .ro (.gtr rfl rfl) rfl ?_
          refine Cov.q .ro (.pick_f rfl rfl) rfl ?_
          refine Cov.prune _ ?_ (Cov.same rfl rfl rfl (hb11 () trivial))
          exact ⟨dor_f c10, rfl, trivial⟩
    · intro hb7
      refine Cov.split 13 rfl (fun c6 => ?_) (fun c6 => ?_)
      · refine Cov.g_off rfl rfl rfl ?_
        refine Cov.g_off rfl rfl rfl ?_
        refine Cov.g_off rfl rfl rfl ?_
        refine Cov.g_off rfl rfl rfl ?_
        refine Cov.q .ro (.pick_t rfl rfl) rfl ?_
        refine Cov.prune _ ?_ (Cov.same rfl rfl rfl (hb7 () trivial))
        exact ⟨dor_t c6, rfl, trivial⟩
      · refine Cov.g_on rfl ?_
        refine Cov.q .ro (.fieldAddr 1 rfl fl25_1 ty23.sz rfl) rfl ?_
        refine Cov.g_on rfl ?_
        refine Cov.q .ro (.load_own 0 rfl rfl ty23 rfl) rfl ?_
        refine Cov.g_on rfl ?_
        refine Cov.q .ro (.len_sl rfl rfl sl23) rfl ?_
        refine Cov.g_on rfl ?_
        refine Cov.q .ro (.lss rfl rfl) rfl ?_
        refine Cov.q .ro (.pick_f rfl rfl) rfl ?_
        refine Cov.prune _ ?_ (Cov.same rfl rfl rfl (hb7 () trivial))
        exact ⟨dor_f c6, rfl, trivial⟩
  · intro hb3
    refine Cov.split 8 rfl (fun c2 => ?_) (fun c2 => ?_)
    · refine Cov.g_off rfl rfl rfl ?_
      refine Cov.g_off rfl rfl rfl ?_
      refine Cov.g_off rfl rfl rfl ?_
      refine Cov.q .ro (.pick_t rfl rfl) rfl ?_
      refine Cov.prune _ ?_ (Cov.same rfl rfl rfl (hb3 () trivial))
      exact ⟨dor_t c2, rfl, trivial⟩
    · refine Cov.g_on rfl ?_
      refine Cov.q .ro (.fieldAddr 0 rfl fl25_0 ty3.sz rfl) rfl ?_
      refine Cov.g_on rfl ?_
      refine Cov.q .ro (.load_own 0 rfl rfl ty3 rfl) rfl ?_
      refine Cov.g_on rfl ?_
      refine Cov.q .ro (.gtr rfl rfl) rfl ?_
      refine Cov.q .ro (.pick_f rfl rfl) rfl ?_
      refine Cov.prune _ ?_ (Cov.same rfl rfl rfl (hb3 () trivial))
      exact ⟨dor_f c2, rfl, trivial⟩

set_option maxHeartbeats 4000000 in
set_option maxRecDepth 100000 in
theorem cuckoo_sets_c {Fs : List Hp} {G : Hp} {x0 : Int} {x1 : Int} {r : Int} (hG : G ∈ Fs)  (h : cuckoo_sets x0 x1 = some r) : RetS Try.prog 35 #[.int .i64 x0, .int .i64 x1] Fs [] [] (fun v bo so => v = .int .i64 r ∧ bo = [] ∧ so = []) := by
  unfold cuckoo_sets at h
  try dsimp only at h
  refine RetS.of (vs := [_, _]) Try.func35 rfl Try.ntmps35 [(0, _), (1, _)] ⟨rfl, rfl, trivial⟩ rfl hG fun w0 S0 hS0 B0 => ?_
  refine Cov.seq ?_
  refine Cov.region rfl ?_
  refine Cov.q .ro (.assign rfl) rfl ?_
  refine Cov.region_end ?_
  refine Cov.seq ?_
  refine Cov.region rfl ?_
  refine Cov.q .ro (.assign rfl) rfl ?_
  refine Cov.region_end ?_
  refine Cov.seq ?_
  refine Cov.seq ?_
  refine Cov.region rfl ?_
  refine Cov.q .ro (.assign rfl) rfl ?_
  refine Cov.region_end ?_
  refine Cov.block ?_
  refine Cov.loop2 (α := Nat × Int × Int) (fun y => [(5, .int .i64 y.2.1), (6, .int .i64 y.2.2)]) [(0, _), (1, _)] (fun y => []) (fun y => []) [] (fun y => []) [] (fun y => cuckoo_sets_L1 x0 x1 y.1 y.2.1 y.2.2 = some r) (fun y => y.1) (big, 1, 1) h ⟨rfl, rfl, rfl, rfl, trivial⟩ rfl rfl rfl (fun y hI hb17 => ?_)
  obtain ⟨n12, v14, v15⟩ := y
  have r16 := hI; clear hI
  try dsimp only at r16
  refine Cov.prune [(5, .int .i64 v14), (6, .int .i64 v15), (0, _), (1, _)] ⟨rfl, rfl, rfl, rfl, trivial⟩ ?_
  refine Cov.same (bl' := []) (sl' := []) (Fs' := G :: Fs) rfl rfl rfl ?_
  obtain ⟨m21, rfl⟩ : ∃ m, n12 = m + 1 := by cases n12 with | zero => exact absurd (show (none : Option _) = some _ from r16) (by simp) | succ m => exact ⟨m, rfl⟩
  have r20 : cuckoo_sets_B1 x0 x1 (cuckoo_sets_L1 x0 x1 m21) v14 v15 = some r := r16; clear r16; unfold cuckoo_sets_B1 at r20; try dsimp only at r20
  refine Cov.seq ?_
  refine Cov.seq ?_
  refine Cov.region rfl ?_
  refine Cov.q .ro (.move rfl) rfl ?_
  refine Cov.q .ro (.move rfl) rfl ?_
  refine Cov.q .ro (.move rfl) rfl ?_
  refine Cov.q .ro (.move rfl) rfl ?_
  refine Cov.q .ro (.subw rfl rfl) rfl ?_
  refine Cov.q .ro (.min2 rfl rfl) rfl ?_
  refine Cov.q .ro (.leq rfl rfl) rfl ?_
  refine Cov.region_end ?_
  refine Cov.cond_dec rfl (fun c22 => ?_) (fun c22 => ?_)
  · have r23 := ifT r20 c22; clear r20
    refine Cov.skip ?_
    refine Cov.seq ?_
    refine Cov.block ?_
    refine Cov.seq ?_
    refine Cov.region rfl ?_
    refine Cov.q .ro (.move rfl) rfl ?_
    refine Cov.q .ro (.move rfl) rfl ?_
    refine Cov.q .ro (.move rfl) rfl ?_
    refine Cov.q .ro (.subw rfl rfl) rfl ?_
    refine Cov.q .ro (.addw rfl rfl) rfl ?_
    refine Cov.q .ro (.mulw rfl rfl) rfl ?_
    refine Cov.q .ro (.move rfl) rfl ?_
    obtain ⟨u24, hu24, r25⟩ := bind_some r23; clear r23
    refine Cov.q .ro (.quow rfl rfl (nz_some hu24)) rfl ?_
    refine Cov.q .ro (.assign rfl) rfl ?_
    refine Cov.region_end ?_
    refine Cov.prune [(5, _), (6, _), (0, _), (1, _)] ⟨rfl, rfl, rfl, rfl, trivial⟩ ?_
    refine Cov.seq ?_
    refine Cov.region rfl ?_
    refine Cov.q .ro (.move rfl) rfl ?_
    refine Cov.q .ro (.gtr rfl rfl) rfl ?_
    refine Cov.region_end ?_
    refine Cov.cond_dec rfl (fun c26 => ?_) (fun c26 => ?_)
    · have r27 := ifT r25 c26; clear r25
      refine Cov.seq ?_
      refine Cov.region rfl ?_
      refine Cov.q .ro (.move rfl) rfl ?_
      refine Cov.q .ro (.assign rfl) rfl ?_
      refine Cov.region_end ?_
      cases r27
      refine Cov.retS (c := ⟨35, none⟩) (.inr ⟨_, rfl⟩) [.tmp 4] [_] rfl Try.func35 Try.results35 ⟨RV.tmp rfl, trivial⟩ (fun _ h => List.mem_cons_of_mem _ h) ⟨rfl, rfl, rfl⟩
    · have r28 := ifF r25 c26; clear r25
      refine Cov.skip ?_
      refine Cov.inBlock ?_
      refine Cov.region rfl ?_
      refine Cov.q .ro (.move rfl) rfl ?_
      refine Cov.q .ro (.addw rfl rfl) rfl ?_
      refine Cov.q .ro (.assign rfl) rfl ?_
      refine Cov.region_end ?_
      refine Cov.prune _ ?_ (Cov.same rfl rfl rfl (hb17 (m21, (w64 (Int.tdiv (w64 (v14 * (w64 ((w64 (x0 - v15)) + 1)))) v15)), (w64 (v15 + 1))) r28 (Nat.lt_succ_self _)))
      exact ⟨rfl, rfl, rfl, rfl, trivial⟩
  · have r29 := ifF r20 c22; clear r20
    refine Cov.exit rfl ?_
    refine Cov.seq ?_
    refine Cov.region rfl ?_
    refine Cov.q .ro (.move rfl) rfl ?_
    refine Cov.q .ro (.assign rfl) rfl ?_
    refine Cov.region_end ?_
    cases r29
    refine Cov.retS (c := ⟨35, none⟩) (.inr ⟨_, rfl⟩) [.tmp 4] [_] rfl Try.func35 Try.results35 ⟨RV.tmp rfl, trivial⟩ (fun _ h => List.mem_cons_of_mem _ h) ⟨rfl, rfl, rfl⟩

set_option maxHeartbeats 4000000 in
set_option maxRecDepth 100000 in
theorem cuckoo_homes_c {Fs : List Hp} {G : Hp} {x0_0 : Int} {a0_1 : Option Addr} {k0_1 : Nat} {x0_1 : List (Int × Int)} {x1 : Int} {r : (List Int)} (hG : G ∈ Fs) (s0_1 : SlR (Rep.pair (Rep.int .i64) (Rep.int .i64)) G a0_1 k0_1 x0_1) (h : cuckoo_homes (x0_0, x0_1) x1 = some r) : RetS Try.prog 43 #[.agg #[.int .i64 x0_0, .slice a0_1 x0_1.length k0_1], .int .i64 x1] Fs [] [] (fun v bo so => ∃ (oa0 : Option Addr) (ok0 : Nat) (oc0 : List Value), v = .slice oa0 r.length ok0 ∧ bo = [] ∧ so = [.s (.slice oa0 r.length ok0) 3 1 r.length oc0] ∧ OL (Rep.int .i64) G oc0 r) := by
  unfold cuckoo_homes at h
  try dsimp only at h
  refine RetS.of (vs := [_, _]) Try.func43 rfl Try.ntmps43 [(0, _), (1, _)] ⟨rfl, rfl, trivial⟩ rfl hG fun w0 S0 hS0 B0 => ?_
  refine Cov.seq ?_
  refine Cov.region rfl ?_
  refine Cov.box [_, _] .ro rfl rfl rfl (fun b1 hb1 => ?_)
  refine Cov.q .ro (.assign rfl) rfl ?_
  refine Cov.region_end ?_
  refine Cov.seq ?_
  refine Cov.region rfl ?_
  refine Cov.q .ro (.assign rfl) rfl ?_
  refine Cov.region_end ?_
  refine Cov.seq ?_
  refine Cov.seq ?_
  refine Cov.region rfl ?_
  refine Cov.q .ro (.fieldAddr 1 rfl fl25_1 ty23.sz rfl) rfl ?_
  refine Cov.q .ro (.load_own 0 rfl rfl ty23 rfl) rfl ?_
  refine Cov.q .ro (.len_sl rfl rfl sl23) rfl ?_
  refine Cov.q .ro (.move rfl) rfl ?_
  refine Cov.region_end ?_
  refine Cov.block ?_
  refine Cov.own_nil 3 1 ?_
  refine Cov.loop2 (α := Nat × (List (Int × Int)) × List Int × Option Addr × Nat × List Value) (fun y => [(5, .slice y.2.2.2.1 y.2.2.1.length y.2.2.2.2.1), (11, .int .i64 (y.1 : Int))]) [(1, _), (2, _), (9, _), (10, _)] (fun y => []) (fun y => []) [_] (fun y => [.s (.slice y.2.2.2.1 y.2.2.1.length y.2.2.2.2.1) 3 1 y.2.2.1.length y.2.2.2.2.2]) [] (fun y => OL (Rep.int .i64) G y.2.2.2.2.2 y.2.2.1 ∧ List.drop y.1 x0_1 = y.2.1 ∧ cuckoo_homes_L1 x1 x0_0 y.2.1 y.2.2.1 = some r) (fun y => y.2.1.length) (0, x0_1, ([] : List Int), none, 0, []) ⟨(OL.nil (Rp' := (Rep.int .i64))), rfl, h⟩ ⟨rfl, rfl, rfl, rfl, rfl, rfl, trivial⟩ rfl rfl rfl (fun y hI hb66 => ?_)
  obtain ⟨i56, w57, v59, a60, k61, cs62⟩ := y
  obtain ⟨o63, g58, r65⟩ := hI
  try dsimp only at o63 g58 r65
  refine Cov.prune [(5, .slice a60 v59.length k61), (11, .int .i64 (i56 : Int)), (1, _), (2, _), (9, _), (10, _)] ⟨rfl, rfl, rfl, rfl, rfl, rfl, trivial⟩ ?_
  refine Cov.same (bl' := [_]) (sl' := [.s (.slice a60 v59.length k61) 3 1 v59.length cs62]) (Fs' := G :: Fs) rfl rfl rfl ?_
  cases w57 with
  | nil =>
    rw [cuckoo_homes_L1] at r65; try dsimp only at r65
    refine Cov.seq ?_
    refine Cov.region rfl ?_
    refine Cov.q .ro (.lss rfl rfl) rfl ?_
    refine Cov.region_end ?_
    refine Cov.seq ?_
    refine Cov.cond_dec rfl (fun c => absurd c (drop_nil g58)) (fun _ => ?_)
    refine Cov.exit rfl ?_
    refine Cov.seq ?_
    refine Cov.region rfl ?_
    refine Cov.q .ro (.move rfl) rfl ?_
    refine Cov.q .ro (.assign rfl) rfl ?_
    refine Cov.region_end ?_
    cases r65
    refine Cov.drop 1 0 [] _ rfl rfl ?_
    refine Cov.retS (c := ⟨43, none⟩) (.inr ⟨_, rfl⟩) [.tmp 4] [_] rfl Try.func43 Try.results43 ⟨RV.tmp rfl, trivial⟩ (fun _ h => List.mem_cons_of_mem _ h) ⟨a60, k61, cs62, rfl, rfl, rfl, o63⟩
  | cons x72 xs73 =>
    have r71 : cuckoo_homes_B1 x1 x0_0 (cuckoo_homes_L1 x1 x0_0 xs73) x72 v59 = some r := r65; clear r65; unfold cuckoo_homes_B1 at r71; try dsimp only at r71
    refine Cov.seq ?_
    refine Cov.region rfl ?_
    refine Cov.q .ro (.lss rfl rfl) rfl ?_
    refine Cov.region_end ?_
    refine Cov.seq ?_
    refine Cov.cond_dec rfl (fun _ => ?_) (fun c => absurd (drop_lt g58) c)
    refine Cov.skip ?_
    refine Cov.seq ?_
    refine Cov.block ?_
    refine Cov.seq ?_
    refine Cov.region rfl ?_
    obtain ⟨c74, p75, h76⟩ := SlR.get s0_1 (drop_idx g58)
    obtain ⟨_, _, rfl, rfl, rfl⟩ := h76
    refine Cov.q .ro (.idxR s0_1 rfl rfl (drop_idx g58) sl23 ty40.sz) rfl ?_
    refine Cov.q .ro (.load_rp_a [_, _] p75 List.mem_cons_self rfl ty40 rfl) rfl ?_
    refine Cov.alloc .ro ty40 rfl (fun b77 hb77 => ?_)
    refine Cov.store 0 [_, _] [_, _] .ro rfl rfl rfl ty40 rfl rfl rfl rfl ?_
    refine Cov.region_end ?_
    refine Cov.region rfl ?_
    refine Cov.q .ro (.move rfl) rfl ?_
    refine Cov.q .ro (.fieldAddr 0 rfl fl40_0 ty3.sz rfl) rfl ?_
    refine Cov.q .ro (.load_own 0 rfl rfl ty3 rfl) rfl ?_
    refine Cov.q .ro (.move rfl) rfl ?_
    refine Cov.q .ro (.mulw rfl rfl) rfl ?_
    refine Cov.q .ro (.fieldAddr 1 rfl fl40_1 ty3.sz rfl) rfl ?_
    refine Cov.q .ro (.load_own 0 rfl rfl ty3 rfl) rfl ?_
    refine Cov.q .ro (.addw rfl rfl) rfl ?_
    refine Cov.q .ro (.remt rfl rfl (by decide)) rfl ?_
    refine Cov.q .ro (.fieldAddr 0 rfl fl25_0 ty3.sz rfl) rfl ?_
    refine Cov.q .ro (.load_own 1 rfl rfl ty3 rfl) rfl ?_
    obtain ⟨u78, hu78, r79⟩ := bind_some r71; clear r71
    refine Cov.q .ro (.remt rfl rfl (nz_some hu78)) rfl ?_
    refine Cov.lit [_] [(0, _)] .ro sl22 ty3 rfl rfl rfl rfl rfl rfl (fun b80 hb80 => ?_)
    have o81 : OL (Rep.int .i64) G [.int .i64 (Int.tmod (Int.tmod (w64 ((w64 (x72.1 * x1)) + x72.2)) 2147483647) x0_0)] ([(Int.tmod (Int.tmod (w64 ((w64 (x72.1 * x1)) + x72.2)) 2147483647) x0_0)] : List Int) := ((OL.cons rfl (Rep.intI .i64 (Int.tmod (Int.tmod (w64 ((w64 (x72.1 * x1)) + x72.2)) 2147483647) x0_0)) (OL.nil (Rp' := (Rep.int .i64)))) :)
    refine Cov.reval 27 (n' := ([(Int.tmod (Int.tmod (w64 ((w64 (x72.1 * x1)) + x72.2)) 2147483647) x0_0)] : List Int).length) rfl rfl ?_
    obtain ⟨u87, hu87, r88⟩ := bind_some r79; clear r79
    refine Cov.appO (Q := (Rep.int .i64)) 0 .ro sl22 ty3 rfl rfl rfl rfl rfl rfl o63 o81 rfl rfl rfl B0 hu87 rfl (fun a83 k84 cs85 o86 => ?_)
    refine Cov.q .ro (.assign rfl) rfl ?_
    refine Cov.region_end ?_
    refine Cov.prune [(5, _), (11, _), (1, _), (2, _), (9, _), (10, _)] ⟨rfl, rfl, rfl, rfl, rfl, rfl, trivial⟩ ?_
    refine Cov.inBlock ?_
    refine Cov.region rfl ?_
    refine Cov.q .ro (.addw rfl rfl) rfl ?_
    refine Cov.q .ro (.move rfl) rfl ?_
    refine Cov.region_end ?_
    refine Cov.drop 1 0 [_] _ rfl rfl ?_
    refine Cov.prune _ ?_ (Cov.same rfl rfl rfl (hb66 ((i56 + 1), xs73, u87, a83, k84, cs85) ⟨o86, (drop_succ g58), r88⟩ (Nat.lt_succ_self _)))
    exact ⟨rfl, (congrArg (fun z => some (Value.int .i64 z)) (idx_wrap (SlR.len s0_1) g58)), rfl, rfl, rfl, rfl, trivial⟩

set_option maxHeartbeats 4000000 in
set_option maxRecDepth 100000 in
theorem cuckoo_start_c {Fs : List Hp} {G : Hp} {x0_0 : Int} {a0_1 : Option Addr} {k0_1 : Nat} {x0_1 : List (Int × Int)} {a1 : Option Addr} {k1 : Nat} {x1 : List Int} {r : ((List (List Int)) × (List Int) × (List Bool))} (hG : G ∈ Fs) (s0_1 : SlR (Rep.pair (Rep.int .i64) (Rep.int .i64)) G a0_1 k0_1 x0_1) (s1 : SlR (Rep.int .i64) G a1 k1 x1) (h : cuckoo_start (x0_0, x0_1) x1 = some r) : RetW Try.prog 37 #[.agg #[.int .i64 x0_0, .slice a0_1 x0_1.length k0_1], .slice a1 x1.length k1] Fs [] [] (fun v bo so G => ∃ a0 : Option Addr, ∃ k0 : Nat, ∃ (oa0 : Option Addr) (ok0 : Nat) (oc0 : List Value), ∃ (oa1 : Option Addr) (ok1 : Nat) (oc1 : List Value), ∃ b0 : Nat, v = .pointer (some ⟨b0, 0, none⟩) ∧ bo = [(b0, .cells #[.slice a0 r.1.length k0, .slice oa0 r.2.1.length ok0, .slice oa1 r.2.2.length ok1] 71 (0, 0))] ∧ so = [.s (.slice oa0 r.2.1.length ok0) 3 1 r.2.1.length oc0, .s (.slice oa1 r.2.2.length ok1) 4 1 r.2.2.length oc1] ∧ SlR (Rep.sl (Rep.int .i64)) G a0 k0 r.1 ∧ OL (Rep.int .i64) G oc0 r.2.1 ∧ OL Rep.bool G oc1 r.2.2) := by
  unfold cuckoo_start at h
  try dsimp only at h
  refine RetW.of (vs := [_, _]) Try.func37 rfl Try.ntmps37 [(0, _), (1, _)] ⟨rfl, rfl, trivial⟩ rfl hG fun w0 S0 hS0 B0 => ?_
  refine Cov.seq ?_
  refine Cov.region rfl ?_
  refine Cov.box [_, _] .ro rfl rfl rfl (fun b1 hb1 => ?_)
  refine Cov.q .ro (.assign rfl) rfl ?_
  refine Cov.region_end ?_
  refine Cov.seq ?_
  refine Cov.cutG (β := Nat × List Int × Option Addr × Nat × List Value × List Bool × Option Addr × Nat × List Value) (fun y => [(5, .pointer (some ⟨y.1, 0, none⟩))]) [(1, _), (2, _)] (fun y => G :: Fs) (fun y => [(y.1, .cells #[.slice none 0 0, .slice y.2.2.1 y.2.1.length y.2.2.2.1, .slice y.2.2.2.2.2.2.1 y.2.2.2.2.2.1.length y.2.2.2.2.2.2.2.1] 71 (0, 0))]) [_] (fun y => [.s (.slice y.2.2.1 y.2.1.length y.2.2.2.1) 3 1 y.2.1.length y.2.2.2.2.1, .s (.slice y.2.2.2.2.2.2.1 y.2.2.2.2.2.1.length y.2.2.2.2.2.2.2.1) 4 1 y.2.2.2.2.2.1.length y.2.2.2.2.2.2.2.2]) [] (fun y => OL (Rep.int .i64) G y.2.2.2.2.1 y.2.1 ∧ OL Rep.bool G y.2.2.2.2.2.2.2.2 y.2.2.2.2.2.1 ∧ (cuckoo_start_J4 x1 x0_0 x0_1) y.2.1 y.2.2.2.2.2.1 = some r) ⟨rfl, rfl, trivial⟩ [0] rfl [] rfl ?_ ?_
  · intro y hI
    obtain ⟨b4026, v4027, a4028, k4029, cs4030, v4033, a4034, k4035, cs4036⟩ := y
    obtain ⟨o4031, o4037, r4040⟩ := hI
    try dsimp only at o4031 o4037 r4040
    refine Cov.prune [(5, .pointer (some ⟨b4026, 0, none⟩)), (1, _), (2, _)] ⟨rfl, rfl, rfl, trivial⟩ ?_
    refine Cov.same (bl' := [(b4026, .cells #[.slice none 0 0, .slice a4028 v4027.length k4029, .slice a4034 v4033.length k4035] 71 (0, 0)), _]) (sl' := [.s (.slice a4028 v4027.length k4029) 3 1 v4027.length cs4030, .s (.slice a4034 v4033.length k4035) 4 1 v4033.length cs4036]) (Fs' := G :: Fs) rfl rfl rfl ?_
    unfold cuckoo_start_J4 at r4040
    try dsimp only at r4040
    refine Cov.seq ?_
    refine Cov.seq ?_
    refine Cov.region rfl ?_
    refine Cov.q .ro (.move rfl) rfl ?_
    refine Cov.q .ro (.nilCheck rfl rfl) rfl ?_
    refine Cov.q .ro (.fieldAddr 1 rfl fl71_1 ty22.sz rfl) rfl ?_
    refine Cov.q .ro (.load_own 0 rfl rfl ty22 rfl) rfl ?_
    refine Cov.q .ro (.len_sl rfl rfl sl22) rfl ?_
    refine Cov.q .ro (.move rfl) rfl ?_
    refine Cov.region_end ?_
    refine Cov.cutB (β := List Int × Option Addr × Nat × List Value × Int) (fun y => []) [(5, _), (1, _), (2, _)] (fun y => G :: Fs) (fun y => [(b4026, .cells #[.slice none 0 0, .slice y.2.1 y.1.length y.2.2.1, .slice a4034 v4033.length k4035] 71 (0, 0)), (b1, .cells #[.int .i64 y.2.2.2.2, .slice a0_1 x0_1.length k0_1] 25 (0, 0))]) [] (fun y => [.s (.slice y.2.1 y.1.length y.2.2.1) 3 1 y.1.length y.2.2.2.1]) [_] (fun y => OL (Rep.int .i64) G y.2.2.2.1 y.1 ∧ (cuckoo_start_J2 x1 x0_1 v4033) y.1 y.2.2.2.2 = some r) ⟨rfl, rfl, rfl, trivial⟩ [] rfl [1] rfl ?_ ?_
    · intro y hI
      obtain ⟨v4090, a4091, k4092, cs4093, v4096⟩ := y
      obtain ⟨o4094, r4098⟩ := hI
      try dsimp only at o4094 r4098
      refine Cov.prune [(5, _), (1, _), (2, _)] ⟨rfl, rfl, rfl, trivial⟩ ?_
      refine Cov.same (bl' := [(b4026, .cells #[.slice none 0 0, .slice a4091 v4090.length k4092, .slice a4034 v4033.length k4035] 71 (0, 0)), (b1, .cells #[.int .i64 v4096, .slice a0_1 x0_1.length k0_1] 25 (0, 0))]) (sl' := [.s (.slice a4091 v4090.length k4092) 3 1 v4090.length cs4093, _]) (Fs' := G :: Fs) rfl rfl rfl ?_
      unfold cuckoo_start_J2 at r4098
      try dsimp only at r4098
      refine Cov.seq ?_
      refine Cov.seq ?_
      refine Cov.region rfl ?_
      refine Cov.q .ro (.move rfl) rfl ?_
      refine Cov.q .ro (.len_sl rfl rfl sl22) rfl ?_
      refine Cov.q .ro (.move rfl) rfl ?_
      refine Cov.region_end ?_
      refine Cov.block ?_
      refine Cov.own_nil 22 1 ?_
      refine Cov.loop2 (α := Nat × List Int × Hp × List (List Int) × Option Addr × Nat × List Value) (fun y => [(34, .int .i64 (y.1 : Int))]) [(5, _), (2, _), (32, _), (33, _)] (fun y => [y.2.2.1]) (fun y => [(b4026, .cells #[.slice y.2.2.2.2.1 y.2.2.2.1.length y.2.2.2.2.2.1, .slice a4091 v4090.length k4092, .slice a4034 v4033.length k4035] 71 (0, 0))]) [_] (fun y => [.s (.slice y.2.2.2.2.1 y.2.2.2.1.length y.2.2.2.2.2.1) 22 1 y.2.2.2.1.length y.2.2.2.2.2.2]) [_, _] (fun y => HpLe G y.2.2.1 ∧ Bd w0 S0 Fs y.2.2.1 ∧ OL (Rep.sl (Rep.int .i64)) y.2.2.1 y.2.2.2.2.2.2 y.2.2.2.1 ∧ List.drop y.1 x1 = y.2.1 ∧ cuckoo_start_L1 v4096 x0_1 v4090 v4033 y.2.1 y.2.2.2.1 = some r) (fun y => y.2.1.length) (0, x1, G, ([] : List (List Int)), none, 0, []) ⟨(HpLe.refl _), B0, (OL.nil (Rp' := (Rep.sl (Rep.int .i64)))), rfl, r4098⟩ ⟨rfl, rfl, rfl, rfl, rfl, trivial⟩ rfl rfl rfl (fun y hI hb4192 => ?_)
      obtain ⟨i4178, w4179, G4181, v4185, a4186, k4187, cs4188⟩ := y
      obtain ⟨e4182, B4183, o4189, g4180, r4191⟩ := hI
      try dsimp only at e4182 B4183 o4189 g4180 r4191
      refine Cov.prune [(34, .int .i64 (i4178 : Int)), (5, _), (2, _), (32, _), (33, _)] ⟨rfl, rfl, rfl, rfl, rfl, trivial⟩ ?_
      refine Cov.same (bl' := [(b4026, .cells #[.slice a4186 v4185.length k4187, .slice a4091 v4090.length k4092, .slice a4034 v4033.length k4035] 71 (0, 0)), _]) (sl' := [.s (.slice a4186 v4185.length k4187) 22 1 v4185.length cs4188, _, _]) (Fs' := G4181 :: Fs) rfl rfl rfl ?_
      cases w4179 with
      | nil =>
        rw [cuckoo_start_L1] at r4191; try dsimp only at r4191
        refine Cov.seq ?_
        refine Cov.region rfl ?_
        refine Cov.q .ro (.lss rfl rfl) rfl ?_
        refine Cov.region_end ?_
        refine Cov.seq ?_
        refine Cov.cond_dec rfl (fun c => absurd c (drop_nil g4180)) (fun _ => ?_)
        refine Cov.exit rfl ?_
        refine Cov.seq ?_
        refine Cov.region rfl ?_
        refine Cov.q .ro (.move rfl) rfl ?_
        refine Cov.q .ro (.assign rfl) rfl ?_
        refine Cov.region_end ?_
        refine Cov.freezeR 0 rfl rfl o4189 [_, _] rfl B4183 (fun G4202 e4203 B4204 s4205 => ?_)
        cases r4191
        refine Cov.pull 1 rfl [_, _] rfl ?_
        refine Cov.drop 1 0 [_] _ rfl rfl ?_
        refine Cov.retW (c := ⟨37, none⟩) (.inr ⟨_, rfl⟩) [.tmp 4] [_] rfl Try.func37 Try.results37 ⟨RV.tmp rfl, trivial⟩ (fun _ h => List.mem_cons_of_mem _ h) List.mem_cons_self B4204 (by subst hS0; simp [blks]) (fun G' hg => ⟨a4186, k4187, a4091, k4092, cs4093, a4034, k4035, cs4036, _, rfl, rfl, rfl, (SlR.mono hg s4205), (OL.mono hg (OL.mono (HpLe.trans e4182 e4203) o4094)), (OL.mono hg (OL.mono (HpLe.trans e4182 e4203) o4037))⟩)
      | cons x4200 xs4201 =>
        have r4199 : cuckoo_start_B1 v4096 x0_1 v4090 v4033 (cuckoo_start_L1 v4096 x0_1 v4090 v4033 xs4201) x4200 v4185 = some r := r4191; clear r4191; unfold cuckoo_start_B1 at r4199; try dsimp only at r4199
        refine Cov.seq ?_
        refine Cov.region rfl ?_
        refine Cov.q .ro (.lss rfl rfl) rfl ?_
        refine Cov.region_end ?_
        refine Cov.seq ?_
        refine Cov.cond_dec rfl (fun _ => ?_) (fun c => absurd (drop_lt g4180) c)
        refine Cov.skip ?_
        refine Cov.seq ?_
        refine Cov.block ?_
        refine Cov.seq ?_
        refine Cov.region rfl ?_
        obtain ⟨c4207, p4208, h4209⟩ := SlR.get (SlR.mono e4182 s1) (drop_idx g4180)
        obtain rfl := h4209
        refine Cov.q .ro (.idxR (SlR.mono e4182 s1) rfl rfl (drop_idx g4180) sl22 ty3.sz) rfl ?_
        refine Cov.q .ro (.load_rp p4208 List.mem_cons_self rfl ty3 rfl) rfl ?_
        refine Cov.q .ro (.assign rfl) rfl ?_
        refine Cov.region_end ?_
        refine Cov.drawL (.q 0 (.q 1 (.q 2 (.q 3 (.q 4 (.q 5 (.q 6 (.e 7 1 (.e 8 1 (.e 9 1 (.q 10 (.q 11 (.e 12 2 .nil))))))))))))) [_, _] (by kernel_rfl) (by kernel_rfl) (pick_mem [0, 1] rfl) ?_
        refine Cov.dq (.move rfl) rfl ?_
        refine Cov.dq (.move rfl) rfl ?_
        refine Cov.dq (.nilCheck rfl rfl) rfl ?_
        refine Cov.dq (.fieldAddr 0 rfl fl71_0 ty54.sz rfl) rfl ?_
        refine Cov.dq (.load_own 0 rfl rfl ty54 rfl) rfl ?_
        refine Cov.dq (.load_own_a 1 [_, _] rfl rfl ty25 rfl) rfl ?_
        refine Cov.dq (.move rfl) rfl ?_
        obtain ⟨u4210, hu4210, r4211⟩ := bind_some r4199; clear r4199
        refine Cov.callS (b1 := []) (b2 := [_, _]) (s1 := []) [_, _] [] .d1 rfl rfl Try.call43 rfl rfl (cuckoo_homes_c (G := G4181) List.mem_cons_self (SlR.mono e4182 s0_1) hu4210) rfl (fun v4213 bo so h4212 => ?_)
        obtain ⟨a4215, k4216, cs4217, rfl, rfl, rfl, o4218⟩ := h4212
        refine Cov.same (bl' := [_, _]) (sl' := [_, _, _, _]) rfl rfl rfl ?_
        refine Cov.clsL (HpLe.refl _) (pick_mem [0, 1] rfl) ?_
        refine Cov.freezeR 0 rfl rfl o4218 [_, _, _] rfl B4183 (fun G4219 e4220 B4221 s4222 => ?_)
        refine Cov.lit [_] [(0, _)] .d1 sl54 ty22 rfl rfl rfl rfl rfl rfl (fun b4224 hb4224 => ?_)
        have o4225 : OL (Rep.sl (Rep.int .i64)) G4219 [.slice a4215 u4210.length k4216] ([u4210] : List (List Int)) := ((OL.cons rfl (Rep.slI s4222) (OL.nil (Rp' := (Rep.sl (Rep.int .i64))))) :)
        refine Cov.reval 46 (n' := ([u4210] : List (List Int)).length) rfl rfl ?_
        refine Cov.clsL e4220 (pick_mem [0, 1] rfl) ?_
        obtain ⟨u4231, hu4231, r4232⟩ := bind_some r4211; clear r4211
        refine Cov.appO (Q := (Rep.sl (Rep.int .i64))) 0 .d1 sl54 ty22 rfl rfl rfl rfl rfl rfl (OL.mono e4220 o4189) o4225 rfl rfl rfl B4221 hu4231 rfl (fun a4227 k4228 cs4229 o4230 => ?_)
        refine Cov.clsL e4220 (pick_mem [0, 1] rfl) ?_
        refine Cov.dq (.nilCheck rfl rfl) rfl ?_
        refine Cov.dq (.fieldAddr 0 rfl fl71_0 ty54.sz rfl) rfl ?_
        refine Cov.store 0 [_, _, _] [_, _] .d2 rfl rfl rfl ty54 rfl rfl rfl rfl ?_
        refine Cov.draw_end ?_
        refine Cov.prune [(34, _), (5, _), (2, _), (32, _), (33, _)] ⟨rfl, rfl, rfl, rfl, rfl, trivial⟩ ?_
        refine Cov.inBlock ?_
        refine Cov.region rfl ?_
        refine Cov.q .ro (.addw rfl rfl) rfl ?_
        refine Cov.q .ro (.move rfl) rfl ?_
        refine Cov.region_end ?_
        refine Cov.prune _ ?_ (Cov.same rfl rfl rfl (hb4192 ((i4178 + 1), xs4201, G4219, u4231, a4227, k4228, cs4229) ⟨(HpLe.trans e4182 e4220), B4221, o4230, (drop_succ g4180), r4232⟩ (Nat.lt_succ_self _)))
        exact ⟨(congrArg (fun z => some (Value.int .i64 z)) (idx_wrap (SlR.len s1) g4180)), rfl, rfl, rfl, rfl, trivial⟩
    · intro hb4234
      refine Cov.block ?_
      refine Cov.loop2 (α := Nat × List Int × List Int × Option Addr × Nat × List Value) (fun y => [(22, .int .i64 (y.1 : Int))]) [(5, _), (1, _), (2, _), (21, _)] (fun y => []) (fun y => [(b4026, .cells #[.slice none 0 0, .slice y.2.2.2.1 y.2.2.1.length y.2.2.2.2.1, .slice a4034 v4033.length k4035] 71 (0, 0))]) [_] (fun y => [.s (.slice y.2.2.2.1 y.2.2.1.length y.2.2.2.2.1) 3 1 y.2.2.1.length y.2.2.2.2.2]) [_] (fun y => OL (Rep.int .i64) G y.2.2.2.2.2 y.2.2.1 ∧ List.drop y.1 v4027 = y.2.1 ∧ cuckoo_start_L3 (cuckoo_start_J2 x1 x0_1 v4033) x0_0 y.2.1 y.1 y.2.2.1 = some r) (fun y => y.2.1.length) (0, v4027, v4027, a4028, k4029, cs4030) ⟨o4031, rfl, r4040⟩ ⟨rfl, rfl, rfl, rfl, rfl, trivial⟩ rfl rfl rfl (fun y hI hb4262 => ?_)
      obtain ⟨i4252, w4253, v4255, a4256, k4257, cs4258⟩ := y
      obtain ⟨o4259, g4254, r4261⟩ := hI
      try dsimp only at o4259 g4254 r4261
      refine Cov.prune [(22, .int .i64 (i4252 : Int)), (5, _), (1, _), (2, _), (21, _)] ⟨rfl, rfl, rfl, rfl, rfl, trivial⟩ ?_
      refine Cov.same (bl' := [(b4026, .cells #[.slice none 0 0, .slice a4256 v4255.length k4257, .slice a4034 v4033.length k4035] 71 (0, 0)), _]) (sl' := [.s (.slice a4256 v4255.length k4257) 3 1 v4255.length cs4258, _]) (Fs' := G :: Fs) rfl rfl rfl ?_
      cases w4253 with
      | nil =>
        rw [cuckoo_start_L3] at r4261; try dsimp only at r4261
        refine Cov.seq ?_
        refine Cov.region rfl ?_
        refine Cov.q .ro (.lss rfl rfl) rfl ?_
        refine Cov.region_end ?_
        refine Cov.seq ?_
        refine Cov.cond_dec rfl (fun c => absurd c (drop_nil g4254)) (fun _ => ?_)
        refine Cov.exit rfl ?_
        refine Cov.prune _ ?_ (Cov.same rfl rfl rfl (hb4234 (v4255, a4256, k4257, cs4258, x0_0) ⟨o4259, r4261⟩))
        exact ⟨rfl, rfl, rfl, trivial⟩
      | cons x4269 xs4270 =>
        have r4268 : cuckoo_start_B3 (cuckoo_start_J2 x1 x0_1 v4033) x0_0 (cuckoo_start_L3 (cuckoo_start_J2 x1 x0_1 v4033) x0_0 xs4270 (i4252 + 1)) x4269 i4252 v4255 = some r := r4261; clear r4261; unfold cuckoo_start_B3 at r4268; try dsimp only at r4268
        refine Cov.seq ?_
        refine Cov.region rfl ?_
        refine Cov.q .ro (.lss rfl rfl) rfl ?_
        refine Cov.region_end ?_
        refine Cov.seq ?_
        refine Cov.cond_dec rfl (fun _ => ?_) (fun c => absurd (drop_lt g4254) c)
        refine Cov.skip ?_
        refine Cov.seq ?_
        refine Cov.block ?_
        refine Cov.seq ?_
        refine Cov.region rfl ?_
        refine Cov.q .ro (.move rfl) rfl ?_
        refine Cov.q .ro (.assign rfl) rfl ?_
        refine Cov.region_end ?_
        refine Cov.region rfl ?_
        refine Cov.q .ro (.move rfl) rfl ?_
        refine Cov.q .ro (.nilCheck rfl rfl) rfl ?_
        refine Cov.q .ro (.fieldAddr 1 rfl fl71_1 ty22.sz rfl) rfl ?_
        refine Cov.q .ro (.load_own 0 rfl rfl ty22 rfl) rfl ?_
        refine Cov.q .ro (.move rfl) rfl ?_
        obtain ⟨u4271, hu4271, r4272⟩ := bind_some r4268; clear r4268
        obtain ⟨c4273, p4274, h4275⟩ := OL.get o4259 hu4271
        obtain rfl := h4275
        refine Cov.q .ro (.idxO 0 rfl rfl rfl hu4271 sl22 ty3.sz) rfl ?_
        obtain ⟨u4276, hu4276, r4277⟩ := bind_some r4272; clear r4272
        refine Cov.storeR 0 0 (Q := (Rep.int .i64)) .ro rfl rfl o4259 hu4276 rfl (.inl ⟨rfl, rfl⟩) rfl ty3 p4274 ((Rep.intI .i64 (-1)) :) rfl rfl (fun cs4278 hlcs4278 o4279 => ?_)
        refine Cov.reval 28 hlcs4278 rfl ?_
        refine Cov.recell 0 [_, .slice a4256 u4276.length k4257, _] rfl (by rw [hlcs4278]) [_, _] rfl ?_
        refine Cov.region_end ?_
        refine Cov.inBlock ?_
        refine Cov.region rfl ?_
        refine Cov.q .ro (.addw rfl rfl) rfl ?_
        refine Cov.q .ro (.move rfl) rfl ?_
        refine Cov.region_end ?_
        refine Cov.prune _ ?_ (Cov.same rfl rfl rfl (hb4262 ((i4252 + 1), xs4270, u4276, a4256, k4257, cs4278) ⟨o4279, (drop_succ g4254), r4277⟩ (Nat.lt_succ_self _)))
        exact ⟨(congrArg (fun z => some (Value.int .i64 z)) (idx_wrap (OL.len' o4031) g4254)), rfl, rfl, rfl, rfl, trivial⟩
  · intro hb4281
    refine Cov.drawL (.q 0 (.q 1 (.q 3 (.q 4 (.alt (.e 2 1 (.e 5 1 (.q 6 (.e 7 1 (.q 8 .nil))))) (.e 5 1 (.e 2 1 (.q 6 (.e 7 1 (.q 8 .nil)))))))))) [_] (by kernel_rfl) (by kernel_rfl) (pick_mem [0] rfl) ?_
    obtain ⟨u4282, hu4282, r4293⟩ := bind_some h; clear h
    obtain ⟨u4287, hu4287, r4294⟩ := bind_some r4293; clear r4293
    refine Cov.dq (.fieldAddr 0 rfl fl25_0 ty3.sz rfl) rfl ?_
    refine Cov.dq (.load_own 0 rfl rfl ty3 rfl) rfl ?_
    refine Cov.dq (.fieldAddr 0 rfl fl25_0 ty3.sz rfl) rfl ?_
    refine Cov.dq (.load_own 0 rfl rfl ty3 rfl) rfl ?_
    refine Cov.alt ?_ ?_
    · refine Cov.makeR (G := G) (Q := (Rep.int .i64)) .d1 sl22 ty3 rfl rfl rfl ((Rep.intI .i64 0) :) rfl rfl hu4282 rfl rfl (fun b4295 cs4296 hb4295 o4297 => ?_)
      refine Cov.clsL (HpLe.refl _) (pick_mem [0] rfl) ?_
      refine Cov.makeR (G := G) (Q := Rep.bool) .d1 sl49 ty4 rfl rfl rfl ((Rep.boolI false) :) rfl rfl hu4287 rfl rfl (fun b4299 cs4300 hb4299 o4301 => ?_)
      refine Cov.clsL (HpLe.refl _) (pick_mem [0] rfl) ?_
      refine Cov.dq (.build [_, _, _] [(1, _), (2, _)] ty71 pl71 rfl rfl) rfl ?_
      refine Cov.box [_, _, _] .d1 rfl rfl rfl (fun b4303 hb4303 => ?_)
      refine Cov.clsL (HpLe.refl _) (pick_mem [1] rfl) ?_
      refine Cov.dq (.assign rfl) rfl ?_
      refine Cov.draw_end ?_
      refine Cov.pullS 1 rfl [_, _] rfl ?_
      refine Cov.prune _ ?_ (Cov.same rfl rfl rfl (hb4281 (b4303, u4282, (some ⟨b4295, 0, none⟩), u4282.length, cs4296, u4287, (some ⟨b4299, 0, none⟩), u4287.length, cs4300) ⟨o4297, o4301, r4294⟩))
      exact ⟨rfl, rfl, rfl, trivial⟩
    · refine Cov.makeR (G := G) (Q := Rep.bool) .d1 sl49 ty4 rfl rfl rfl ((Rep.boolI false) :) rfl rfl hu4287 rfl rfl (fun b4304 cs4305 hb4304 o4306 => ?_)
      refine Cov.clsL (HpLe.refl _) (pick_mem [0] rfl) ?_
      refine Cov.makeR (G := G) (Q := (Rep.int .i64)) .d1 sl22 ty3 rfl rfl rfl ((Rep.intI .i64 0) :) rfl rfl hu4282 rfl rfl (fun b4308 cs4309 hb4308 o4310 => ?_)
      refine Cov.clsL (HpLe.refl _) (pick_mem [0] rfl) ?_
      refine Cov.dq (.build [_, _, _] [(1, _), (2, _)] ty71 pl71 rfl rfl) rfl ?_
      refine Cov.box [_, _, _] .d1 rfl rfl rfl (fun b4312 hb4312 => ?_)
      refine Cov.clsL (HpLe.refl _) (pick_mem [1] rfl) ?_
      refine Cov.dq (.assign rfl) rfl ?_
      refine Cov.draw_end ?_
      refine Cov.prune _ ?_ (Cov.same rfl rfl rfl (hb4281 (b4312, u4282, (some ⟨b4308, 0, none⟩), u4282.length, cs4309, u4287, (some ⟨b4304, 0, none⟩), u4287.length, cs4305) ⟨o4310, o4306, r4294⟩))
      exact ⟨rfl, rfl, rfl, trivial⟩

set_option maxHeartbeats 4000000 in
set_option maxRecDepth 100000 in
theorem cuckoo_placing_place_R_c (n : Nat) : ∀ {Fs : List Hp} {G : Hp} {p0 : Nat} {a0_0 : Option Addr} {k0_0 : Nat} {x0_0 : List (List Int)} {a0_1 : Option Addr} {k0_1 : Nat} {x0_1 : List Int} {cc0_1 : List Value} {bb0_1 : Option Nat} {pre0_1 post0_1 : List Value} {a0_2 : Option Addr} {k0_2 : Nat} {x0_2 : List Bool} {cc0_2 : List Value} {bb0_2 : Option Nat} {pre0_2 post0_2 : List Value} {x1 : Int} {a2 : Option Addr} {k2 : Nat} {x2 : List Bool} {cc2 : List Value} {bb2 : Option Nat} {pre2 post2 : List Value} {r : (Bool × (List Int) × (List Bool))} (hG : G ∈ Fs) (s0_0 : SlR (Rep.sl (Rep.int .i64)) G a0_0 k0_0 x0_0) (vva0_1 : VA a0_1 bb0_1 x0_1.length k0_1 pre0_1 cc0_1) (oo0_1 : OL (Rep.int .i64) G cc0_1 x0_1) (vva0_2 : VA a0_2 bb0_2 x0_2.length k0_2 pre0_2 cc0_2) (oo0_2 : OL Rep.bool G cc0_2 x0_2) (vva2 : VA a2 bb2 x2.length k2 pre2 cc2) (oo2 : OL Rep.bool G cc2 x2) (h : cuckoo_placing_place_R n (x0_0, x0_1, x0_2) x1 x2 = some r), RetS Try.prog 50 #[.pointer (some ⟨p0, 0, none⟩), .int .i64 x1, .slice a2 x2.length k2] Fs [(p0, .cells #[.slice a0_0 x0_0.length k0_0, .slice a0_1 x0_1.length k0_1, .slice a0_2 x0_2.length k0_2] 71 (0, 0))] [.g (viewG bb0_1 3 pre0_1 cc0_1 post0_1), .g (viewG bb0_2 4 pre0_2 cc0_2 post0_2), .g (viewG bb2 4 pre2 cc2 post2)] (fun v bo so => ∃ lc0 : List Value, ∃ lc1 : List Value, v = .bool r.1 ∧ bo = [(p0, .cells #[.slice a0_0 x0_0.length k0_0, .slice a0_1 r.2.1.length k0_1, .slice a0_2 x0_2.length k0_2] 71 (0, 0))] ∧ so = [.g (viewG bb0_1 3 pre0_1 lc0 post0_1), .g (viewG bb0_2 4 pre0_2 cc0_2 post0_2), .g (viewG bb2 4 pre2 lc1 post2)] ∧ OL (Rep.int .i64) G lc0 r.2.1 ∧ r.2.1.length = x0_1.length ∧ OL Rep.bool G lc1 r.2.2 ∧ r.2.2.length = x2.length) := by
  induction n with
  | zero => intro Fs G p0 a0_0 k0_0 x0_0 a0_1 k0_1 x0_1 cc0_1 bb0_1 pre0_1 post0_1 a0_2 k0_2 x0_2 cc0_2 bb0_2 pre0_2 post0_2 x1 a2 k2 x2 cc2 bb2 pre2 post2 r hG s0_0 vva0_1 oo0_1 vva0_2 oo0_2 vva2 oo2 h; exact absurd h (by unfold cuckoo_placing_place_R; simp)
  | succ n ih =>
    intro Fs G p0 a0_0 k0_0 x0_0 a0_1 k0_1 x0_1 cc0_1 bb0_1 pre0_1 post0_1 a0_2 k0_2 x0_2 cc0_2 bb0_2 pre0_2 post0_2 x1 a2 k2 x2 cc2 bb2 pre2 post2 r hG s0_0 vva0_1 oo0_1 vva0_2 oo0_2 vva2 oo2 h
    unfold cuckoo_placing_place_R at h
    unfold cuckoo_placing_place_B2 at h
    try dsimp only at h
    refine RetS.of (vs := [_, _, _]) Try.func50 rfl Try.ntmps50 [(0, _), (1, _), (2, _)] ⟨rfl, rfl, rfl, trivial⟩ rfl hG fun w0 S0 hS0 B0 => ?_
    refine Cov.seq ?_
    refine Cov.region rfl ?_
    refine Cov.q .ro (.assign rfl) rfl ?_
    refine Cov.region_end ?_
    refine Cov.scope ?_
    refine Cov.seq ?_
    refine Cov.label ?_
    refine Cov.seq ?_
    refine Cov.seq ?_
    refine Cov.region rfl ?_
    refine Cov.q .ro (.move rfl) rfl ?_
    refine Cov.q .ro (.nilCheck rfl rfl) rfl ?_
    refine Cov.q .ro (.fieldAddr 0 rfl fl71_0 ty54.sz rfl) rfl ?_
    refine Cov.q .ro (.load_own 0 rfl rfl ty54 rfl) rfl ?_
    refine Cov.q .ro (.move rfl) rfl ?_
    obtain ⟨u4, hu4, r5⟩ := bind_some h; clear h
    obtain ⟨c6, p7, h8⟩ := SlR.get s0_0 hu4
    obtain ⟨a9, k10, rfl, s11⟩ := h8
    refine Cov.q .ro (.idxR s0_0 rfl rfl hu4 sl54 ty22.sz) rfl ?_
    refine Cov.q .ro (.load_rp p7 List.mem_cons_self rfl ty22 rfl) rfl ?_
    refine Cov.q .ro (.len_sl rfl rfl sl22) rfl ?_
    refine Cov.q .ro (.move rfl) rfl ?_
    refine Cov.region_end ?_
    refine Cov.block ?_
    refine Cov.pullS 2 rfl [_, _, _] rfl ?_
    refine Cov.loop2 (α := Nat × List Int × List Bool × List Value × List Int × List Value) (fun y => [(2, .slice a2 y.2.2.1.length k2), (18, .int .i64 (y.1 : Int))]) [(0, _), (1, _), (16, _), (17, _)] (fun y => []) (fun y => [(p0, .cells #[.slice a0_0 x0_0.length k0_0, .slice a0_1 y.2.2.2.2.1.length k0_1, .slice a0_2 x0_2.length k0_2] 71 (0, 0))]) [] (fun y => [.g (viewG bb2 4 pre2 y.2.2.2.1 post2), .g (viewG bb0_1 3 pre0_1 y.2.2.2.2.2 post0_1)]) [_] (fun y => OL Rep.bool G y.2.2.2.1 y.2.2.1 ∧ VA a2 bb2 y.2.2.1.length k2 pre2 y.2.2.2.1 ∧ y.2.2.1.length = x2.length ∧ OL (Rep.int .i64) G y.2.2.2.2.2 y.2.2.2.2.1 ∧ VA a0_1 bb0_1 y.2.2.2.2.1.length k0_1 pre0_1 y.2.2.2.2.2 ∧ y.2.2.2.2.1.length = x0_1.length ∧ List.drop y.1 u4 = y.2.1 ∧ cuckoo_placing_place_L1 (cuckoo_placing_place_R n) x1 x0_0 x0_2 y.2.1 y.2.2.1 y.2.2.2.2.1 = some r) (fun y => y.2.1.length) (0, u4, x2, cc2, x0_1, cc0_1) ⟨oo2, vva2, rfl, oo0_1, vva0_1, rfl, rfl, r5⟩ ⟨rfl, rfl, rfl, rfl, rfl, rfl, trivial⟩ rfl rfl rfl (fun y hI hb129 => ?_)
    obtain ⟨i113, w114, v116, cs117, v122, cs123⟩ := y
    obtain ⟨o118, va119, hl120, o124, va125, hl126, g115, r128⟩ := hI
    try dsimp only at o118 va119 hl120 o124 va125 hl126 g115 r128
    refine Cov.prune [(2, .slice a2 v116.length k2), (18, .int .i64 (i113 : Int)), (0, _), (1, _), (16, _), (17, _)] ⟨rfl, rfl, rfl, rfl, rfl, rfl, trivial⟩ ?_
    refine Cov.same (bl' := [(p0, .cells #[.slice a0_0 x0_0.length k0_0, .slice a0_1 v122.length k0_1, .slice a0_2 x0_2.length k0_2] 71 (0, 0))]) (sl' := [.g (viewG bb2 4 pre2 cs117 post2), .g (viewG bb0_1 3 pre0_1 cs123 post0_1), _]) (Fs' := G :: Fs) rfl rfl rfl ?_
    cases w114 with
    | nil =>
      rw [cuckoo_placing_place_L1] at r128; try dsimp only at r128
      refine Cov.seq ?_
      refine Cov.region rfl ?_
      refine Cov.q .ro (.lss rfl rfl) rfl ?_
      refine Cov.region_end ?_
      refine Cov.seq ?_
      refine Cov.cond_dec rfl (fun c => absurd c (drop_nil g115)) (fun _ => ?_)
      refine Cov.exit rfl ?_
      refine Cov.seq ?_
      refine Cov.region rfl ?_
      refine Cov.q .ro (.assign rfl) rfl ?_
      refine Cov.region_end ?_
      cases r128
      refine Cov.pullS 2 rfl [_, _, _] rfl ?_
      refine Cov.pullS 2 rfl [_, _, _] rfl ?_
      refine Cov.retS (c := ⟨50, none⟩) (.inr ⟨_, rfl⟩) [.tmp 6] [_] rfl Try.func50 Try.results50 ⟨RV.tmp rfl, trivial⟩ (fun _ h => List.mem_cons_of_mem _ h) ⟨cs123, cs117, rfl, rfl, rfl, o124, hl126, o118, hl120⟩
    | cons x136 xs137 =>
      have r135 : cuckoo_placing_place_B1 (cuckoo_placing_place_R n) x1 x0_0 x0_2 (cuckoo_placing_place_L1 (cuckoo_placing_place_R n) x1 x0_0 x0_2 xs137) x136 v116 v122 = some r := r128; clear r128; unfold cuckoo_placing_place_B1 at r135; try dsimp only at r135
      refine Cov.seq ?_
      refine Cov.region rfl ?_
      refine Cov.q .ro (.lss rfl rfl) rfl ?_
      refine Cov.region_end ?_
      refine Cov.seq ?_
      refine Cov.cond_dec rfl (fun _ => ?_) (fun c => absurd (drop_lt g115) c)
      refine Cov.skip ?_
      refine Cov.seq ?_
      refine Cov.block ?_
      refine Cov.seq ?_
      refine Cov.region rfl ?_
      obtain ⟨c138, p139, h140⟩ := SlR.get s11 (drop_idx g115)
      obtain rfl := h140
      refine Cov.q .ro (.idxR s11 rfl rfl (drop_idx g115) sl22 ty3.sz) rfl ?_
      refine Cov.q .ro (.load_rp p139 List.mem_cons_self rfl ty3 rfl) rfl ?_
      refine Cov.q .ro (.assign rfl) rfl ?_
      refine Cov.region_end ?_
      refine Cov.seq ?_
      refine Cov.block ?_
      refine Cov.seq ?_
      refine Cov.region rfl ?_
      refine Cov.q .ro (.move rfl) rfl ?_
      refine Cov.q .ro (.move rfl) rfl ?_
      obtain ⟨u141, hu141, r142⟩ := bind_some r135; clear r135
      obtain ⟨c143, p144, h145⟩ := OL.get o118 hu141
      obtain rfl := h145
      refine Cov.q .ro (.idxV 0 rfl va119 o118 rfl rfl hu141 sl49 ty4.sz rfl rfl) rfl ?_
      refine Cov.q .ro (.loadV 0 0 rfl va119 o118 rfl rfl hu141 p144 rfl (.inl ⟨rfl, rfl⟩) ty4 rfl) rfl ?_
      refine Cov.q .ro (.move rfl) rfl ?_
      obtain ⟨u153, h154, r155⟩ := bind_some r142; clear r142
      refine Cov.cutR 8 (β := Unit) (fun y => [(35, .bool u153)]) [(2, _), (18, _), (0, _), (1, _), (16, _), (17, _), (8, _)] (fun y => G :: Fs) (fun y => []) [_] (fun y => []) [_, _, _] (fun y => True) ⟨rfl, rfl, rfl, rfl, rfl, rfl, rfl, trivial⟩ [0] rfl [0, 1, 2] rfl ?_ ?_
      · rintro _ _
        refine Cov.prune [(35, .bool u153), (2, _), (18, _), (0, _), (1, _), (16, _), (17, _), (8, _)] ⟨rfl, rfl, rfl, rfl, rfl, rfl, rfl, rfl, trivial⟩ ?_
        refine Cov.same (bl' := [_]) (sl' := [_, _, _]) (Fs' := G :: Fs) rfl rfl rfl ?_
        refine Cov.q .ro (.assign rfl) rfl ?_
        refine Cov.region_end ?_
        refine Cov.cond rfl (fun c158 => ?_) (fun c158 => ?_)
        · have r159 := ifT r155 c158; clear r155
          refine Cov.exit rfl ?_
          refine Cov.region rfl ?_
          refine Cov.q .ro (.addw rfl rfl) rfl ?_
          refine Cov.q .ro (.move rfl) rfl ?_
          refine Cov.region_end ?_
          refine Cov.prune _ ?_ (Cov.same rfl rfl rfl (hb129 ((i113 + 1), xs137, v116, cs117, v122, cs123) ⟨o118, va119, hl120, o124, va125, hl126, (drop_succ g115), r159⟩ (Nat.lt_succ_self _)))
          exact ⟨rfl, (congrArg (fun z => some (Value.int .i64 z)) (idx_wrap (SlR.len s11) g115)), rfl, rfl, rfl, rfl, trivial⟩
        · have r160 := ifBF r155 c158; clear r155
          refine Cov.seq ?_
          refine Cov.region rfl ?_
          refine Cov.q .ro (.move rfl) rfl ?_
          refine Cov.q .ro (.nilCheck rfl rfl) rfl ?_
          refine Cov.q .ro (.fieldAddr 1 rfl fl71_1 ty22.sz rfl) rfl ?_
          refine Cov.q .ro (.load_own 0 rfl rfl ty22 rfl) rfl ?_
          refine Cov.q .ro (.move rfl) rfl ?_
          obtain ⟨u161, hu161, r162⟩ := bind_some r160; clear r160
          obtain ⟨c163, p164, h165⟩ := OL.get o124 hu161
          obtain rfl := h165
          refine Cov.q .ro (.idxV 1 rfl va125 o124 rfl rfl hu161 sl22 ty3.sz rfl rfl) rfl ?_
          refine Cov.q .ro (.loadV 1 0 rfl va125 o124 rfl rfl hu161 p164 rfl (.inl ⟨rfl, rfl⟩) ty3 rfl) rfl ?_
          refine Cov.q .ro (.lss rfl rfl) rfl ?_
          refine Cov.q .ro (.assign rfl) rfl ?_
          refine Cov.region_end ?_
          refine Cov.cond_dec rfl (fun c166 => ?_) (fun c166 => ?_)
          · have r167 := ifT r162 c166; clear r162
            refine Cov.seq ?_
            refine Cov.region rfl ?_
            refine Cov.q .ro (.move rfl) rfl ?_
            refine Cov.q .ro (.nilCheck rfl rfl) rfl ?_
            refine Cov.q .ro (.fieldAddr 1 rfl fl71_1 ty22.sz rfl) rfl ?_
            refine Cov.q .ro (.load_own 0 rfl rfl ty22 rfl) rfl ?_
            refine Cov.q .ro (.move rfl) rfl ?_
            refine Cov.q .ro (.move rfl) rfl ?_
            obtain ⟨u168, hu168, r169⟩ := bind_some r167; clear r167
            obtain ⟨c170, p171, h172⟩ := OL.get o124 hu168
            obtain rfl := h172
            refine Cov.q .ro (.idxV 1 rfl va125 o124 rfl rfl hu168 sl22 ty3.sz rfl rfl) rfl ?_
            obtain ⟨u173, hu173, r174⟩ := bind_some r169; clear r169
            refine Cov.storeV 1 0 (Q := (Rep.int .i64)) .ro rfl va125 rfl rfl o124 hu173 rfl (.inl ⟨rfl, rfl⟩) rfl ty3 p171 ((Rep.intI .i64 x1) :) rfl rfl (fun cs175 hlcs175 o176 va177 => ?_)
            refine Cov.reval 40 hlcs175 rfl ?_
            refine Cov.reval 48 hlcs175 rfl ?_
            refine Cov.recell 0 [_, .slice a0_1 u173.length k0_1, _] rfl (by rw [hlcs175]) [_] rfl ?_
            refine Cov.region_end ?_
            refine Cov.prune [] trivial ?_
            refine Cov.seq ?_
            refine Cov.region rfl ?_
            refine Cov.q .ro (.assign rfl) rfl ?_
            refine Cov.region_end ?_
            cases r174
            refine Cov.pullS 2 rfl [_, _, _] rfl ?_
            refine Cov.pullS 2 rfl [_, _, _] rfl ?_
            refine Cov.retS (c := ⟨50, none⟩) (.inr ⟨_, rfl⟩) [.tmp 6] [_] rfl Try.func50 Try.results50 ⟨RV.tmp rfl, trivial⟩ (fun _ h => List.mem_cons_of_mem _ h) ⟨cs175, cs117, rfl, rfl, rfl, o176, (hlcs175.trans hl126), o118, hl120⟩
          · have r179 := ifF r162 c166; clear r162
            refine Cov.skip ?_
            refine Cov.inBlock ?_
            refine Cov.seq ?_
            refine Cov.region rfl ?_
            refine Cov.q .ro (.move rfl) rfl ?_
            refine Cov.q .ro (.move rfl) rfl ?_
            obtain ⟨u180, hu180, r181⟩ := bind_some r179; clear r179
            obtain ⟨c182, p183, h184⟩ := OL.get o118 hu180
            obtain rfl := h184
            refine Cov.q .ro (.idxV 0 rfl va119 o118 rfl rfl hu180 sl49 ty4.sz rfl rfl) rfl ?_
            obtain ⟨u185, hu185, r186⟩ := bind_some r181; clear r181
            refine Cov.storeV 0 0 (Q := Rep.bool) .ro rfl va119 rfl rfl o118 hu185 rfl (.inl ⟨rfl, rfl⟩) rfl ty4 p183 ((Rep.boolI true) :) rfl rfl (fun cs187 hlcs187 o188 va189 => ?_)
            refine Cov.reval 2 hlcs187 rfl ?_
            refine Cov.reval 52 hlcs187 rfl ?_
            refine Cov.region_end ?_
            refine Cov.prune [(2, _), (18, _), (0, _), (1, _), (16, _), (17, _), (8, _)] ⟨rfl, rfl, rfl, rfl, rfl, rfl, rfl, trivial⟩ ?_
            refine Cov.seq ?_
            refine Cov.region rfl ?_
            refine Cov.q .ro (.move rfl) rfl ?_
            refine Cov.q .ro (.nilCheck rfl rfl) rfl ?_
            refine Cov.q .ro (.fieldAddr 1 rfl fl71_1 ty22.sz rfl) rfl ?_
            refine Cov.q .ro (.load_own 0 rfl rfl ty22 rfl) rfl ?_
            refine Cov.q .ro (.move rfl) rfl ?_
            obtain ⟨u191, hu191, r192⟩ := bind_some r186; clear r186
            obtain ⟨c193, p194, h195⟩ := OL.get o124 hu191
            obtain rfl := h195
            refine Cov.q .ro (.idxV 1 rfl va125 o124 rfl rfl hu191 sl22 ty3.sz rfl rfl) rfl ?_
            refine Cov.q .ro (.loadV 1 0 rfl va125 o124 rfl rfl hu191 p194 rfl (.inl ⟨rfl, rfl⟩) ty3 rfl) rfl ?_
            refine Cov.q .ro (.assign rfl) rfl ?_
            refine Cov.region_end ?_
            refine Cov.seq ?_
            refine Cov.region rfl ?_
            refine Cov.q .ro (.move rfl) rfl ?_
            refine Cov.q .ro (.move rfl) rfl ?_
            refine Cov.q .ro (.move rfl) rfl ?_
            obtain ⟨u196, hu196, r197⟩ := bind_some r192; clear r192
            refine Cov.pullS 2 rfl [_, _, _] rfl ?_
            refine Cov.pullS 2 rfl [_, _, _] rfl ?_
            refine Cov.callS (b1 := [_]) (b2 := []) (s1 := [_, _, _]) [_, _, _] [] .ro rfl rfl Try.call50 rfl rfl (ih (G := G) List.mem_cons_self s0_0 va125 o124 vva0_2 oo0_2 va189 o188 hu196) rfl (fun v199 bo so h198 => ?_)
            obtain ⟨cs200, cs203, rfl, rfl, rfl, o201, hl202, o204, hl205⟩ := h198
            refine Cov.same (bl' := [_]) (sl' := [_, _, _]) rfl rfl rfl ?_
            have va208 := VA.call va125 o124 o201 hl202
            have va209 := VA.call va189 o188 o204 hl205
            refine Cov.reval 58 hl202 rfl ?_
            refine Cov.recell 0 [_, .slice a0_1 u196.2.1.length k0_1, _] rfl (by rw [hl202]) [_] rfl ?_
            refine Cov.reval 2 hl205 rfl ?_
            refine Cov.reval 64 hl205 rfl ?_
            refine Cov.region_end ?_
            refine Cov.cond rfl (fun c210 => ?_) (fun c210 => ?_)
            · have r211 := ifT r197 c210; clear r197
              refine Cov.seq ?_
              refine Cov.region rfl ?_
              refine Cov.q .ro (.move rfl) rfl ?_
              refine Cov.q .ro (.nilCheck rfl rfl) rfl ?_
              refine Cov.q .ro (.fieldAddr 1 rfl fl71_1 ty22.sz rfl) rfl ?_
              refine Cov.q .ro (.load_own 0 rfl rfl ty22 rfl) rfl ?_
              refine Cov.q .ro (.move rfl) rfl ?_
              refine Cov.q .ro (.move rfl) rfl ?_
              obtain ⟨u212, hu212, r213⟩ := bind_some r211; clear r211
              obtain ⟨c214, p215, h216⟩ := OL.get o201 hu212
              obtain rfl := h216
              refine Cov.q .ro (.idxV 0 rfl va208 o201 rfl rfl hu212 sl22 ty3.sz rfl rfl) rfl ?_
              obtain ⟨u217, hu217, r218⟩ := bind_some r213; clear r213
              refine Cov.storeV 0 0 (Q := (Rep.int .i64)) .ro rfl va208 rfl rfl o201 hu217 rfl (.inl ⟨rfl, rfl⟩) rfl ty3 p215 ((Rep.intI .i64 x1) :) rfl rfl (fun cs219 hlcs219 o220 va221 => ?_)
              refine Cov.reval 58 hlcs219 rfl ?_
              refine Cov.reval 69 hlcs219 rfl ?_
              refine Cov.recell 0 [_, .slice a0_1 u217.length k0_1, _] rfl (by rw [hlcs219]) [_] rfl ?_
              refine Cov.region_end ?_
              refine Cov.prune [] trivial ?_
              refine Cov.seq ?_
              refine Cov.region rfl ?_
              refine Cov.q .ro (.assign rfl) rfl ?_
              refine Cov.region_end ?_
              cases r218
              refine Cov.retS (c := ⟨50, none⟩) (.inr ⟨_, rfl⟩) [.tmp 6] [_] rfl Try.func50 Try.results50 ⟨RV.tmp rfl, trivial⟩ (fun _ h => List.mem_cons_of_mem _ h) ⟨cs219, cs203, rfl, rfl, rfl, o220, (hlcs219.trans (hl202.trans hl126)), o204, (hl205.trans (hlcs187.trans hl120))⟩
            · have r223 := ifBF r197 c210; clear r197
              refine Cov.skip ?_
              refine Cov.inBlock ?_
              refine Cov.region rfl ?_
              refine Cov.q .ro (.addw rfl rfl) rfl ?_
              refine Cov.q .ro (.move rfl) rfl ?_
              refine Cov.region_end ?_
              refine Cov.prune [(2, _), (18, _), (0, _), (1, _), (16, _), (17, _)] ⟨rfl, rfl, rfl, rfl, rfl, rfl, trivial⟩ ?_
              refine Cov.pullS 1 rfl [_, _, _] rfl ?_
              refine Cov.pullS 1 rfl [_, _, _] rfl ?_
              refine Cov.pullS 2 rfl [_, _, _] rfl ?_
              refine Cov.prune _ ?_ (Cov.same rfl rfl rfl (hb129 ((i113 + 1), xs137, u196.2.2, cs203, u196.2.1, cs200) ⟨o204, va209, (hl205.trans (hlcs187.trans hl120)), o201, va208, (hl202.trans hl126), (drop_succ g115), r223⟩ (Nat.lt_succ_self _)))
              exact ⟨rfl, (congrArg (fun z => some (Value.int .i64 z)) (idx_wrap (SlR.len s11) g115)), rfl, rfl, rfl, rfl, trivial⟩
      · intro hb152
        refine Cov.split_b 27 rfl (fun c151 => ?_) (fun c151 => ?_)
        · have r224 := ifT h154 c151
          refine Cov.g_off rfl rfl rfl ?_
          refine Cov.g_off rfl rfl rfl ?_
          refine Cov.g_off rfl rfl rfl ?_
          refine Cov.g_off rfl rfl rfl ?_
          refine Cov.g_off rfl rfl rfl ?_
          refine Cov.g_off rfl rfl rfl ?_
          refine Cov.g_off rfl rfl rfl ?_
          refine Cov.q .ro (.pick_t rfl rfl) rfl ?_
          refine Cov.prune _ ?_ (Cov.same rfl rfl rfl (hb152 () trivial))
          exact ⟨sval r224, rfl, rfl, rfl, rfl, rfl, rfl, rfl, trivial⟩
        · have r225 := ifBF h154 c151
          refine Cov.g_on rfl ?_
          refine Cov.q .ro (.move rfl) rfl ?_
          refine Cov.g_on rfl ?_
          refine Cov.q .ro (.nilCheck rfl rfl) rfl ?_
          refine Cov.g_on rfl ?_
          refine Cov.q .ro (.fieldAddr 2 rfl fl71_2 ty49.sz rfl) rfl ?_
          refine Cov.g_on rfl ?_
          refine Cov.q .ro (.load_own 0 rfl rfl ty49 rfl) rfl ?_
          refine Cov.g_on rfl ?_
          refine Cov.q .ro (.move rfl) rfl ?_
          refine Cov.g_on rfl ?_
          obtain ⟨u226, hu226, r227⟩ := bind_some r225; clear r225
          obtain ⟨c228, p229, h230⟩ := OL.get oo0_2 hu226
          obtain rfl := h230
          refine Cov.q .ro (.idxV 2 rfl vva0_2 oo0_2 rfl rfl hu226 sl49 ty4.sz rfl rfl) rfl ?_
          refine Cov.g_on rfl ?_
          refine Cov.q .ro (.loadV 2 0 rfl vva0_2 oo0_2 rfl rfl hu226 p229 rfl (.inl ⟨rfl, rfl⟩) ty4 rfl) rfl ?_
          refine Cov.q .ro (.pick_f rfl rfl) rfl ?_
          refine Cov.prune _ ?_ (Cov.same rfl rfl rfl (hb152 () trivial))
          exact ⟨sval r227, rfl, rfl, rfl, rfl, rfl, rfl, rfl, trivial⟩
theorem cuckoo_placing_place_c {Fs : List Hp} {G : Hp} {p0 : Nat} {a0_0 : Option Addr} {k0_0 : Nat} {x0_0 : List (List Int)} {a0_1 : Option Addr} {k0_1 : Nat} {x0_1 : List Int} {cc0_1 : List Value} {bb0_1 : Option Nat} {pre0_1 post0_1 : List Value} {a0_2 : Option Addr} {k0_2 : Nat} {x0_2 : List Bool} {cc0_2 : List Value} {bb0_2 : Option Nat} {pre0_2 post0_2 : List Value} {x1 : Int} {a2 : Option Addr} {k2 : Nat} {x2 : List Bool} {cc2 : List Value} {bb2 : Option Nat} {pre2 post2 : List Value} {r : (Bool × (List Int) × (List Bool))} (hG : G ∈ Fs) (s0_0 : SlR (Rep.sl (Rep.int .i64)) G a0_0 k0_0 x0_0) (vva0_1 : VA a0_1 bb0_1 x0_1.length k0_1 pre0_1 cc0_1) (oo0_1 : OL (Rep.int .i64) G cc0_1 x0_1) (vva0_2 : VA a0_2 bb0_2 x0_2.length k0_2 pre0_2 cc0_2) (oo0_2 : OL Rep.bool G cc0_2 x0_2) (vva2 : VA a2 bb2 x2.length k2 pre2 cc2) (oo2 : OL Rep.bool G cc2 x2) (h : cuckoo_placing_place (x0_0, x0_1, x0_2) x1 x2 = some r) : RetS Try.prog 50 #[.pointer (some ⟨p0, 0, none⟩), .int .i64 x1, .slice a2 x2.length k2] Fs [(p0, .cells #[.slice a0_0 x0_0.length k0_0, .slice a0_1 x0_1.length k0_1, .slice a0_2 x0_2.length k0_2] 71 (0, 0))] [.g (viewG bb0_1 3 pre0_1 cc0_1 post0_1), .g (viewG bb0_2 4 pre0_2 cc0_2 post0_2), .g (viewG bb2 4 pre2 cc2 post2)] (fun v bo so => ∃ lc0 : List Value, ∃ lc1 : List Value, v = .bool r.1 ∧ bo = [(p0, .cells #[.slice a0_0 x0_0.length k0_0, .slice a0_1 r.2.1.length k0_1, .slice a0_2 x0_2.length k0_2] 71 (0, 0))] ∧ so = [.g (viewG bb0_1 3 pre0_1 lc0 post0_1), .g (viewG bb0_2 4 pre0_2 cc0_2 post0_2), .g (viewG bb2 4 pre2 lc1 post2)] ∧ OL (Rep.int .i64) G lc0 r.2.1 ∧ r.2.1.length = x0_1.length ∧ OL Rep.bool G lc1 r.2.2 ∧ r.2.2.length = x2.length) := by
  unfold cuckoo_placing_place at h
  exact cuckoo_placing_place_R_c big hG s0_0 vva0_1 oo0_1 vva0_2 oo0_2 vva2 oo2 h

set_option maxHeartbeats 4000000 in
set_option maxRecDepth 100000 in
theorem cuckoo_placing_all_c {Fs : List Hp} {G : Hp} {p0 : Nat} {a0_0 : Option Addr} {k0_0 : Nat} {x0_0 : List (List Int)} {a0_1 : Option Addr} {k0_1 : Nat} {x0_1 : List Int} {cc0_1 : List Value} {bb0_1 : Option Nat} {pre0_1 post0_1 : List Value} {a0_2 : Option Addr} {k0_2 : Nat} {x0_2 : List Bool} {cc0_2 : List Value} {bb0_2 : Option Nat} {pre0_2 post0_2 : List Value} {x1 : Int} {r : (Bool × (List Int))} (hG : G ∈ Fs) (s0_0 : SlR (Rep.sl (Rep.int .i64)) G a0_0 k0_0 x0_0) (vva0_1 : VA a0_1 bb0_1 x0_1.length k0_1 pre0_1 cc0_1) (oo0_1 : OL (Rep.int .i64) G cc0_1 x0_1) (vva0_2 : VA a0_2 bb0_2 x0_2.length k0_2 pre0_2 cc0_2) (oo0_2 : OL Rep.bool G cc0_2 x0_2) (h : cuckoo_placing_all (x0_0, x0_1, x0_2) x1 = some r) : RetS Try.prog 38 #[.pointer (some ⟨p0, 0, none⟩), .int .i64 x1] Fs [(p0, .cells #[.slice a0_0 x0_0.length k0_0, .slice a0_1 x0_1.length k0_1, .slice a0_2 x0_2.length k0_2] 71 (0, 0))] [.g (viewG bb0_1 3 pre0_1 cc0_1 post0_1), .g (viewG bb0_2 4 pre0_2 cc0_2 post0_2)] (fun v bo so => ∃ lc0 : List Value, v = .bool r.1 ∧ bo = [(p0, .cells #[.slice a0_0 x0_0.length k0_0, .slice a0_1 r.2.length k0_1, .slice a0_2 x0_2.length k0_2] 71 (0, 0))] ∧ so = [.g (viewG bb0_1 3 pre0_1 lc0 post0_1), .g (viewG bb0_2 4 pre0_2 cc0_2 post0_2)] ∧ OL (Rep.int .i64) G lc0 r.2 ∧ r.2.length = x0_1.length) := by
  unfold cuckoo_placing_all at h
  try dsimp only at h
  refine RetS.of (vs := [_, _]) Try.func38 rfl Try.ntmps38 [(0, _), (1, _)] ⟨rfl, rfl, trivial⟩ rfl hG fun w0 S0 hS0 B0 => ?_
  refine Cov.seq ?_
  refine Cov.region rfl ?_
  refine Cov.q .ro (.assign rfl) rfl ?_
  refine Cov.region_end ?_
  refine Cov.seq ?_
  refine Cov.seq ?_
  refine Cov.region rfl ?_
  refine Cov.q .ro (.move rfl) rfl ?_
  refine Cov.q .ro (.assign rfl) rfl ?_
  refine Cov.region_end ?_
  refine Cov.block ?_
  refine Cov.loop2 (α := Nat × Int × List Int × List Value) (fun y => [(5, .int .i64 y.2.1)]) [(0, _)] (fun y => []) (fun y => [(p0, .cells #[.slice a0_0 x0_0.length k0_0, .slice a0_1 y.2.2.1.length k0_1, .slice a0_2 x0_2.length k0_2] 71 (0, 0))]) [] (fun y => [.g (viewG bb0_1 3 pre0_1 y.2.2.2 post0_1)]) [_] (fun y => OL (Rep.int .i64) G y.2.2.2 y.2.2.1 ∧ VA a0_1 bb0_1 y.2.2.1.length k0_1 pre0_1 y.2.2.2 ∧ y.2.2.1.length = x0_1.length ∧ cuckoo_placing_all_L1 x0_0 x0_2 y.1 y.2.1 y.2.2.1 = some r) (fun y => y.1) (big, x1, x0_1, cc0_1) ⟨oo0_1, vva0_1, rfl, h⟩ ⟨rfl, rfl, trivial⟩ rfl rfl rfl (fun y hI hb44 => ?_)
  obtain ⟨n34, v36, v37, cs38⟩ := y
  obtain ⟨o39, va40, hl41, r43⟩ := hI
  try dsimp only at o39 va40 hl41 r43
  refine Cov.prune [(5, .int .i64 v36), (0, _)] ⟨rfl, rfl, trivial⟩ ?_
  refine Cov.same (bl' := [(p0, .cells #[.slice a0_0 x0_0.length k0_0, .slice a0_1 v37.length k0_1, .slice a0_2 x0_2.length k0_2] 71 (0, 0))]) (sl' := [.g (viewG bb0_1 3 pre0_1 cs38 post0_1), _]) (Fs' := G :: Fs) rfl rfl rfl ?_
  obtain ⟨m48, rfl⟩ : ∃ m, n34 = m + 1 := by cases n34 with | zero => exact absurd (show (none : Option _) = some _ from r43) (by simp) | succ m => exact ⟨m, rfl⟩
  have r47 : cuckoo_placing_all_B1 x0_0 x0_2 (cuckoo_placing_all_L1 x0_0 x0_2 m48) v36 v37 = some r := r43; clear r43; unfold cuckoo_placing_all_B1 at r47; try dsimp only at r47
  refine Cov.seq ?_
  refine Cov.seq ?_
  refine Cov.region rfl ?_
  refine Cov.q .ro (.move rfl) rfl ?_
  refine Cov.q .ro (.move rfl) rfl ?_
  refine Cov.q .ro (.nilCheck rfl rfl) rfl ?_
  refine Cov.q .ro (.fieldAddr 0 rfl fl71_0 ty54.sz rfl) rfl ?_
  refine Cov.q .ro (.load_own 0 rfl rfl ty54 rfl) rfl ?_
  refine Cov.q .ro (.len_sl rfl rfl sl54) rfl ?_
  refine Cov.q .ro (.lss rfl rfl) rfl ?_
  refine Cov.region_end ?_
  refine Cov.cond_dec rfl (fun c49 => ?_) (fun c49 => ?_)
  · have r50 := ifT r47 c49; clear r47
    refine Cov.skip ?_
    refine Cov.seq ?_
    refine Cov.block ?_
    refine Cov.seq ?_
    refine Cov.region rfl ?_
    refine Cov.q .ro (.move rfl) rfl ?_
    refine Cov.q .ro (.move rfl) rfl ?_
    refine Cov.q .ro (.move rfl) rfl ?_
    refine Cov.q .ro (.nilCheck rfl rfl) rfl ?_
    refine Cov.q .ro (.fieldAddr 1 rfl fl71_1 ty22.sz rfl) rfl ?_
    refine Cov.q .ro (.load_own 0 rfl rfl ty22 rfl) rfl ?_
    refine Cov.q .ro (.len_sl rfl rfl sl22) rfl ?_
    obtain ⟨u51, hu51, r52⟩ := bind_some r50; clear r50
    refine Cov.makeR (G := G) (Q := Rep.bool) .ro sl49 ty4 rfl rfl rfl ((Rep.boolI false) :) rfl rfl hu51 rfl rfl (fun b53 cs54 hb53 o55 => ?_)
    refine Cov.toV 0 rfl (fun vb57 po58 va59 vb60 => ?_)
    obtain ⟨u61, hu61, r62⟩ := bind_some r52; clear r52
    refine Cov.pullS 2 rfl [_, _, _] rfl ?_
    refine Cov.pullS 2 rfl [_, _, _] rfl ?_
    refine Cov.callS (b1 := [_]) (b2 := []) (s1 := [_, _, _]) [_, _, _] [] .ro rfl rfl Try.call50 rfl rfl (cuckoo_placing_place_c (G := G) List.mem_cons_self s0_0 va40 o39 vva0_2 oo0_2 va59 o55 hu61) rfl (fun v64 bo so h63 => ?_)
    obtain ⟨cs65, cs68, rfl, rfl, rfl, o66, hl67, o69, hl70⟩ := h63
    refine Cov.same (bl' := [_]) (sl' := [_, _, _]) rfl rfl rfl ?_
    have va73 := VA.call va40 o39 o66 hl67
    refine Cov.ofV 2 rfl vb60 hl70 o69 rfl ?_
    refine Cov.reval 21 hl67 rfl ?_
    refine Cov.recell 0 [_, .slice a0_1 u61.2.1.length k0_1, _] rfl (by rw [hl67]) [_] rfl ?_
    refine Cov.reval 23 hl70 rfl ?_
    refine Cov.q .ro (.not rfl) rfl ?_
    refine Cov.region_end ?_
    refine Cov.prune [(5, _), (0, _), (25, _)] ⟨rfl, rfl, rfl, trivial⟩ ?_
    refine Cov.cond rfl (fun c74 => ?_) (fun c74 => ?_)
    · have r75 := ifT r62 c74; clear r62
      refine Cov.seq ?_
      refine Cov.region rfl ?_
      refine Cov.q .ro (.assign rfl) rfl ?_
      refine Cov.region_end ?_
      cases r75
      refine Cov.pullS 1 rfl [_, _, _] rfl ?_
      refine Cov.pullS 1 rfl [_, _, _] rfl ?_
      refine Cov.pullS 2 rfl [_, _, _] rfl ?_
      refine Cov.drop 0 1 _ [_, _] rfl rfl ?_
      refine Cov.retS (c := ⟨38, none⟩) (.inr ⟨_, rfl⟩) [.tmp 4] [_] rfl Try.func38 Try.results38 ⟨RV.tmp rfl, trivial⟩ (fun _ h => List.mem_cons_of_mem _ h) ⟨cs65, rfl, rfl, rfl, o66, (hl67.trans hl41)⟩
    · have r76 := ifBF r62 c74; clear r62
      refine Cov.skip ?_
      refine Cov.inBlock ?_
      refine Cov.region rfl ?_
      refine Cov.q .ro (.move rfl) rfl ?_
      refine Cov.q .ro (.addw rfl rfl) rfl ?_
      refine Cov.q .ro (.assign rfl) rfl ?_
      refine Cov.region_end ?_
      refine Cov.pullS 1 rfl [_, _, _] rfl ?_
      refine Cov.pullS 1 rfl [_, _, _] rfl ?_
      refine Cov.pullS 2 rfl [_, _, _] rfl ?_
      refine Cov.drop 0 1 _ [_, _] rfl rfl ?_
      refine Cov.prune _ ?_ (Cov.same rfl rfl rfl (hb44 (m48, (w64 (v36 + 1)), u61.2.1, cs65) ⟨o66, va73, (hl67.trans hl41), r76⟩ (Nat.lt_succ_self _)))
      exact ⟨rfl, rfl, trivial⟩
  · have r77 := ifF r47 c49; clear r47
    refine Cov.exit rfl ?_
    refine Cov.seq ?_
    refine Cov.region rfl ?_
    refine Cov.q .ro (.assign rfl) rfl ?_
    refine Cov.region_end ?_
    cases r77
    refine Cov.retS (c := ⟨38, none⟩) (.inr ⟨_, rfl⟩) [.tmp 4] [_] rfl Try.func38 Try.results38 ⟨RV.tmp rfl, trivial⟩ (fun _ h => List.mem_cons_of_mem _ h) ⟨cs38, rfl, rfl, rfl, o39, hl41⟩

set_option maxHeartbeats 4000000 in
set_option maxRecDepth 100000 in
theorem cuckoo_Failures_f1_R_c (n : Nat) : ∀ {Fs : List Hp} {G : Hp} {a0 : Option Addr} {k0 : Nat} {x0 : List Int} {cc0 : List Value} {x1 : Int} {p2 : Value} {x2 : Int} {p3 : Nat} {x3 : Int} {p4 : Value} {x4_0 : Int} {a4_1 : Option Addr} {k4_1 : Nat} {x4_1 : List (Int × Int)} {p5 : Nat} {x5 : Int} {p6 : Value} {x6 : Int} {p7 : Value} {r : (Int × Int)} (hG : G ∈ Fs) (oo0 : OL (Rep.int .i64) G cc0 x0) (hp2 : Rp G p2 [.int .i64 x2]) (hp4 : Rp G p4 [.int .i64 x4_0, .slice a4_1 x4_1.length k4_1]) (s4_1 : SlR (Rep.pair (Rep.int .i64) (Rep.int .i64)) G a4_1 k4_1 x4_1) (hp6 : Rp G p6 [.int .i64 x6]) (hp7 : Rp G p7 [.func (.func 36) #[] #[p2, .pointer (some ⟨p3, 0, none⟩), p4, .pointer (some ⟨p5, 0, none⟩), p6, p7]]) (h : cuckoo_Failures_f1_R n x0 x1 x2 x3 (x4_0, x4_1) x5 x6 = some r), RetS Try.prog 36 #[.slice a0 x0.length k0, .int .i64 x1, p2, .pointer (some ⟨p3, 0, none⟩), p4, .pointer (some ⟨p5, 0, none⟩), p6, p7] Fs [(p3, .cells #[.int .i64 x3] 3 (0, 0)), (p5, .cells #[.int .i64 x5] 3 (0, 0))] [.s (.slice a0 x0.length k0) 3 1 x0.length cc0] (fun v bo so => v = .tuple #[] ∧ bo = [(p3, .cells #[.int .i64 r.1] 3 (0, 0)), (p5, .cells #[.int .i64 r.2] 3 (0, 0))] ∧ so = [.s (.slice a0 x0.length k0) 3 1 x0.length cc0]) := by
  induction n with
  | zero => intro Fs G a0 k0 x0 cc0 x1 p2 x2 p3 x3 p4 x4_0 a4_1 k4_1 x4_1 p5 x5 p6 x6 p7 r hG oo0 hp2 hp4 s4_1 hp6 hp7 h; exact absurd h (by unfold cuckoo_Failures_f1_R; simp)
  | succ n ih =>
    intro Fs G a0 k0 x0 cc0 x1 p2 x2 p3 x3 p4 x4_0 a4_1 k4_1 x4_1 p5 x5 p6 x6 p7 r hG oo0 hp2 hp4 s4_1 hp6 hp7 h
    unfold cuckoo_Failures_f1_R at h
    unfold cuckoo_Failures_f1_B2 at h
    try dsimp only at h
    refine RetS.of (vs := [_, _, _, _, _, _, _, _]) Try.func36 rfl Try.ntmps36 [(0, _), (1, _), (2, _), (3, _), (4, _), (5, _), (6, _), (7, _)] ⟨rfl, rfl, rfl, rfl, rfl, rfl, rfl, rfl, trivial⟩ rfl hG fun w0 S0 hS0 B0 => ?_
    refine Cov.seq ?_
    refine Cov.seq ?_
    refine Cov.region rfl ?_
    refine Cov.q .ro (.move rfl) rfl ?_
    refine Cov.q .ro (.len_sl rfl rfl sl22) rfl ?_
    refine Cov.q .ro (.load_rp hp2 List.mem_cons_self rfl ty3 rfl) rfl ?_
    refine Cov.q .ro (.eql rfl rfl) rfl ?_
    refine Cov.region_end ?_
    refine Cov.cond_dec rfl (fun c2 => ?_) (fun c2 => ?_)
    · have r3 := ifT h c2; clear h
      refine Cov.seq ?_
      refine Cov.region rfl ?_
      refine Cov.q .ro (.load_own 0 rfl rfl ty3 rfl) rfl ?_
      refine Cov.q .ro (.addw rfl rfl) rfl ?_
      refine Cov.store 0 [_] [_, _] .ro rfl rfl rfl ty3 rfl rfl rfl rfl ?_
      refine Cov.region_end ?_
      refine Cov.seq ?_
      refine Cov.seq ?_
      refine Cov.region rfl ?_
      refine Cov.q .ro (.load_rp hp2 List.mem_cons_self rfl ty3 rfl) rfl ?_
      refine Cov.q .ro (.fieldAddr_rp hp4 rfl fl25_0 ty3.sz) rfl ?_
      refine Cov.q .ro (.load_rp (hp4.add _) List.mem_cons_self rfl ty3 rfl) rfl ?_
      refine Cov.q .ro (.gtr rfl rfl) rfl ?_
      refine Cov.q .ro (.move rfl) rfl ?_
      obtain ⟨u53, h54, r55⟩ := bind_some r3; clear r3
      refine Cov.cutR 6 (β := Unit) (fun y => [(27, .bool u53)]) [(2, _), (3, _), (4, _), (5, _), (6, _), (7, _)] (fun y => G :: Fs) (fun y => []) [_, _] (fun y => []) [_] (fun y => True) ⟨rfl, rfl, rfl, rfl, rfl, rfl, trivial⟩ [0, 1] rfl [0] rfl ?_ ?_
      · rintro _ _
        refine Cov.prune [(27, .bool u53), (2, _), (3, _), (4, _), (5, _), (6, _), (7, _)] ⟨rfl, rfl, rfl, rfl, rfl, rfl, rfl, trivial⟩ ?_
        refine Cov.same (bl' := [_, _]) (sl' := [_]) (Fs' := G :: Fs) rfl rfl rfl ?_
        refine Cov.region_end ?_
        refine Cov.cond rfl (fun c58 => ?_) (fun c58 => ?_)
        · have r59 := ifT r55 c58; clear r55
          refine Cov.region rfl ?_
          refine Cov.q .ro (.load_own 1 rfl rfl ty3 rfl) rfl ?_
          refine Cov.q .ro (.addw rfl rfl) rfl ?_
          refine Cov.store 1 [_] [_, _] .ro rfl rfl rfl ty3 rfl rfl rfl rfl ?_
          refine Cov.region_end ?_
          cases r59
          refine Cov.retS (c := ⟨36, none⟩) (.inr ⟨_, rfl⟩) [] [] rfl Try.func36 Try.results36 trivial (fun _ h => List.mem_cons_of_mem _ h) ⟨rfl, rfl, rfl⟩
        · have r60 := ifBF r55 c58; clear r55
          refine Cov.skip ?_
          cases r60
          refine Cov.retS (c := ⟨36, none⟩) (.inr ⟨_, rfl⟩) [] [] rfl Try.func36 Try.results36 trivial (fun _ h => List.mem_cons_of_mem _ h) ⟨rfl, rfl, rfl⟩
      · intro hb52
        refine Cov.split 21 rfl (fun c51 => ?_) (fun c51 => ?_)
        · have r61 := ifT h54 c51
          refine Cov.g_off rfl rfl rfl ?_
          refine Cov.g_off rfl rfl rfl ?_
          refine Cov.g_off rfl rfl rfl ?_
          refine Cov.g_off rfl rfl rfl ?_
          refine Cov.g_off rfl rfl rfl ?_
          refine Cov.q .ro (.pick_t rfl rfl) rfl ?_
          refine Cov.prune _ ?_ (Cov.same rfl rfl rfl (hb52 () trivial))
          exact ⟨sval r61, rfl, rfl, rfl, rfl, rfl, rfl, trivial⟩
        · have r62 := ifF h54 c51
          refine Cov.g_on rfl ?_
          refine Cov.q .ro (.load_rp_a [_, _] hp4 List.mem_cons_self rfl ty25 rfl) rfl ?_
          refine Cov.g_on rfl ?_
          refine Cov.q .ro (.move rfl) rfl ?_
          refine Cov.g_on rfl ?_
          refine Cov.openB (sB := [_]) (s2 := []) rfl B0 (fun G63 e64 B65 hr66 hc67 => ?_)
          have s69 := SlR.rd oo0 rfl e64 (hr66 _ (List.mem_of_getElem? (i := 0) rfl))
          obtain ⟨u70, hu70, r71⟩ := bind_some r62; clear r62
          refine Cov.callW (b1 := []) (b2 := [_, _]) (s1 := []) [_, _] [] .ro rfl rfl Try.call37 rfl rfl (cuckoo_start_c (G := G63) List.mem_cons_self (SlR.mono e64 s4_1) s69 hu70) rfl B65 (fun v73 bo so G74 e75 B76 h72 => ?_)
          obtain ⟨a79, k80, a83, k84, cs85, a88, k89, cs90, b78, rfl, rfl, rfl, s81, o86, o91⟩ := h72
          refine Cov.same (bl' := [_, _, _]) (sl' := [_, _]) rfl rfl rfl ?_
          refine Cov.g_on rfl ?_
          refine Cov.toV 0 rfl (fun vb92 po93 va94 vb95 => ?_)
          refine Cov.toV 1 rfl (fun vb96 po97 va98 vb99 => ?_)
          obtain ⟨u100, hu100, r101⟩ := bind_some r71; clear r71
          refine Cov.pullS 1 rfl [_, _] rfl ?_
          refine Cov.pullS 1 rfl [_, _] rfl ?_
          refine Cov.callS (b1 := [_]) (b2 := [_, _]) (s1 := [_, _]) [_, _] [] .ro rfl rfl Try.call38 rfl rfl (cuckoo_placing_all_c (G := G74) List.mem_cons_self s81 va94 o86 va98 o91 hu100) rfl (fun v103 bo so h102 => ?_)
          obtain ⟨cs104, rfl, rfl, rfl, o105, hl106⟩ := h102
          refine Cov.same (bl' := [_, _, _]) (sl' := [_, _]) rfl rfl rfl ?_
          refine Cov.ofV 0 rfl vb95 hl106 o105 rfl ?_
          refine Cov.ofV 1 rfl vb99 rfl o91 rfl ?_
          refine Cov.recell 0 [_, .slice a83 u100.2.length k84, _] rfl (by rw [hl106]) [_, _, _] rfl ?_
          refine Cov.g_on rfl ?_
          refine Cov.q .ro (.not rfl) rfl ?_
          refine Cov.q .ro (.pick_f rfl rfl) rfl ?_
          have o108 := OL.flat (G := G) Rep.flat_bool o91
          have o109 := OL.flat (G := G) (Rep.flat_int _) o105
          refine hc67 _ _ _ _ _ _ e75 ?_
          refine Cov.drop 1 0 [_, _] _ rfl rfl ?_
          refine Cov.pullS 2 rfl [_, _, _] rfl ?_
          refine Cov.pullS 2 rfl [_, _, _] rfl ?_
          refine Cov.drop 0 2 _ [_] rfl rfl ?_
          refine Cov.prune _ ?_ (Cov.same rfl rfl rfl (hb52 () trivial))
          exact ⟨sval r101, rfl, rfl, rfl, rfl, rfl, rfl, trivial⟩
    · have r110 := ifF h c2; clear h
      refine Cov.skip ?_
      refine Cov.seq ?_
      refine Cov.region rfl ?_
      refine Cov.q .ro (.move rfl) rfl ?_
      refine Cov.q .ro (.assign rfl) rfl ?_
      refine Cov.region_end ?_
      refine Cov.block ?_
      refine Cov.pull 1 rfl [_, _] rfl ?_
      refine Cov.pull 1 rfl [_, _] rfl ?_
      refine Cov.loop2 (α := Nat × Hp × Int × Int × Int) (fun y => [(10, .int .i64 y.2.2.1)]) [(0, _), (2, _), (3, _), (4, _), (5, _), (6, _), (7, _)] (fun y => [y.2.1]) (fun y => [(p3, .cells #[.int .i64 y.2.2.2.1] 3 (0, 0)), (p5, .cells #[.int .i64 y.2.2.2.2] 3 (0, 0))]) [] (fun y => []) [_] (fun y => HpLe G y.2.1 ∧ Bd w0 S0 Fs y.2.1 ∧ cuckoo_Failures_f1_L1 (cuckoo_Failures_f1_R n) x2 x4_0 x4_1 x6 x0 y.1 y.2.2.1 y.2.2.2.1 y.2.2.2.2 = some r) (fun y => y.1) (big, G, x1, x3, x5) ⟨(HpLe.refl _), B0, r110⟩ ⟨rfl, rfl, rfl, rfl, rfl, rfl, rfl, rfl, trivial⟩ rfl rfl rfl (fun y hI hb149 => ?_)
      obtain ⟨n139, G141, v145, v146, v147⟩ := y
      obtain ⟨e142, B143, r148⟩ := hI
      try dsimp only at e142 B143 r148
      refine Cov.prune [(10, .int .i64 v145), (0, _), (2, _), (3, _), (4, _), (5, _), (6, _), (7, _)] ⟨rfl, rfl, rfl, rfl, rfl, rfl, rfl, rfl, trivial⟩ ?_
      refine Cov.same (bl' := [(p3, .cells #[.int .i64 v146] 3 (0, 0)), (p5, .cells #[.int .i64 v147] 3 (0, 0))]) (sl' := [_]) (Fs' := G141 :: Fs) rfl rfl rfl ?_
      obtain ⟨m156, rfl⟩ : ∃ m, n139 = m + 1 := by cases n139 with | zero => exact absurd (show (none : Option _) = some _ from r148) (by simp) | succ m => exact ⟨m, rfl⟩
      have r155 : cuckoo_Failures_f1_B1 (cuckoo_Failures_f1_R n) x2 x4_0 x4_1 x6 x0 (cuckoo_Failures_f1_L1 (cuckoo_Failures_f1_R n) x2 x4_0 x4_1 x6 x0 m156) v145 v146 v147 = some r := r148; clear r148; unfold cuckoo_Failures_f1_B1 at r155; try dsimp only at r155
      refine Cov.seq ?_
      refine Cov.seq ?_
      refine Cov.region rfl ?_
      refine Cov.q .ro (.move rfl) rfl ?_
      refine Cov.q .ro (.load_rp (Rp.mono e142 hp6) List.mem_cons_self rfl ty3 rfl) rfl ?_
      refine Cov.q .ro (.load_rp (Rp.mono e142 hp2) List.mem_cons_self rfl ty3 rfl) rfl ?_
      refine Cov.q .ro (.move rfl) rfl ?_
      refine Cov.q .ro (.len_sl rfl rfl sl22) rfl ?_
      refine Cov.q .ro (.subw rfl rfl) rfl ?_
      refine Cov.q .ro (.subw rfl rfl) rfl ?_
      refine Cov.q .ro (.leq rfl rfl) rfl ?_
      refine Cov.region_end ?_
      refine Cov.cond_dec rfl (fun c157 => ?_) (fun c157 => ?_)
      · have r158 := ifT r155 c157; clear r155
        refine Cov.skip ?_
        refine Cov.seq ?_
        refine Cov.block ?_
        refine Cov.drawL (.q 0 (.q 1 (.q 2 (.q 5 (.q 6 (.e 3 1 (.e 4 1 (.e 7 2 .nil)))))))) [_, _] (by kernel_rfl) (by kernel_rfl) (pick_mem [0, 1] rfl) ?_
        refine Cov.dq (.load_rp (Rp.mono e142 hp7) List.mem_cons_self rfl ty65 rfl) rfl ?_
        refine Cov.dq (.move rfl) rfl ?_
        refine Cov.dq (.move rfl) rfl ?_
        refine Cov.dq (.move rfl) rfl ?_
        refine Cov.dq (.addw rfl rfl) rfl ?_
        refine Cov.lit [_] [(0, _)] .d1 sl22 ty3 rfl rfl rfl rfl rfl rfl (fun b159 hb159 => ?_)
        have o160 : OL (Rep.int .i64) G141 [.int .i64 v145] ([v145] : List Int) := ((OL.cons rfl (Rep.intI .i64 v145) (OL.nil (Rp' := (Rep.int .i64)))) :)
        refine Cov.reval 44 (n' := ([v145] : List Int).length) rfl rfl ?_
        refine Cov.clsL (HpLe.refl _) (pick_mem [0, 1] rfl) ?_
        refine Cov.freezeR 0 rfl rfl o160 [_] rfl B143 (fun G162 e163 B164 s165 => ?_)
        obtain ⟨u167, hu167, r168⟩ := bind_some r158; clear r158
        refine Cov.appA (Q := (Rep.int .i64)) .d1 sl22 ty3 rfl rfl rfl rfl rfl (OL.mono (HpLe.trans e142 e163) oo0) rfl rfl s165 rfl List.mem_cons_self hu167 rfl (fun a169 k170 cs171 o172 hw173 => ?_)
        refine Cov.clsL e163 (pick_mem [0, 1] rfl) ?_
        obtain ⟨u176, hu176, r177⟩ := bind_some r168; clear r168
        refine Cov.pull 1 rfl [_, _] rfl ?_
        refine Cov.pull 1 rfl [_, _] rfl ?_
        refine Cov.callS (b1 := [_, _]) (b2 := []) (s1 := [_]) [_, _] [_, _, _, _, _, _] .d2 rfl rfl Try.call36 rfl rfl (ih (G := G162) List.mem_cons_self o172 (Rp.mono (HpLe.trans e142 e163) hp2) (Rp.mono (HpLe.trans e142 e163) hp4) (SlR.mono (HpLe.trans e142 e163) s4_1) (Rp.mono (HpLe.trans e142 e163) hp6) (Rp.mono (HpLe.trans e142 e163) hp7) hu176) rfl (fun v179 bo so h178 => ?_)
        obtain ⟨rfl, rfl, rfl⟩ := h178
        refine Cov.same (bl' := [_, _]) (sl' := [_, _]) rfl rfl rfl ?_
        refine Cov.pullS 1 rfl [_, _] rfl ?_
        refine Cov.pullS 1 rfl [_, _] rfl ?_
        refine hw173 _ _ _ _ _ ?_
        refine Cov.draw_end ?_
        refine Cov.prune [(10, _), (0, _), (2, _), (3, _), (4, _), (5, _), (6, _), (7, _)] ⟨rfl, rfl, rfl, rfl, rfl, rfl, rfl, rfl, trivial⟩ ?_
        refine Cov.inBlock ?_
        refine Cov.region rfl ?_
        refine Cov.q .ro (.move rfl) rfl ?_
        refine Cov.q .ro (.addw rfl rfl) rfl ?_
        refine Cov.q .ro (.assign rfl) rfl ?_
        refine Cov.region_end ?_
        refine Cov.prune _ ?_ (Cov.same rfl rfl rfl (hb149 (m156, G162, (w64 (v145 + 1)), u176.1, u176.2) ⟨(HpLe.trans e142 e163), B164, r177⟩ (Nat.lt_succ_self _)))
        exact ⟨rfl, rfl, rfl, rfl, rfl, rfl, rfl, rfl, trivial⟩
      · have r180 := ifF r155 c157; clear r155
        refine Cov.exit rfl ?_
        cases r180
        refine Cov.retS (c := ⟨36, none⟩) (.inl rfl) [] [] rfl Try.func36 Try.results36 trivial (fun _ h => List.mem_cons_of_mem _ h) ⟨rfl, rfl, rfl⟩
theorem cuckoo_Failures_f1_c {Fs : List Hp} {G : Hp} {a0 : Option Addr} {k0 : Nat} {x0 : List Int} {cc0 : List Value} {x1 : Int} {p2 : Value} {x2 : Int} {p3 : Nat} {x3 : Int} {p4 : Value} {x4_0 : Int} {a4_1 : Option Addr} {k4_1 : Nat} {x4_1 : List (Int × Int)} {p5 : Nat} {x5 : Int} {p6 : Value} {x6 : Int} {p7 : Value} {r : (Int × Int)} (hG : G ∈ Fs) (oo0 : OL (Rep.int .i64) G cc0 x0) (hp2 : Rp G p2 [.int .i64 x2]) (hp4 : Rp G p4 [.int .i64 x4_0, .slice a4_1 x4_1.length k4_1]) (s4_1 : SlR (Rep.pair (Rep.int .i64) (Rep.int .i64)) G a4_1 k4_1 x4_1) (hp6 : Rp G p6 [.int .i64 x6]) (hp7 : Rp G p7 [.func (.func 36) #[] #[p2, .pointer (some ⟨p3, 0, none⟩), p4, .pointer (some ⟨p5, 0, none⟩), p6, p7]]) (h : cuckoo_Failures_f1 x0 x1 x2 x3 (x4_0, x4_1) x5 x6 = some r) : RetS Try.prog 36 #[.slice a0 x0.length k0, .int .i64 x1, p2, .pointer (some ⟨p3, 0, none⟩), p4, .pointer (some ⟨p5, 0, none⟩), p6, p7] Fs [(p3, .cells #[.int .i64 x3] 3 (0, 0)), (p5, .cells #[.int .i64 x5] 3 (0, 0))] [.s (.slice a0 x0.length k0) 3 1 x0.length cc0] (fun v bo so => v = .tuple #[] ∧ bo = [(p3, .cells #[.int .i64 r.1] 3 (0, 0)), (p5, .cells #[.int .i64 r.2] 3 (0, 0))] ∧ so = [.s (.slice a0 x0.length k0) 3 1 x0.length cc0]) := by
  unfold cuckoo_Failures_f1 at h
  exact cuckoo_Failures_f1_R_c big hG oo0 hp2 hp4 s4_1 hp6 hp7 h

set_option maxHeartbeats 4000000 in
set_option maxRecDepth 100000 in
theorem cuckoo_Failures_c {Fs : List Hp} {G : Hp} {x0_0 : Int} {a0_1 : Option Addr} {k0_1 : Nat} {x0_1 : List (Int × Int)} {x1 : Int} {x2 : Int} {r : (Int × Int × Int)} (hG : G ∈ Fs) (s0_1 : SlR (Rep.pair (Rep.int .i64) (Rep.int .i64)) G a0_1 k0_1 x0_1) (h : cuckoo_Failures (x0_0, x0_1) x1 x2 = some r) : RetS Try.prog 14 #[.agg #[.int .i64 x0_0, .slice a0_1 x0_1.length k0_1], .int .i64 x1, .int .i64 x2] Fs [] [] (fun v bo so => v = .tuple #[.int .i64 r.1, .int .i64 r.2.1, .int .i64 r.2.2] ∧ bo = [] ∧ so = []) := by
  unfold cuckoo_Failures at h
  try dsimp only at h
  refine RetS.of (vs := [_, _, _]) Try.func14 rfl Try.ntmps14 [(0, _), (1, _), (2, _)] ⟨rfl, rfl, rfl, trivial⟩ rfl hG fun w0 S0 hS0 B0 => ?_
  refine Cov.seq ?_
  refine Cov.region rfl ?_
  refine Cov.box [_, _] .ro rfl rfl rfl (fun b1 hb1 => ?_)
  refine Cov.box [_] .ro rfl rfl rfl (fun b2 hb2 => ?_)
  refine Cov.box [_] .ro rfl rfl rfl (fun b3 hb3 => ?_)
  refine Cov.q .ro (.assign rfl) rfl ?_
  refine Cov.q .ro (.assign rfl) rfl ?_
  refine Cov.q .ro (.assign rfl) rfl ?_
  refine Cov.region_end ?_
  refine Cov.seq ?_
  refine Cov.seq ?_
  refine Cov.region rfl ?_
  refine Cov.q .ro (.load_own_a 2 [_, _] rfl rfl ty25 rfl) rfl ?_
  obtain ⟨u4, hu4, r5⟩ := bind_some h; clear h
  refine Cov.callS (b1 := []) (b2 := [_, _, _]) (s1 := []) [_] [] .ro rfl rfl Try.call22 rfl rfl (cuckoo_Check_c (G := G) List.mem_cons_self s0_1 hu4) rfl (fun v7 bo so h6 => ?_)
  obtain ⟨rfl, rfl, rfl⟩ := h6
  refine Cov.same (bl' := [_, _, _]) (sl' := []) rfl rfl rfl ?_
  refine Cov.q .ro (.assign rfl) rfl ?_
  refine Cov.region_end ?_
  refine Cov.seq ?_
  refine Cov.region rfl ?_
  refine Cov.q .ro (.move rfl) rfl ?_
  refine Cov.q .ro (.neq rfl rfl) rfl ?_
  refine Cov.region_end ?_
  refine Cov.cond_dec rfl (fun c8 => ?_) (fun c8 => ?_)
  · have r9 := ifT r5 c8; clear r5
    refine Cov.seq ?_
    refine Cov.region rfl ?_
    refine Cov.q .ro (.move rfl) rfl ?_
    refine Cov.q .ro (.assign rfl) rfl ?_
    refine Cov.q .ro (.assign rfl) rfl ?_
    refine Cov.q .ro (.assign rfl) rfl ?_
    refine Cov.region_end ?_
    cases r9
    refine Cov.drop 3 0 [] _ rfl rfl ?_
    refine Cov.retS (c := ⟨14, none⟩) (.inr ⟨_, rfl⟩) [.tmp 6, .tmp 7, .tmp 8] [_, _, _] rfl Try.func14 Try.results14 ⟨RV.tmp rfl, RV.tmp rfl, RV.tmp rfl, trivial⟩ (fun _ h => List.mem_cons_of_mem _ h) ⟨rfl, rfl, rfl⟩
  · have r10 := ifF r5 c8; clear r5
    refine Cov.skip ?_
    refine Cov.seq ?_
    refine Cov.seq ?_
    refine Cov.region rfl ?_
    refine Cov.q .ro (.load_own 1 rfl rfl ty3 rfl) rfl ?_
    refine Cov.q .ro (.lss rfl rfl) rfl ?_
    refine Cov.q .ro (.move rfl) rfl ?_
    refine Cov.cutR 3 (β := Unit) (fun y => [(23, .bool (decide ((x1 < 0) ∨ (1024 < x1))))]) [(3, _), (4, _), (5, _)] (fun y => G :: Fs) (fun y => []) [_, _, _] (fun y => []) [] (fun y => True) ⟨rfl, rfl, rfl, trivial⟩ [0, 1, 2] rfl [] rfl ?_ ?_
    · rintro _ _
      refine Cov.prune [(23, .bool (decide ((x1 < 0) ∨ (1024 < x1)))), (3, _), (4, _), (5, _)] ⟨rfl, rfl, rfl, rfl, trivial⟩ ?_
      refine Cov.same (bl' := [_, _, _]) (sl' := []) (Fs' := G :: Fs) rfl rfl rfl ?_
      refine Cov.q .ro (.move rfl) rfl ?_
      refine Cov.cutR 3 (β := Unit) (fun y => [(27, .bool (decide (((x1 < 0) ∨ (1024 < x1)) ∨ (x2 < 0))))]) [(3, _), (4, _), (5, _)] (fun y => G :: Fs) (fun y => []) [_, _, _] (fun y => []) [] (fun y => True) ⟨rfl, rfl, rfl, trivial⟩ [0, 1, 2] rfl [] rfl ?_ ?_
      · rintro _ _
        refine Cov.prune [(27, .bool (decide (((x1 < 0) ∨ (1024 < x1)) ∨ (x2 < 0)))), (3, _), (4, _), (5, _)] ⟨rfl, rfl, rfl, rfl, trivial⟩ ?_
        refine Cov.same (bl' := [_, _, _]) (sl' := []) (Fs' := G :: Fs) rfl rfl rfl ?_
        refine Cov.q .ro (.move rfl) rfl ?_
        refine Cov.cutR 4 (β := Unit) (fun y => [(32, .bool (decide ((((x1 < 0) ∨ (1024 < x1)) ∨ (x2 < 0)) ∨ (x1 < x2))))]) [(3, _), (4, _), (5, _)] (fun y => G :: Fs) (fun y => []) [_, _, _] (fun y => []) [] (fun y => True) ⟨rfl, rfl, rfl, trivial⟩ [0, 1, 2] rfl [] rfl ?_ ?_
        · rintro _ _
          refine Cov.prune [(32, .bool (decide ((((x1 < 0) ∨ (1024 < x1)) ∨ (x2 < 0)) ∨ (x1 < x2)))), (3, _), (4, _), (5, _)] ⟨rfl, rfl, rfl, rfl, trivial⟩ ?_
          refine Cov.same (bl' := [_, _, _]) (sl' := []) (Fs' := G :: Fs) rfl rfl rfl ?_
          refine Cov.region_end ?_
          refine Cov.cond_dec rfl (fun c23 => ?_) (fun c23 => ?_)
          · have r24 := ifT r10 c23; clear r10
            refine Cov.seq ?_
            refine Cov.region rfl ?_
            refine Cov.q .ro (.assign rfl) rfl ?_
            refine Cov.q .ro (.assign rfl) rfl ?_
            refine Cov.q .ro (.assign rfl) rfl ?_
            refine Cov.region_end ?_
            cases r24
            refine Cov.drop 3 0 [] _ rfl rfl ?_
            refine Cov.retS (c := ⟨14, none⟩) (.inr ⟨_, rfl⟩) [.tmp 6, .tmp 7, .tmp 8] [_, _, _] rfl Try.func14 Try.results14 ⟨RV.tmp rfl, RV.tmp rfl, RV.tmp rfl, trivial⟩ (fun _ h => List.mem_cons_of_mem _ h) ⟨rfl, rfl, rfl⟩
          · have r25 := ifF r10 c23; clear r10
            refine Cov.skip ?_
            refine Cov.seq ?_
            refine Cov.seq ?_
            refine Cov.region rfl ?_
            refine Cov.q .ro (.load_own 1 rfl rfl ty3 rfl) rfl ?_
            refine Cov.q .ro (.load_own 0 rfl rfl ty3 rfl) rfl ?_
            obtain ⟨u26, hu26, r27⟩ := bind_some r25; clear r25
            refine Cov.callS (b1 := []) (b2 := [_, _, _]) (s1 := []) [_, _] [] .ro rfl rfl Try.call35 rfl rfl (cuckoo_sets_c (G := G) List.mem_cons_self  hu26) rfl (fun v29 bo so h28 => ?_)
            obtain ⟨rfl, rfl, rfl⟩ := h28
            refine Cov.same (bl' := [_, _, _]) (sl' := []) rfl rfl rfl ?_
            refine Cov.q .ro (.gtr rfl rfl) rfl ?_
            refine Cov.region_end ?_
            refine Cov.cond_dec rfl (fun c30 => ?_) (fun c30 => ?_)
            · have r31 := ifT r27 c30; clear r27
              refine Cov.seq ?_
              refine Cov.region rfl ?_
              refine Cov.q .ro (.assign rfl) rfl ?_
              refine Cov.q .ro (.assign rfl) rfl ?_
              refine Cov.q .ro (.assign rfl) rfl ?_
              refine Cov.region_end ?_
              cases r31
              refine Cov.drop 3 0 [] _ rfl rfl ?_
              refine Cov.retS (c := ⟨14, none⟩) (.inr ⟨_, rfl⟩) [.tmp 6, .tmp 7, .tmp 8] [_, _, _] rfl Try.func14 Try.results14 ⟨RV.tmp rfl, RV.tmp rfl, RV.tmp rfl, trivial⟩ (fun _ h => List.mem_cons_of_mem _ h) ⟨rfl, rfl, rfl⟩
            · have r32 := ifF r27 c30; clear r27
              refine Cov.skip ?_
              refine Cov.seq ?_
              refine Cov.region rfl ?_
              refine Cov.alloc .ro ty3 rfl (fun b33 hb33 => ?_)
              refine Cov.alloc .ro ty3 rfl (fun b34 hb34 => ?_)
              refine Cov.store 1 [_] [_, _, _, _, _] .ro rfl rfl rfl ty3 rfl rfl rfl rfl ?_
              refine Cov.store 0 [_] [_, _, _, _, _] .ro rfl rfl rfl ty3 rfl rfl rfl rfl ?_
              refine Cov.region_end ?_
              refine Cov.seq ?_
              refine Cov.region rfl ?_
              refine Cov.alloc .ro ty65 rfl (fun b35 hb35 => ?_)
              refine Cov.region_end ?_
              refine Cov.seq ?_
              refine Cov.region rfl ?_
              refine Cov.q .ro (.makeFunc (vf := []) (vc := [_, _, _, _, _, _]) rfl rfl) rfl ?_
              refine Cov.store 0 [_] [_, _, _, _, _, _] .ro rfl rfl rfl ty65 rfl rfl rfl rfl ?_
              refine Cov.region_end ?_
              refine Cov.seq ?_
              refine Cov.region rfl ?_
              refine Cov.q .ro (.load_own 0 rfl rfl ty65 rfl) rfl ?_
              refine Cov.own_nil 3 1 ?_
              refine Cov.freezeBR 3 rfl [_, _, _, _, _] rfl B0 (fun G37 e38 B39 p40 => ?_)
              refine Cov.freezeBR 4 rfl [_, _, _, _] rfl B39 (fun G42 e43 B44 p45 => ?_)
              refine Cov.freezeBR 3 rfl [_, _, _] rfl B44 (fun G47 e48 B49 p50 => ?_)
              refine Cov.freezeBR 0 rfl [_, _] rfl B49 (fun G52 e53 B54 p55 => ?_)
              obtain ⟨u57, hu57, r58⟩ := bind_some r32; clear r32
              refine Cov.pull 1 rfl [_, _] rfl ?_
              refine Cov.pull 1 rfl [_, _] rfl ?_
              refine Cov.callS (b1 := [_, _]) (b2 := []) (s1 := [_]) [_, _] [_, _, _, _, _, _] .ro rfl rfl Try.call36 rfl rfl (cuckoo_Failures_f1_c (G := G52) List.mem_cons_self (OL.mono (HpLe.trans (HpLe.trans (HpLe.trans e38 e43) e48) e53) (OL.nil (Rp' := (Rep.int .i64)))) (Rp.mono (HpLe.trans (HpLe.trans e43 e48) e53) p40) (Rp.mono (HpLe.trans e48 e53) p45) (SlR.mono (HpLe.trans (HpLe.trans (HpLe.trans e38 e43) e48) e53) s0_1) (Rp.mono e53 p50) p55 hu57) rfl (fun v60 bo so h59 => ?_)
              obtain ⟨rfl, rfl, rfl⟩ := h59
              refine Cov.same (bl' := [_, _]) (sl' := [_]) rfl rfl rfl ?_
              refine Cov.region_end ?_
              refine Cov.seq ?_
              refine Cov.drawL (.q 0 (.q 1 (.q 2 (.q 3 (.q 4 .nil))))) [_, _] (by kernel_rfl) (by kernel_rfl) (pick_mem [0, 1] rfl) ?_
              refine Cov.dq (.load_own 1 rfl rfl ty3 rfl) rfl ?_
              refine Cov.dq (.load_own 0 rfl rfl ty3 rfl) rfl ?_
              refine Cov.dq (.assign rfl) rfl ?_
              refine Cov.dq (.assign rfl) rfl ?_
              refine Cov.dq (.assign rfl) rfl ?_
              refine Cov.draw_end ?_
              refine Cov.prune [(6, _), (7, _), (8, _)] ⟨rfl, rfl, rfl, trivial⟩ ?_
              cases r58
              refine Cov.drop 2 0 [] _ rfl rfl ?_
              refine Cov.drop 0 1 _ [] rfl rfl ?_
              refine Cov.retS (c := ⟨14, none⟩) (.inr ⟨_, rfl⟩) [.tmp 6, .tmp 7, .tmp 8] [_, _, _] rfl Try.func14 Try.results14 ⟨RV.tmp rfl, RV.tmp rfl, RV.tmp rfl, trivial⟩ (fun _ h => List.mem_cons_of_mem _ h) ⟨rfl, rfl, rfl⟩
        · intro hb20
          refine Cov.split 28 rfl (fun c19 => ?_) (fun c19 => ?_)
          · refine Cov.g_off rfl rfl rfl ?_
            refine Cov.g_off rfl rfl rfl ?_
            refine Cov.g_off rfl rfl rfl ?_
            refine Cov.q .ro (.pick_t rfl rfl) rfl ?_
            refine Cov.prune _ ?_ (Cov.same rfl rfl rfl (hb20 () trivial))
            exact ⟨dor_t c19, rfl, rfl, rfl, trivial⟩
          · refine Cov.g_on rfl ?_
            refine Cov.q .ro (.load_own 0 rfl rfl ty3 rfl) rfl ?_
            refine Cov.g_on rfl ?_
            refine Cov.q .ro (.load_own 1 rfl rfl ty3 rfl) rfl ?_
            refine Cov.g_on rfl ?_
            refine Cov.q .ro (.gtr rfl rfl) rfl ?_
            refine Cov.q .ro (.pick_f rfl rfl) rfl ?_
            refine Cov.prune _ ?_ (Cov.same rfl rfl rfl (hb20 () trivial))
            exact ⟨dor_f c19, rfl, rfl, rfl, trivial⟩
      · intro hb16
        refine Cov.split 24 rfl (fun c15 => ?_) (fun c15 => ?_)
        · refine Cov.g_off rfl rfl rfl ?_
          refine Cov.g_off rfl rfl rfl ?_
          refine Cov.q .ro (.pick_t rfl rfl) rfl ?_
          refine Cov.prune _ ?_ (Cov.same rfl rfl rfl (hb16 () trivial))
          exact ⟨dor_t c15, rfl, rfl, rfl, trivial⟩
        · refine Cov.g_on rfl ?_
          refine Cov.q .ro (.load_own 0 rfl rfl ty3 rfl) rfl ?_
          refine Cov.g_on rfl ?_
          refine Cov.q .ro (.lss rfl rfl) rfl ?_
          refine Cov.q .ro (.pick_f rfl rfl) rfl ?_
          refine Cov.prune _ ?_ (Cov.same rfl rfl rfl (hb16 () trivial))
          exact ⟨dor_f c15, rfl, rfl, rfl, trivial⟩
    · intro hb12
      refine Cov.split 20 rfl (fun c11 => ?_) (fun c11 => ?_)
      · refine Cov.g_off rfl rfl rfl ?_
        refine Cov.g_off rfl rfl rfl ?_
        refine Cov.q .ro (.pick_t rfl rfl) rfl ?_
        refine Cov.prune _ ?_ (Cov.same rfl rfl rfl (hb12 () trivial))
        exact ⟨dor_t c11, rfl, rfl, rfl, trivial⟩
      · refine Cov.g_on rfl ?_
        refine Cov.q .ro (.load_own 1 rfl rfl ty3 rfl) rfl ?_
        refine Cov.g_on rfl ?_
        refine Cov.q .ro (.gtr rfl rfl) rfl ?_
        refine Cov.q .ro (.pick_f rfl rfl) rfl ?_
        refine Cov.prune _ ?_ (Cov.same rfl rfl rfl (hb12 () trivial))
        exact ⟨dor_f c11, rfl, rfl, rfl, trivial⟩

set_option maxHeartbeats 4000000 in
set_option maxRecDepth 100000 in
theorem slices_IndexFunc_Lintint_c {Fs : List Hp} {G : Hp} {a0 : Option Addr} {k0 : Nat} {x0 : List Int} {F1 : FuncId} {c1 : List Value} {x1 : Int → Option Bool} {r : Int} (hG : G ∈ Fs) (s0 : SlR (Rep.int .i64) G a0 k0 x0) (hc1 : ∀ args w, (callFunc F1 args).run Try.prog w = .ok (.enter F1 args) w) (hf1 : ∀ (Fs' : List Hp) (G1 : Hp), HpLe G G1 → G1 ∈ Fs' → ∀ (y0 : Int) (r : Bool), x1 y0 = some r → RetS Try.prog F1 (([.int .i64 y0] : List Value) ++ c1).toArray Fs' [] [] (fun v bo so => v = .bool r ∧ bo = [] ∧ so = [])) (h : slices_IndexFunc_Lintint x0 x1 = some r) : RetS Try.prog 56 #[.slice a0 x0.length k0, .func (.func F1) #[] c1.toArray] Fs [] [] (fun v bo so => v = .int .i64 r ∧ bo = [] ∧ so = []) := by
  unfold slices_IndexFunc_Lintint at h
  try dsimp only at h
  refine RetS.of (vs := [_, _]) Try.func56 rfl Try.ntmps56 [(0, _), (1, _)] ⟨rfl, rfl, trivial⟩ rfl hG fun w0 S0 hS0 B0 => ?_
  refine Cov.seq ?_
  refine Cov.region rfl ?_
  refine Cov.q .ro (.assign rfl) rfl ?_
  refine Cov.region_end ?_
  refine Cov.seq ?_
  refine Cov.seq ?_
  refine Cov.region rfl ?_
  refine Cov.q .ro (.move rfl) rfl ?_
  refine Cov.q .ro (.len_sl rfl rfl sl22) rfl ?_
  refine Cov.q .ro (.move rfl) rfl ?_
  refine Cov.region_end ?_
  refine Cov.block ?_
  refine Cov.loop2 (α := Nat × List Int) (fun y => [(8, .int .i64 (y.1 : Int))]) [(0, _), (1, _), (7, _)] (fun y => []) (fun y => []) [] (fun y => []) [] (fun y => List.drop y.1 x0 = y.2 ∧ slices_IndexFunc_Lintint_L1 x1 y.2 y.1  = some r) (fun y => y.2.length) (0, x0) ⟨rfl, h⟩ ⟨rfl, rfl, rfl, rfl, trivial⟩ rfl rfl rfl (fun y hI hb23 => ?_)
  obtain ⟨i19, w20⟩ := y
  obtain ⟨g21, r22⟩ := hI
  try dsimp only at g21 r22
  refine Cov.prune [(8, .int .i64 (i19 : Int)), (0, _), (1, _), (7, _)] ⟨rfl, rfl, rfl, rfl, trivial⟩ ?_
  refine Cov.same (bl' := []) (sl' := []) (Fs' := G :: Fs) rfl rfl rfl ?_
  cases w20 with
  | nil =>
    rw [slices_IndexFunc_Lintint_L1] at r22; try dsimp only at r22
    refine Cov.seq ?_
    refine Cov.region rfl ?_
    refine Cov.q .ro (.lss rfl rfl) rfl ?_
    refine Cov.region_end ?_
    refine Cov.seq ?_
    refine Cov.cond_dec rfl (fun c => absurd c (drop_nil g21)) (fun _ => ?_)
    refine Cov.exit rfl ?_
    refine Cov.seq ?_
    refine Cov.region rfl ?_
    refine Cov.q .ro (.assign rfl) rfl ?_
    refine Cov.region_end ?_
    cases r22
    refine Cov.retS (c := ⟨56, none⟩) (.inr ⟨_, rfl⟩) [.tmp 4] [_] rfl Try.func56 Try.results56 ⟨RV.tmp rfl, trivial⟩ (fun _ h => List.mem_cons_of_mem _ h) ⟨rfl, rfl, rfl⟩
  | cons x28 xs29 =>
    have r27 : slices_IndexFunc_Lintint_B1 x1 (slices_IndexFunc_Lintint_L1 x1 xs29 (i19 + 1)) x28 i19  = some r := r22; clear r22; unfold slices_IndexFunc_Lintint_B1 at r27; try dsimp only at r27
    refine Cov.seq ?_
    refine Cov.region rfl ?_
    refine Cov.q .ro (.lss rfl rfl) rfl ?_
    refine Cov.region_end ?_
    refine Cov.seq ?_
    refine Cov.cond_dec rfl (fun _ => ?_) (fun c => absurd (drop_lt g21) c)
    refine Cov.skip ?_
    refine Cov.seq ?_
    refine Cov.block ?_
    refine Cov.seq ?_
    refine Cov.region rfl ?_
    refine Cov.q .ro (.move rfl) rfl ?_
    refine Cov.q .ro (.assign rfl) rfl ?_
    refine Cov.region_end ?_
    refine Cov.seq ?_
    refine Cov.region rfl ?_
    refine Cov.q .ro (.move rfl) rfl ?_
    refine Cov.q .ro (.move rfl) rfl ?_
    refine Cov.q .ro (.move rfl) rfl ?_
    obtain ⟨c30, p31, h32⟩ := SlR.get s0 (drop_idx g21)
    obtain rfl := h32
    refine Cov.q .ro (.idxR s0 rfl rfl (drop_idx g21) sl22 ty3.sz) rfl ?_
    refine Cov.q .ro (.load_rp p31 List.mem_cons_self rfl ty3 rfl) rfl ?_
    obtain ⟨u33, hu33, r34⟩ := bind_some r27; clear r27
    refine Cov.callS (b1 := []) (b2 := []) (s1 := []) [_] c1 .ro rfl rfl hc1 rfl rfl (hf1 _ G (HpLe.refl _) List.mem_cons_self _ _  hu33) rfl (fun v36 bo so h35 => ?_)
    obtain ⟨rfl, rfl, rfl⟩ := h35
    refine Cov.same (bl' := []) (sl' := []) rfl rfl rfl ?_
    refine Cov.region_end ?_
    refine Cov.cond rfl (fun c37 => ?_) (fun c37 => ?_)
    · have r38 := ifT r34 c37; clear r34
      refine Cov.seq ?_
      refine Cov.region rfl ?_
      refine Cov.q .ro (.move rfl) rfl ?_
      refine Cov.q .ro (.assign rfl) rfl ?_
      refine Cov.region_end ?_
      refine Cov.prune [(4, _)] ⟨rfl, trivial⟩ ?_
      cases r38
      refine Cov.retS (c := ⟨56, none⟩) (.inr ⟨_, rfl⟩) [.tmp 4] [_] rfl Try.func56 Try.results56 ⟨RV.tmp rfl, trivial⟩ (fun _ h => List.mem_cons_of_mem _ h) ⟨rfl, rfl, rfl⟩
    · have r39 := ifBF r34 c37; clear r34
      refine Cov.skip ?_
      refine Cov.inBlock ?_
      refine Cov.region rfl ?_
      refine Cov.q .ro (.addw rfl rfl) rfl ?_
      refine Cov.q .ro (.move rfl) rfl ?_
      refine Cov.region_end ?_
      refine Cov.prune _ ?_ (Cov.same rfl rfl rfl (hb23 ((i19 + 1), xs29) ⟨(drop_succ g21), r39⟩ (Nat.lt_succ_self _)))
      exact ⟨(congrArg (fun z => some (Value.int .i64 z)) (idx_wrap (SlR.len s0) g21)), rfl, rfl, rfl, trivial⟩

set_option maxHeartbeats 4000000 in
set_option maxRecDepth 100000 in
theorem slices_ContainsFunc_Lintint_c {Fs : List Hp} {G : Hp} {a0 : Option Addr} {k0 : Nat} {x0 : List Int} {F1 : FuncId} {c1 : List Value} {x1 : Int → Option Bool} {r : Bool} (hG : G ∈ Fs) (s0 : SlR (Rep.int .i64) G a0 k0 x0) (hc1 : ∀ args w, (callFunc F1 args).run Try.prog w = .ok (.enter F1 args) w) (hf1 : ∀ (Fs' : List Hp) (G1 : Hp), HpLe G G1 → G1 ∈ Fs' → ∀ (y0 : Int) (r : Bool), x1 y0 = some r → RetS Try.prog F1 (([.int .i64 y0] : List Value) ++ c1).toArray Fs' [] [] (fun v bo so => v = .bool r ∧ bo = [] ∧ so = [])) (h : slices_ContainsFunc_Lintint x0 x1 = some r) : RetS Try.prog 51 #[.slice a0 x0.length k0, .func (.func F1) #[] c1.toArray] Fs [] [] (fun v bo so => v = .bool r ∧ bo = [] ∧ so = []) := by
  unfold slices_ContainsFunc_Lintint at h
  try dsimp only at h
  refine RetS.of (vs := [_, _]) Try.func51 rfl Try.ntmps51 [(0, _), (1, _)] ⟨rfl, rfl, trivial⟩ rfl hG fun w0 S0 hS0 B0 => ?_
  refine Cov.seq ?_
  refine Cov.region rfl ?_
  refine Cov.q .ro (.assign rfl) rfl ?_
  refine Cov.region_end ?_
  refine Cov.seq ?_
  refine Cov.region rfl ?_
  refine Cov.q .ro (.move rfl) rfl ?_
  refine Cov.q .ro (.move rfl) rfl ?_
  obtain ⟨u1, hu1, r2⟩ := bind_some h; clear h
  refine Cov.callS (b1 := []) (b2 := []) (s1 := []) [_, _] [] .ro rfl rfl Try.call56 rfl rfl (slices_IndexFunc_Lintint_c (G := G) List.mem_cons_self s0 hc1 (fun Fs' G1 hle hm => hf1 Fs' G1 (HpLe.trans (HpLe.refl _) hle) hm) hu1) rfl (fun v4 bo so h3 => ?_)
  obtain ⟨rfl, rfl, rfl⟩ := h3
  refine Cov.same (bl' := []) (sl' := []) rfl rfl rfl ?_
  refine Cov.q .ro (.geq rfl rfl) rfl ?_
  refine Cov.q .ro (.assign rfl) rfl ?_
  refine Cov.region_end ?_
  cases r2
  refine Cov.retS (c := ⟨51, none⟩) (.inr ⟨_, rfl⟩) [.tmp 4] [_] rfl Try.func51 Try.results51 ⟨RV.tmp rfl, trivial⟩ (fun _ h => List.mem_cons_of_mem _ h) ⟨rfl, rfl, rfl⟩

set_option maxHeartbeats 4000000 in
set_option maxRecDepth 100000 in
theorem cuckoo_item_c {Fs : List Hp} {G : Hp} {x0 : Int} {r : Bool} (hG : G ∈ Fs)  (h : cuckoo_item x0 = some r) : RetS Try.prog 45 #[.int .i64 x0] Fs [] [] (fun v bo so => v = .bool r ∧ bo = [] ∧ so = []) := by
  unfold cuckoo_item at h
  try dsimp only at h
  refine RetS.of (vs := [_]) Try.func45 rfl Try.ntmps45 [(0, _)] ⟨rfl, trivial⟩ rfl hG fun w0 S0 hS0 B0 => ?_
  refine Cov.seq ?_
  refine Cov.region rfl ?_
  refine Cov.q .ro (.assign rfl) rfl ?_
  refine Cov.region_end ?_
  refine Cov.seq ?_
  refine Cov.region rfl ?_
  refine Cov.q .ro (.move rfl) rfl ?_
  refine Cov.q .ro (.geq rfl rfl) rfl ?_
  refine Cov.q .ro (.move rfl) rfl ?_
  refine Cov.cutR 3 (β := Unit) (fun y => [(8, .bool (decide ((0 ≤ x0) ∧ (x0 < 2147483647))))]) [(2, _)] (fun y => G :: Fs) (fun y => []) [] (fun y => []) [] (fun y => True) ⟨rfl, trivial⟩ [] rfl [] rfl ?_ ?_
  · rintro _ _
    refine Cov.prune [(8, .bool (decide ((0 ≤ x0) ∧ (x0 < 2147483647)))), (2, _)] ⟨rfl, rfl, trivial⟩ ?_
    refine Cov.same (bl' := []) (sl' := []) (Fs' := G :: Fs) rfl rfl rfl ?_
    refine Cov.q .ro (.assign rfl) rfl ?_
    refine Cov.region_end ?_
    cases h
    refine Cov.retS (c := ⟨45, none⟩) (.inr ⟨_, rfl⟩) [.tmp 2] [_] rfl Try.func45 Try.results45 ⟨RV.tmp rfl, trivial⟩ (fun _ h => List.mem_cons_of_mem _ h) ⟨rfl, rfl, rfl⟩
  · intro hb2
    refine Cov.split 5 rfl (fun c1 => ?_) (fun c1 => ?_)
    · refine Cov.g_on rfl ?_
      refine Cov.q .ro (.move rfl) rfl ?_
      refine Cov.g_on rfl ?_
      refine Cov.q .ro (.lss rfl rfl) rfl ?_
      refine Cov.q .ro (.pick_t rfl rfl) rfl ?_
      refine Cov.prune _ ?_ (Cov.same rfl rfl rfl (hb2 () trivial))
      exact ⟨dand_t c1, rfl, trivial⟩
    · refine Cov.g_off rfl rfl rfl ?_
      refine Cov.g_off rfl rfl rfl ?_
      refine Cov.q .ro (.pick_f rfl rfl) rfl ?_
      refine Cov.prune _ ?_ (Cov.same rfl rfl rfl (hb2 () trivial))
      exact ⟨dand_f c1, rfl, trivial⟩

set_option maxHeartbeats 4000000 in
set_option maxRecDepth 100000 in
theorem cuckoo_asked_f1_c {Fs : List Hp} {G : Hp} {x0 : Int} {r : Bool} (hG : G ∈ Fs)  (h : cuckoo_asked_f1 x0 = some r) : RetS Try.prog 52 #[.int .i64 x0] Fs [] [] (fun v bo so => v = .bool r ∧ bo = [] ∧ so = []) := by
  unfold cuckoo_asked_f1 at h
  try dsimp only at h
  refine RetS.of (vs := [_]) Try.func52 rfl Try.ntmps52 [(0, _)] ⟨rfl, trivial⟩ rfl hG fun w0 S0 hS0 B0 => ?_
  refine Cov.seq ?_
  refine Cov.region rfl ?_
  refine Cov.q .ro (.assign rfl) rfl ?_
  refine Cov.region_end ?_
  refine Cov.seq ?_
  refine Cov.region rfl ?_
  refine Cov.q .ro (.move rfl) rfl ?_
  obtain ⟨u1, hu1, r2⟩ := bind_some h; clear h
  refine Cov.callS (b1 := []) (b2 := []) (s1 := []) [_] [] .ro rfl rfl Try.call45 rfl rfl (cuckoo_item_c (G := G) List.mem_cons_self  hu1) rfl (fun v4 bo so h3 => ?_)
  obtain ⟨rfl, rfl, rfl⟩ := h3
  refine Cov.same (bl' := []) (sl' := []) rfl rfl rfl ?_
  refine Cov.q .ro (.not rfl) rfl ?_
  refine Cov.q .ro (.assign rfl) rfl ?_
  refine Cov.region_end ?_
  cases r2
  refine Cov.retS (c := ⟨52, none⟩) (.inr ⟨_, rfl⟩) [.tmp 2] [_] rfl Try.func52 Try.results52 ⟨RV.tmp rfl, trivial⟩ (fun _ h => List.mem_cons_of_mem _ h) ⟨rfl, rfl, rfl⟩

set_option maxHeartbeats 4000000 in
set_option maxRecDepth 100000 in
theorem cuckoo_asked_c {Fs : List Hp} {G : Hp} {x0_0 : Int} {a0_1 : Option Addr} {k0_1 : Nat} {x0_1 : List (Int × Int)} {a1 : Option Addr} {k1 : Nat} {x1 : List Int} {r : Int} (hG : G ∈ Fs) (s0_1 : SlR (Rep.pair (Rep.int .i64) (Rep.int .i64)) G a0_1 k0_1 x0_1) (s1 : SlR (Rep.int .i64) G a1 k1 x1) (h : cuckoo_asked (x0_0, x0_1) x1 = some r) : RetS Try.prog 40 #[.agg #[.int .i64 x0_0, .slice a0_1 x0_1.length k0_1], .slice a1 x1.length k1] Fs [] [] (fun v bo so => v = .int .i64 r ∧ bo = [] ∧ so = []) := by
  unfold cuckoo_asked at h
  try dsimp only at h
  refine RetS.of (vs := [_, _]) Try.func40 rfl Try.ntmps40 [(0, _), (1, _)] ⟨rfl, rfl, trivial⟩ rfl hG fun w0 S0 hS0 B0 => ?_
  refine Cov.seq ?_
  refine Cov.region rfl ?_
  refine Cov.box [_, _] .ro rfl rfl rfl (fun b1 hb1 => ?_)
  refine Cov.q .ro (.assign rfl) rfl ?_
  refine Cov.region_end ?_
  refine Cov.seq ?_
  refine Cov.seq ?_
  refine Cov.region rfl ?_
  refine Cov.q .ro (.load_own_a 0 [_, _] rfl rfl ty25 rfl) rfl ?_
  obtain ⟨u2, hu2, r3⟩ := bind_some h; clear h
  refine Cov.callS (b1 := []) (b2 := [_]) (s1 := []) [_] [] .ro rfl rfl Try.call22 rfl rfl (cuckoo_Check_c (G := G) List.mem_cons_self s0_1 hu2) rfl (fun v5 bo so h4 => ?_)
  obtain ⟨rfl, rfl, rfl⟩ := h4
  refine Cov.same (bl' := [_]) (sl' := []) rfl rfl rfl ?_
  refine Cov.q .ro (.assign rfl) rfl ?_
  refine Cov.region_end ?_
  refine Cov.seq ?_
  refine Cov.region rfl ?_
  refine Cov.q .ro (.move rfl) rfl ?_
  refine Cov.q .ro (.neq rfl rfl) rfl ?_
  refine Cov.region_end ?_
  refine Cov.cond_dec rfl (fun c6 => ?_) (fun c6 => ?_)
  · have r7 := ifT r3 c6; clear r3
    refine Cov.seq ?_
    refine Cov.region rfl ?_
    refine Cov.q .ro (.move rfl) rfl ?_
    refine Cov.q .ro (.assign rfl) rfl ?_
    refine Cov.region_end ?_
    cases r7
    refine Cov.drop 1 0 [] _ rfl rfl ?_
    refine Cov.retS (c := ⟨40, none⟩) (.inr ⟨_, rfl⟩) [.tmp 4] [_] rfl Try.func40 Try.results40 ⟨RV.tmp rfl, trivial⟩ (fun _ h => List.mem_cons_of_mem _ h) ⟨rfl, rfl, rfl⟩
  · have r8 := ifF r3 c6; clear r3
    refine Cov.skip ?_
    refine Cov.seq ?_
    refine Cov.seq ?_
    refine Cov.region rfl ?_
    refine Cov.q .ro (.move rfl) rfl ?_
    obtain ⟨u9, hu9, r10⟩ := bind_some r8; clear r8
    refine Cov.callS (b1 := []) (b2 := [_]) (s1 := []) [_, _] [] .ro rfl rfl Try.call51 rfl rfl (slices_ContainsFunc_Lintint_c (G := G) List.mem_cons_self s1 Try.call52 (fun Fs' G1 hle hm y0 r  hr => cuckoo_asked_f1_c (G := G1) hm   hr) hu9) rfl (fun v12 bo so h11 => ?_)
    obtain ⟨rfl, rfl, rfl⟩ := h11
    refine Cov.same (bl' := [_]) (sl' := []) rfl rfl rfl ?_
    refine Cov.region_end ?_
    refine Cov.cond rfl (fun c13 => ?_) (fun c13 => ?_)
    · have r14 := ifT r10 c13; clear r10
      refine Cov.seq ?_
      refine Cov.region rfl ?_
      refine Cov.q .ro (.assign rfl) rfl ?_
      refine Cov.region_end ?_
      cases r14
      refine Cov.drop 1 0 [] _ rfl rfl ?_
      refine Cov.retS (c := ⟨40, none⟩) (.inr ⟨_, rfl⟩) [.tmp 4] [_] rfl Try.func40 Try.results40 ⟨RV.tmp rfl, trivial⟩ (fun _ h => List.mem_cons_of_mem _ h) ⟨rfl, rfl, rfl⟩
    · have r15 := ifBF r10 c13; clear r10
      refine Cov.skip ?_
      refine Cov.seq ?_
      refine Cov.region rfl ?_
      refine Cov.q .ro (.assign rfl) rfl ?_
      refine Cov.region_end ?_
      cases r15
      refine Cov.drop 1 0 [] _ rfl rfl ?_
      refine Cov.retS (c := ⟨40, none⟩) (.inr ⟨_, rfl⟩) [.tmp 4] [_] rfl Try.func40 Try.results40 ⟨RV.tmp rfl, trivial⟩ (fun _ h => List.mem_cons_of_mem _ h) ⟨rfl, rfl, rfl⟩

set_option maxHeartbeats 4000000 in
set_option maxRecDepth 100000 in
theorem slices_Clone_Lintint_c {Fs : List Hp} {G : Hp} {a0 : Option Addr} {k0 : Nat} {x0 : List Int} {r : (List Int)} (hG : G ∈ Fs) (s0 : SlR (Rep.int .i64) G a0 k0 x0) (h : slices_Clone_Lintint x0 = some r) : RetS Try.prog 57 #[.slice a0 x0.length k0] Fs [] [] (fun v bo so => ∃ (oa0 : Option Addr) (ok0 : Nat) (oc0 : List Value), v = .slice oa0 r.length ok0 ∧ bo = [] ∧ so = [.s (.slice oa0 r.length ok0) 3 1 r.length oc0] ∧ OL (Rep.int .i64) G oc0 r) := by
  unfold slices_Clone_Lintint at h
  try dsimp only at h
  refine RetS.of (vs := [_]) Try.func57 rfl Try.ntmps57 [(0, _)] ⟨rfl, trivial⟩ rfl hG fun w0 S0 hS0 B0 => ?_
  refine Cov.seq ?_
  refine Cov.region rfl ?_
  refine Cov.q .ro (.assign rfl) rfl ?_
  refine Cov.region_end ?_
  refine Cov.seq ?_
  refine Cov.seq ?_
  refine Cov.region rfl ?_
  refine Cov.q .ro (.move rfl) rfl ?_
  refine Cov.q .ro (.eqnil Try.underlying22 rfl rfl) rfl ?_
  refine Cov.region_end ?_
  refine Cov.cond rfl (fun c1 => ?_) (fun _ => ?_)
  · have h2 := SlR.isnil s0 c1
    refine Cov.seq ?_
    refine Cov.region rfl ?_
    refine Cov.q .ro (.assign rfl) rfl ?_
    refine Cov.region_end ?_
    refine Cov.own_nil 3 1 ?_
    obtain rfl := nil_clone h2 h
    refine Cov.retS (c := ⟨57, none⟩) (.inr ⟨_, rfl⟩) [.tmp 2] [_] rfl Try.func57 Try.results57 ⟨RV.tmp rfl, trivial⟩ (fun _ h => List.mem_cons_of_mem _ h) ⟨none, 0, [], rfl, rfl, rfl, (OL.nil (Rp' := (Rep.int .i64)))⟩
  · refine Cov.skip ?_
    refine Cov.seq ?_
    refine Cov.region rfl ?_
    refine Cov.lit [] [] .ro sl22 ty3 rfl rfl rfl rfl rfl rfl (fun b4 hb4 => ?_)
    have o5 : OL (Rep.int .i64) G [] ([] : List Int) := ((OL.nil (Rp' := (Rep.int .i64))) :)
    refine Cov.reval 5 (n' := ([] : List Int).length) rfl rfl ?_
    refine Cov.q .ro (.move rfl) rfl ?_
    obtain ⟨u11, hu11, r12⟩ := bind_some h; clear h
    refine Cov.appR (Q := (Rep.int .i64)) 0 .ro sl22 ty3 rfl rfl rfl rfl rfl o5 rfl rfl s0 rfl List.mem_cons_self hu11 rfl (fun a7 k8 cs9 o10 => ?_)
    refine Cov.q .ro (.assign rfl) rfl ?_
    refine Cov.region_end ?_
    cases r12
    refine Cov.retS (c := ⟨57, none⟩) (.inr ⟨_, rfl⟩) [.tmp 2] [_] rfl Try.func57 Try.results57 ⟨RV.tmp rfl, trivial⟩ (fun _ h => List.mem_cons_of_mem _ h) ⟨a7, k8, cs9, rfl, rfl, rfl, o10⟩

set_option maxHeartbeats 4000000 in
set_option maxRecDepth 100000 in
theorem cuckoo_placing_rest_c {Fs : List Hp} {G : Hp} {p0 : Nat} {a0_0 : Option Addr} {k0_0 : Nat} {x0_0 : List (List Int)} {a0_1 : Option Addr} {k0_1 : Nat} {x0_1 : List Int} {cc0_1 : List Value} {bb0_1 : Option Nat} {pre0_1 post0_1 : List Value} {a0_2 : Option Addr} {k0_2 : Nat} {x0_2 : List Bool} {cc0_2 : List Value} {bb0_2 : Option Nat} {pre0_2 post0_2 : List Value} {x1 : Int} {r : Bool} (hG : G ∈ Fs) (s0_0 : SlR (Rep.sl (Rep.int .i64)) G a0_0 k0_0 x0_0) (vva0_1 : VA a0_1 bb0_1 x0_1.length k0_1 pre0_1 cc0_1) (oo0_1 : OL (Rep.int .i64) G cc0_1 x0_1) (vva0_2 : VA a0_2 bb0_2 x0_2.length k0_2 pre0_2 cc0_2) (oo0_2 : OL Rep.bool G cc0_2 x0_2) (h : cuckoo_placing_rest (x0_0, x0_1, x0_2) x1 = some r) : RetS Try.prog 53 #[.pointer (some ⟨p0, 0, none⟩), .int .i64 x1] Fs [(p0, .cells #[.slice a0_0 x0_0.length k0_0, .slice a0_1 x0_1.length k0_1, .slice a0_2 x0_2.length k0_2] 71 (0, 0))] [.g (viewG bb0_1 3 pre0_1 cc0_1 post0_1), .g (viewG bb0_2 4 pre0_2 cc0_2 post0_2)] (fun v bo so => v = .bool r ∧ bo = [(p0, .cells #[.slice a0_0 x0_0.length k0_0, .slice a0_1 x0_1.length k0_1, .slice a0_2 x0_2.length k0_2] 71 (0, 0))] ∧ so = [.g (viewG bb0_1 3 pre0_1 cc0_1 post0_1), .g (viewG bb0_2 4 pre0_2 cc0_2 post0_2)]) := by
  unfold cuckoo_placing_rest at h
  try dsimp only at h
  refine RetS.of (vs := [_, _]) Try.func53 rfl Try.ntmps53 [(0, _), (1, _)] ⟨rfl, rfl, trivial⟩ rfl hG fun w0 S0 hS0 B0 => ?_
  refine Cov.seq ?_
  refine Cov.region rfl ?_
  refine Cov.q .ro (.assign rfl) rfl ?_
  refine Cov.region_end ?_
  refine Cov.seq ?_
  refine Cov.drawL (.q 0 (.q 1 (.q 2 (.q 3 (.q 4 (.q 5 (.q 6 (.q 7 (.q 9 (.q 10 (.q 11 (.q 12 (.e 8 1 (.q 13 (.e 14 1 (.q 15 .nil)))))))))))))))) [_] (by kernel_rfl) (by kernel_rfl) (pick_mem [0] rfl) ?_
  refine Cov.dq (.move rfl) rfl ?_
  refine Cov.dq (.nilCheck rfl rfl) rfl ?_
  refine Cov.dq (.fieldAddr 0 rfl fl71_0 ty54.sz rfl) rfl ?_
  refine Cov.dq (.load_own 0 rfl rfl ty54 rfl) rfl ?_
  refine Cov.dq (.move rfl) rfl ?_
  refine Cov.dq (.nilCheck rfl rfl) rfl ?_
  refine Cov.dq (.fieldAddr 1 rfl fl71_1 ty22.sz rfl) rfl ?_
  refine Cov.dq (.load_own 0 rfl rfl ty22 rfl) rfl ?_
  refine Cov.dq (.move rfl) rfl ?_
  refine Cov.dq (.nilCheck rfl rfl) rfl ?_
  refine Cov.dq (.fieldAddr 2 rfl fl71_2 ty49.sz rfl) rfl ?_
  refine Cov.dq (.load_own 0 rfl rfl ty49 rfl) rfl ?_
  obtain ⟨u3, hu3, r4⟩ := bind_some h; clear h
  refine Cov.callB (Q := fun v bo so => ∃ (oa0 : Option Addr) (ok0 : Nat) (oc0 : List Value), v = .slice oa0 u3.length ok0 ∧ bo = [] ∧ so = [.s (.slice oa0 u3.length ok0) 3 1 u3.length oc0] ∧ OL (Rep.int .i64) G oc0 u3) (b1 := []) (b2 := [_]) (s1 := []) (sB := [_]) (s2 := [_]) [_] [] .d1 rfl rfl Try.call57 rfl rfl (fun Fs' G' hle hB hm => RetG.mono (slices_Clone_Lintint_c (G := G') hm (SlR.rdV oo0_1 vva0_1 hle rfl (hB _ (List.mem_of_getElem? (i := 0) rfl))) hu3) (fun v _ bo so h => by obtain ⟨q0a, q0k, q0c, e1, e2, e3, f0⟩ := h; exact ⟨q0a, q0k, q0c, e1, e2, e3, OL.flat (Rep.flat_int _) f0⟩)) rfl (fun v6 bo so h5 => ?_)
  obtain ⟨a8, k9, cs10, rfl, rfl, rfl, o11⟩ := h5
  refine Cov.same (bl' := [_]) (sl' := [_, _, _]) rfl rfl rfl ?_
  refine Cov.clsL (HpLe.refl _) (pick_mem [0] rfl) ?_
  refine Cov.dq (.build [_, _, _] [(0, _), (1, _), (2, _)] ty71 pl71 rfl rfl) rfl ?_
  refine Cov.box [_, _, _] .d1 rfl rfl rfl (fun b12 hb12 => ?_)
  refine Cov.clsL (HpLe.refl _) (pick_mem [1] rfl) ?_
  refine Cov.dq (.assign rfl) rfl ?_
  refine Cov.draw_end ?_
  refine Cov.prune [(1, _), (5, _)] ⟨rfl, rfl, trivial⟩ ?_
  refine Cov.seq ?_
  refine Cov.seq ?_
  refine Cov.region rfl ?_
  refine Cov.q .ro (.move rfl) rfl ?_
  refine Cov.q .ro (.nilCheck rfl rfl) rfl ?_
  refine Cov.q .ro (.fieldAddr 1 rfl fl71_1 ty22.sz rfl) rfl ?_
  refine Cov.q .ro (.load_own 0 rfl rfl ty22 rfl) rfl ?_
  refine Cov.q .ro (.len_sl rfl rfl sl22) rfl ?_
  refine Cov.q .ro (.move rfl) rfl ?_
  refine Cov.region_end ?_
  refine Cov.cutB (β := List Int × Option Addr × Nat × List Value) (fun y => []) [(1, _), (5, _)] (fun y => G :: Fs) (fun y => [(b12, .cells #[.slice a0_0 x0_0.length k0_0, .slice y.2.1 y.1.length y.2.2.1, .slice a0_2 x0_2.length k0_2] 71 (0, 0))]) [_] (fun y => [.s (.slice y.2.1 y.1.length y.2.2.1) 3 1 y.1.length y.2.2.2]) [_, _] (fun y => OL (Rep.int .i64) G y.2.2.2 y.1 ∧ (cuckoo_placing_rest_J1 x1 x0_0 x0_2) y.1 = some r) ⟨rfl, rfl, trivial⟩ [1] rfl [1, 2] rfl ?_ ?_
  · intro y hI
    obtain ⟨v74, a75, k76, cs77⟩ := y
    obtain ⟨o78, r81⟩ := hI
    try dsimp only at o78 r81
    refine Cov.prune [(1, _), (5, _)] ⟨rfl, rfl, trivial⟩ ?_
    refine Cov.same (bl' := [(b12, .cells #[.slice a0_0 x0_0.length k0_0, .slice a75 v74.length k76, .slice a0_2 x0_2.length k0_2] 71 (0, 0)), _]) (sl' := [.s (.slice a75 v74.length k76) 3 1 v74.length cs77, _, _]) (Fs' := G :: Fs) rfl rfl rfl ?_
    unfold cuckoo_placing_rest_J1 at r81
    try dsimp only at r81
    refine Cov.seq ?_
    refine Cov.region rfl ?_
    refine Cov.q .ro (.move rfl) rfl ?_
    refine Cov.q .ro (.move rfl) rfl ?_
    refine Cov.toV 0 rfl (fun vb86 po87 va88 vb89 => ?_)
    obtain ⟨u90, hu90, r91⟩ := bind_some r81; clear r81
    refine Cov.pullS 2 rfl [_, _, _] rfl ?_
    refine Cov.pullS 1 rfl [_, _, _] rfl ?_
    refine Cov.callS (b1 := [_]) (b2 := [_]) (s1 := [_, _]) [_, _] [] .ro rfl rfl Try.call38 rfl rfl (cuckoo_placing_all_c (G := G) List.mem_cons_self s0_0 va88 o78 vva0_2 oo0_2 hu90) rfl (fun v93 bo so h92 => ?_)
    obtain ⟨cs94, rfl, rfl, rfl, o95, hl96⟩ := h92
    refine Cov.same (bl' := [_, _]) (sl' := [_, _, _]) rfl rfl rfl ?_
    refine Cov.ofV 0 rfl vb89 hl96 o95 rfl ?_
    refine Cov.recell 0 [_, .slice a75 u90.2.length k76, _] rfl (by rw [hl96]) [_, _] rfl ?_
    refine Cov.q .ro (.assign rfl) rfl ?_
    refine Cov.region_end ?_
    cases r91
    refine Cov.drop 1 0 [_] _ rfl rfl ?_
    refine Cov.pullS 1 rfl [_, _, _] rfl ?_
    refine Cov.pullS 2 rfl [_, _, _] rfl ?_
    refine Cov.pullS 2 rfl [_, _, _] rfl ?_
    refine Cov.drop 0 1 _ [_, _] rfl rfl ?_
    refine Cov.retS (c := ⟨53, none⟩) (.inr ⟨_, rfl⟩) [.tmp 4] [_] rfl Try.func53 Try.results53 ⟨RV.tmp rfl, trivial⟩ (fun _ h => List.mem_cons_of_mem _ h) ⟨rfl, rfl, rfl⟩
  · intro hb98
    refine Cov.block ?_
    refine Cov.loop2 (α := Nat × List Int × List Int × Option Addr × Nat × List Value) (fun y => [(27, .int .i64 (y.1 : Int))]) [(1, _), (5, _), (26, _)] (fun y => []) (fun y => [(b12, .cells #[.slice a0_0 x0_0.length k0_0, .slice y.2.2.2.1 y.2.2.1.length y.2.2.2.2.1, .slice a0_2 x0_2.length k0_2] 71 (0, 0))]) [_] (fun y => [.s (.slice y.2.2.2.1 y.2.2.1.length y.2.2.2.2.1) 3 1 y.2.2.1.length y.2.2.2.2.2]) [_, _] (fun y => OL (Rep.int .i64) G y.2.2.2.2.2 y.2.2.1 ∧ List.drop y.1 u3 = y.2.1 ∧ cuckoo_placing_rest_L2 (cuckoo_placing_rest_J1 x1 x0_0 x0_2) x0_2 y.2.1 y.1 y.2.2.1 = some r) (fun y => y.2.1.length) (0, u3, u3, a8, k9, cs10) ⟨o11, rfl, r4⟩ ⟨rfl, rfl, rfl, rfl, trivial⟩ rfl rfl rfl (fun y hI hb133 => ?_)
    obtain ⟨i123, w124, v126, a127, k128, cs129⟩ := y
    obtain ⟨o130, g125, r132⟩ := hI
    try dsimp only at o130 g125 r132
    refine Cov.prune [(27, .int .i64 (i123 : Int)), (1, _), (5, _), (26, _)] ⟨rfl, rfl, rfl, rfl, trivial⟩ ?_
    refine Cov.same (bl' := [(b12, .cells #[.slice a0_0 x0_0.length k0_0, .slice a127 v126.length k128, .slice a0_2 x0_2.length k0_2] 71 (0, 0)), _]) (sl' := [.s (.slice a127 v126.length k128) 3 1 v126.length cs129, _, _]) (Fs' := G :: Fs) rfl rfl rfl ?_
    cases w124 with
    | nil =>
      rw [cuckoo_placing_rest_L2] at r132; try dsimp only at r132
      refine Cov.seq ?_
      refine Cov.region rfl ?_
      refine Cov.q .ro (.lss rfl rfl) rfl ?_
      refine Cov.region_end ?_
      refine Cov.seq ?_
      refine Cov.cond_dec rfl (fun c => absurd c (drop_nil g125)) (fun _ => ?_)
      refine Cov.exit rfl ?_
      refine Cov.prune _ ?_ (Cov.same rfl rfl rfl (hb98 (v126, a127, k128, cs129) ⟨o130, r132⟩))
      exact ⟨rfl, rfl, trivial⟩
    | cons x140 xs141 =>
      have r139 : cuckoo_placing_rest_B2 (cuckoo_placing_rest_J1 x1 x0_0 x0_2) x0_2 (cuckoo_placing_rest_L2 (cuckoo_placing_rest_J1 x1 x0_0 x0_2) x0_2 xs141 (i123 + 1)) x140 i123 v126 = some r := r132; clear r132; unfold cuckoo_placing_rest_B2 at r139; try dsimp only at r139
      refine Cov.seq ?_
      refine Cov.region rfl ?_
      refine Cov.q .ro (.lss rfl rfl) rfl ?_
      refine Cov.region_end ?_
      refine Cov.seq ?_
      refine Cov.cond_dec rfl (fun _ => ?_) (fun c => absurd (drop_lt g125) c)
      refine Cov.skip ?_
      refine Cov.seq ?_
      refine Cov.block ?_
      refine Cov.seq ?_
      refine Cov.region rfl ?_
      refine Cov.q .ro (.move rfl) rfl ?_
      refine Cov.q .ro (.assign rfl) rfl ?_
      refine Cov.region_end ?_
      refine Cov.seq ?_
      refine Cov.region rfl ?_
      refine Cov.q .ro (.move rfl) rfl ?_
      refine Cov.q .ro (.nilCheck rfl rfl) rfl ?_
      refine Cov.q .ro (.fieldAddr 2 rfl fl71_2 ty49.sz rfl) rfl ?_
      refine Cov.q .ro (.load_own 0 rfl rfl ty49 rfl) rfl ?_
      refine Cov.q .ro (.move rfl) rfl ?_
      obtain ⟨u142, hu142, r143⟩ := bind_some r139; clear r139
      obtain ⟨c144, p145, h146⟩ := OL.get oo0_2 hu142
      obtain rfl := h146
      refine Cov.q .ro (.idxV 2 rfl vva0_2 oo0_2 rfl rfl hu142 sl49 ty4.sz rfl rfl) rfl ?_
      refine Cov.q .ro (.loadV 2 0 rfl vva0_2 oo0_2 rfl rfl hu142 p145 rfl (.inl ⟨rfl, rfl⟩) ty4 rfl) rfl ?_
      refine Cov.q .ro (.not rfl) rfl ?_
      refine Cov.region_end ?_
      refine Cov.cond rfl (fun c147 => ?_) (fun c147 => ?_)
      · have r148 := ifT r143 c147; clear r143
        refine Cov.region rfl ?_
        refine Cov.q .ro (.move rfl) rfl ?_
        refine Cov.q .ro (.nilCheck rfl rfl) rfl ?_
        refine Cov.q .ro (.fieldAddr 1 rfl fl71_1 ty22.sz rfl) rfl ?_
        refine Cov.q .ro (.load_own 0 rfl rfl ty22 rfl) rfl ?_
        refine Cov.q .ro (.move rfl) rfl ?_
        obtain ⟨u149, hu149, r150⟩ := bind_some r148; clear r148
        obtain ⟨c151, p152, h153⟩ := OL.get o130 hu149
        obtain rfl := h153
        refine Cov.q .ro (.idxO 0 rfl rfl rfl hu149 sl22 ty3.sz) rfl ?_
        obtain ⟨u154, hu154, r155⟩ := bind_some r150; clear r150
        refine Cov.storeR 0 0 (Q := (Rep.int .i64)) .ro rfl rfl o130 hu154 rfl (.inl ⟨rfl, rfl⟩) rfl ty3 p152 ((Rep.intI .i64 (-1)) :) rfl rfl (fun cs156 hlcs156 o157 => ?_)
        refine Cov.reval 41 hlcs156 rfl ?_
        refine Cov.recell 0 [_, .slice a127 u154.length k128, _] rfl (by rw [hlcs156]) [_, _] rfl ?_
        refine Cov.region_end ?_
        refine Cov.prune [(27, _), (1, _), (5, _), (26, _)] ⟨rfl, rfl, rfl, rfl, trivial⟩ ?_
        refine Cov.inBlock ?_
        refine Cov.region rfl ?_
        refine Cov.q .ro (.addw rfl rfl) rfl ?_
        refine Cov.q .ro (.move rfl) rfl ?_
        refine Cov.region_end ?_
        refine Cov.prune _ ?_ (Cov.same rfl rfl rfl (hb133 ((i123 + 1), xs141, u154, a127, k128, cs156) ⟨o157, (drop_succ g125), r155⟩ (Nat.lt_succ_self _)))
        exact ⟨(congrArg (fun z => some (Value.int .i64 z)) (idx_wrap (OL.len' o11) g125)), rfl, rfl, rfl, trivial⟩
      · have r159 := ifBF r143 c147; clear r143
        refine Cov.skip ?_
        refine Cov.inBlock ?_
        refine Cov.region rfl ?_
        refine Cov.q .ro (.addw rfl rfl) rfl ?_
        refine Cov.q .ro (.move rfl) rfl ?_
        refine Cov.region_end ?_
        refine Cov.prune _ ?_ (Cov.same rfl rfl rfl (hb133 ((i123 + 1), xs141, v126, a127, k128, cs129) ⟨o130, (drop_succ g125), r159⟩ (Nat.lt_succ_self _)))
        exact ⟨(congrArg (fun z => some (Value.int .i64 z)) (idx_wrap (OL.len' o11) g125)), rfl, rfl, rfl, trivial⟩

set_option maxHeartbeats 4000000 in
set_option maxRecDepth 100000 in
theorem cuckoo_placing_first_c {Fs : List Hp} {G : Hp} {p0 : Nat} {a0_0 : Option Addr} {k0_0 : Nat} {x0_0 : List (List Int)} {a0_1 : Option Addr} {k0_1 : Nat} {x0_1 : List Int} {cc0_1 : List Value} {bb0_1 : Option Nat} {pre0_1 post0_1 : List Value} {a0_2 : Option Addr} {k0_2 : Nat} {x0_2 : List Bool} {cc0_2 : List Value} {bb0_2 : Option Nat} {pre0_2 post0_2 : List Value} {r : (Bool × (List Int) × (List Bool))} (hG : G ∈ Fs) (s0_0 : SlR (Rep.sl (Rep.int .i64)) G a0_0 k0_0 x0_0) (vva0_1 : VA a0_1 bb0_1 x0_1.length k0_1 pre0_1 cc0_1) (oo0_1 : OL (Rep.int .i64) G cc0_1 x0_1) (vva0_2 : VA a0_2 bb0_2 x0_2.length k0_2 pre0_2 cc0_2) (oo0_2 : OL Rep.bool G cc0_2 x0_2) (h : cuckoo_placing_first (x0_0, x0_1, x0_2) = some r) : RetS Try.prog 41 #[.pointer (some ⟨p0, 0, none⟩)] Fs [(p0, .cells #[.slice a0_0 x0_0.length k0_0, .slice a0_1 x0_1.length k0_1, .slice a0_2 x0_2.length k0_2] 71 (0, 0))] [.g (viewG bb0_1 3 pre0_1 cc0_1 post0_1), .g (viewG bb0_2 4 pre0_2 cc0_2 post0_2)] (fun v bo so => ∃ lc0 : List Value, ∃ lc1 : List Value, v = .bool r.1 ∧ bo = [(p0, .cells #[.slice a0_0 x0_0.length k0_0, .slice a0_1 r.2.1.length k0_1, .slice a0_2 r.2.2.length k0_2] 71 (0, 0))] ∧ so = [.g (viewG bb0_1 3 pre0_1 lc0 post0_1), .g (viewG bb0_2 4 pre0_2 lc1 post0_2)] ∧ OL (Rep.int .i64) G lc0 r.2.1 ∧ r.2.1.length = x0_1.length ∧ OL Rep.bool G lc1 r.2.2 ∧ r.2.2.length = x0_2.length) := by
  unfold cuckoo_placing_first at h
  try dsimp only at h
  refine RetS.of (vs := [_]) Try.func41 rfl Try.ntmps41 [(0, _)] ⟨rfl, trivial⟩ rfl hG fun w0 S0 hS0 B0 => ?_
  refine Cov.seq ?_
  refine Cov.region rfl ?_
  refine Cov.q .ro (.assign rfl) rfl ?_
  refine Cov.region_end ?_
  refine Cov.scope ?_
  refine Cov.seq ?_
  refine Cov.label ?_
  refine Cov.seq ?_
  refine Cov.seq ?_
  refine Cov.region rfl ?_
  refine Cov.q .ro (.move rfl) rfl ?_
  refine Cov.q .ro (.nilCheck rfl rfl) rfl ?_
  refine Cov.q .ro (.fieldAddr 0 rfl fl71_0 ty54.sz rfl) rfl ?_
  refine Cov.q .ro (.load_own 0 rfl rfl ty54 rfl) rfl ?_
  refine Cov.q .ro (.len_sl rfl rfl sl54) rfl ?_
  refine Cov.q .ro (.move rfl) rfl ?_
  refine Cov.region_end ?_
  refine Cov.block ?_
  refine Cov.pullS 1 rfl [_, _] rfl ?_
  refine Cov.pullS 1 rfl [_, _] rfl ?_
  refine Cov.loop2 (α := Nat × List (List Int) × List Int × List Value × List Bool × List Value) (fun y => [(12, .int .i64 (y.1 : Int))]) [(0, _), (10, _), (11, _)] (fun y => []) (fun y => [(p0, .cells #[.slice a0_0 x0_0.length k0_0, .slice a0_1 y.2.2.1.length k0_1, .slice a0_2 y.2.2.2.2.1.length k0_2] 71 (0, 0))]) [] (fun y => [.g (viewG bb0_1 3 pre0_1 y.2.2.2.1 post0_1), .g (viewG bb0_2 4 pre0_2 y.2.2.2.2.2 post0_2)]) [] (fun y => OL (Rep.int .i64) G y.2.2.2.1 y.2.2.1 ∧ VA a0_1 bb0_1 y.2.2.1.length k0_1 pre0_1 y.2.2.2.1 ∧ y.2.2.1.length = x0_1.length ∧ OL Rep.bool G y.2.2.2.2.2 y.2.2.2.2.1 ∧ VA a0_2 bb0_2 y.2.2.2.2.1.length k0_2 pre0_2 y.2.2.2.2.2 ∧ y.2.2.2.2.1.length = x0_2.length ∧ List.drop y.1 x0_0 = y.2.1 ∧ cuckoo_placing_first_L2 x0_0 y.2.1 y.1 y.2.2.1 y.2.2.2.2.1 = some r) (fun y => y.2.1.length) (0, x0_0, x0_1, cc0_1, x0_2, cc0_2) ⟨oo0_1, vva0_1, rfl, oo0_2, vva0_2, rfl, rfl, h⟩ ⟨rfl, rfl, rfl, rfl, trivial⟩ rfl rfl rfl (fun y hI hb189 => ?_)
  obtain ⟨i173, w174, v176, cs177, v182, cs183⟩ := y
  obtain ⟨o178, va179, hl180, o184, va185, hl186, g175, r188⟩ := hI
  try dsimp only at o178 va179 hl180 o184 va185 hl186 g175 r188
  refine Cov.prune [(12, .int .i64 (i173 : Int)), (0, _), (10, _), (11, _)] ⟨rfl, rfl, rfl, rfl, trivial⟩ ?_
  refine Cov.same (bl' := [(p0, .cells #[.slice a0_0 x0_0.length k0_0, .slice a0_1 v176.length k0_1, .slice a0_2 v182.length k0_2] 71 (0, 0))]) (sl' := [.g (viewG bb0_1 3 pre0_1 cs177 post0_1), .g (viewG bb0_2 4 pre0_2 cs183 post0_2)]) (Fs' := G :: Fs) rfl rfl rfl ?_
  cases w174 with
  | nil =>
    rw [cuckoo_placing_first_L2] at r188; try dsimp only at r188
    refine Cov.seq ?_
    refine Cov.region rfl ?_
    refine Cov.q .ro (.lss rfl rfl) rfl ?_
    refine Cov.region_end ?_
    refine Cov.seq ?_
    refine Cov.cond_dec rfl (fun c => absurd c (drop_nil g175)) (fun _ => ?_)
    refine Cov.exit rfl ?_
    refine Cov.seq ?_
    refine Cov.region rfl ?_
    refine Cov.q .ro (.assign rfl) rfl ?_
    refine Cov.region_end ?_
    cases r188
    refine Cov.retS (c := ⟨41, none⟩) (.inr ⟨_, rfl⟩) [.tmp 2] [_] rfl Try.func41 Try.results41 ⟨RV.tmp rfl, trivial⟩ (fun _ h => List.mem_cons_of_mem _ h) ⟨cs177, cs183, rfl, rfl, rfl, o178, hl180, o184, hl186⟩
  | cons x193 xs194 =>
    have r192 : cuckoo_placing_first_B2 x0_0 (cuckoo_placing_first_L2 x0_0 xs194 (i173 + 1)) x193 i173 v176 v182 = some r := r188; clear r188; unfold cuckoo_placing_first_B2 at r192; try dsimp only at r192
    refine Cov.seq ?_
    refine Cov.region rfl ?_
    refine Cov.q .ro (.lss rfl rfl) rfl ?_
    refine Cov.region_end ?_
    refine Cov.seq ?_
    refine Cov.cond_dec rfl (fun _ => ?_) (fun c => absurd (drop_lt g175) c)
    refine Cov.skip ?_
    refine Cov.seq ?_
    refine Cov.block ?_
    refine Cov.seq ?_
    refine Cov.region rfl ?_
    refine Cov.q .ro (.move rfl) rfl ?_
    obtain ⟨c195, p196, h197⟩ := SlR.get s0_0 (drop_idx g175)
    obtain ⟨a198, k199, rfl, s200⟩ := h197
    refine Cov.q .ro (.idxR s0_0 rfl rfl (drop_idx g175) sl54 ty22.sz) rfl ?_
    refine Cov.q .ro (.load_rp p196 List.mem_cons_self rfl ty22 rfl) rfl ?_
    refine Cov.q .ro (.assign rfl) rfl ?_
    refine Cov.q .ro (.assign rfl) rfl ?_
    refine Cov.region_end ?_
    refine Cov.seq ?_
    refine Cov.seq ?_
    refine Cov.region rfl ?_
    refine Cov.q .ro (.move rfl) rfl ?_
    refine Cov.q .ro (.len_sl rfl rfl sl22) rfl ?_
    refine Cov.q .ro (.move rfl) rfl ?_
    refine Cov.region_end ?_
    refine Cov.block ?_
    refine Cov.pullS 1 rfl [_, _] rfl ?_
    refine Cov.pullS 1 rfl [_, _] rfl ?_
    refine Cov.loop2 (α := Nat × List Int × List Int × List Value × List Bool × List Value) (fun y => [(19, .int .i64 (y.1 : Int))]) [(12, _), (0, _), (10, _), (11, _), (3, _), (17, _), (18, _)] (fun y => []) (fun y => [(p0, .cells #[.slice a0_0 x0_0.length k0_0, .slice a0_1 y.2.2.1.length k0_1, .slice a0_2 y.2.2.2.2.1.length k0_2] 71 (0, 0))]) [] (fun y => [.g (viewG bb0_1 3 pre0_1 y.2.2.2.1 post0_1), .g (viewG bb0_2 4 pre0_2 y.2.2.2.2.2 post0_2)]) [] (fun y => OL (Rep.int .i64) G y.2.2.2.1 y.2.2.1 ∧ VA a0_1 bb0_1 y.2.2.1.length k0_1 pre0_1 y.2.2.2.1 ∧ y.2.2.1.length = x0_1.length ∧ OL Rep.bool G y.2.2.2.2.2 y.2.2.2.2.1 ∧ VA a0_2 bb0_2 y.2.2.2.2.1.length k0_2 pre0_2 y.2.2.2.2.2 ∧ y.2.2.2.2.1.length = x0_2.length ∧ List.drop y.1 x193 = y.2.1 ∧ cuckoo_placing_first_L1 (cuckoo_placing_first_L2 x0_0 xs194 (i173 + 1)) (i173 : Int) x0_0 y.2.1 y.2.2.1 y.2.2.2.2.1 = some r) (fun y => y.2.1.length) (0, x193, v176, cs177, v182, cs183) ⟨o178, va179, hl180, o184, va185, hl186, rfl, r192⟩ ⟨rfl, rfl, rfl, rfl, rfl, rfl, rfl, rfl, trivial⟩ rfl rfl rfl (fun y hI hb287 => ?_)
    obtain ⟨i271, w272, v274, cs275, v280, cs281⟩ := y
    obtain ⟨o276, va277, hl278, o282, va283, hl284, g273, r286⟩ := hI
    try dsimp only at o276 va277 hl278 o282 va283 hl284 g273 r286
    refine Cov.prune [(19, .int .i64 (i271 : Int)), (12, _), (0, _), (10, _), (11, _), (3, _), (17, _), (18, _)] ⟨rfl, rfl, rfl, rfl, rfl, rfl, rfl, rfl, trivial⟩ ?_
    refine Cov.same (bl' := [(p0, .cells #[.slice a0_0 x0_0.length k0_0, .slice a0_1 v274.length k0_1, .slice a0_2 v280.length k0_2] 71 (0, 0))]) (sl' := [.g (viewG bb0_1 3 pre0_1 cs275 post0_1), .g (viewG bb0_2 4 pre0_2 cs281 post0_2)]) (Fs' := G :: Fs) rfl rfl rfl ?_
    cases w272 with
    | nil =>
      rw [cuckoo_placing_first_L1] at r286; try dsimp only at r286
      refine Cov.seq ?_
      refine Cov.region rfl ?_
      refine Cov.q .ro (.lss rfl rfl) rfl ?_
      refine Cov.region_end ?_
      refine Cov.seq ?_
      refine Cov.cond_dec rfl (fun c => absurd c (drop_nil g273)) (fun _ => ?_)
      refine Cov.exit rfl ?_
      refine Cov.seq ?_
      refine Cov.region rfl ?_
      refine Cov.q .ro (.assign rfl) rfl ?_
      refine Cov.region_end ?_
      cases r286
      refine Cov.retS (c := ⟨41, none⟩) (.inr ⟨_, rfl⟩) [.tmp 2] [_] rfl Try.func41 Try.results41 ⟨RV.tmp rfl, trivial⟩ (fun _ h => List.mem_cons_of_mem _ h) ⟨cs275, cs281, rfl, rfl, rfl, o276, hl278, o282, hl284⟩
    | cons x294 xs295 =>
      have r293 : cuckoo_placing_first_B1 (cuckoo_placing_first_L2 x0_0 xs194 (i173 + 1)) (i173 : Int) x0_0 (cuckoo_placing_first_L1 (cuckoo_placing_first_L2 x0_0 xs194 (i173 + 1)) (i173 : Int) x0_0 xs295) x294 v274 v280 = some r := r286; clear r286; unfold cuckoo_placing_first_B1 at r293; try dsimp only at r293
      refine Cov.seq ?_
      refine Cov.region rfl ?_
      refine Cov.q .ro (.lss rfl rfl) rfl ?_
      refine Cov.region_end ?_
      refine Cov.seq ?_
      refine Cov.cond_dec rfl (fun _ => ?_) (fun c => absurd (drop_lt g273) c)
      refine Cov.skip ?_
      refine Cov.seq ?_
      refine Cov.block ?_
      refine Cov.seq ?_
      refine Cov.region rfl ?_
      obtain ⟨c296, p297, h298⟩ := SlR.get s200 (drop_idx g273)
      obtain rfl := h298
      refine Cov.q .ro (.idxR s200 rfl rfl (drop_idx g273) sl22 ty3.sz) rfl ?_
      refine Cov.q .ro (.load_rp p297 List.mem_cons_self rfl ty3 rfl) rfl ?_
      refine Cov.q .ro (.assign rfl) rfl ?_
      refine Cov.region_end ?_
      refine Cov.seq ?_
      refine Cov.seq ?_
      refine Cov.region rfl ?_
      refine Cov.q .ro (.move rfl) rfl ?_
      refine Cov.q .ro (.nilCheck rfl rfl) rfl ?_
      refine Cov.q .ro (.fieldAddr 2 rfl fl71_2 ty49.sz rfl) rfl ?_
      refine Cov.q .ro (.load_own 0 rfl rfl ty49 rfl) rfl ?_
      refine Cov.q .ro (.move rfl) rfl ?_
      obtain ⟨u299, hu299, r300⟩ := bind_some r293; clear r293
      obtain ⟨c301, p302, h303⟩ := OL.get o282 hu299
      obtain rfl := h303
      refine Cov.q .ro (.idxV 1 rfl va283 o282 rfl rfl hu299 sl49 ty4.sz rfl rfl) rfl ?_
      refine Cov.q .ro (.loadV 1 0 rfl va283 o282 rfl rfl hu299 p302 rfl (.inl ⟨rfl, rfl⟩) ty4 rfl) rfl ?_
      refine Cov.region_end ?_
      refine Cov.cond rfl (fun c304 => ?_) (fun c304 => ?_)
      · have r305 := ifT r300 c304; clear r300
        refine Cov.exit rfl ?_
        refine Cov.region rfl ?_
        refine Cov.q .ro (.addw rfl rfl) rfl ?_
        refine Cov.q .ro (.move rfl) rfl ?_
        refine Cov.region_end ?_
        refine Cov.prune _ ?_ (Cov.same rfl rfl rfl (hb287 ((i271 + 1), xs295, v274, cs275, v280, cs281) ⟨o276, va277, hl278, o282, va283, hl284, (drop_succ g273), r305⟩ (Nat.lt_succ_self _)))
        exact ⟨(congrArg (fun z => some (Value.int .i64 z)) (idx_wrap (SlR.len s200) g273)), rfl, rfl, rfl, rfl, rfl, rfl, rfl, trivial⟩
      · have r306 := ifBF r300 c304; clear r300
        refine Cov.skip ?_
        refine Cov.seq ?_
        refine Cov.drawL (.q 0 (.q 1 (.q 2 (.q 3 (.q 4 (.q 5 (.q 6 (.q 7 (.q 8 (.q 9 (.q 10 (.e 11 1 (.e 12 1 (.e 13 2 (.e 14 2 .nil))))))))))))))) [_] (by kernel_rfl) (by kernel_rfl) (pick_mem [0] rfl) ?_
        refine Cov.dq (.move rfl) rfl ?_
        refine Cov.dq (.nilCheck rfl rfl) rfl ?_
        refine Cov.dq (.fieldAddr 2 rfl fl71_2 ty49.sz rfl) rfl ?_
        refine Cov.dq (.load_own 0 rfl rfl ty49 rfl) rfl ?_
        refine Cov.dq (.move rfl) rfl ?_
        refine Cov.dq (.move rfl) rfl ?_
        refine Cov.dq (.nilCheck rfl rfl) rfl ?_
        refine Cov.dq (.fieldAddr 1 rfl fl71_1 ty22.sz rfl) rfl ?_
        refine Cov.dq (.load_own 0 rfl rfl ty22 rfl) rfl ?_
        refine Cov.dq (.move rfl) rfl ?_
        refine Cov.dq (.move rfl) rfl ?_
        obtain ⟨u307, hu307, r308⟩ := bind_some r306; clear r306
        obtain ⟨c309, p310, h311⟩ := OL.get o282 hu307
        obtain rfl := h311
        refine Cov.q .d1 (.idxV 1 rfl va283 o282 rfl rfl hu307 sl49 ty4.sz rfl rfl) rfl ?_
        refine Cov.clsL (HpLe.refl _) (pick_mem [0] rfl) ?_
        obtain ⟨u312, hu312, r313⟩ := bind_some r308; clear r308
        refine Cov.storeV 1 0 (Q := Rep.bool) .d1 rfl va283 rfl rfl o282 hu312 rfl (.inl ⟨rfl, rfl⟩) rfl ty4 p310 ((Rep.boolI true) :) rfl rfl (fun cs314 hlcs314 o315 va316 => ?_)
        refine Cov.reval 26 hlcs314 rfl ?_
        refine Cov.reval 33 hlcs314 rfl ?_
        refine Cov.recell 0 [_, _, .slice a0_2 u312.length k0_2] rfl (by rw [hlcs314]) [_] rfl ?_
        refine Cov.clsL (HpLe.refl _) (by simp only [hlcs314]; exact pick_mem [0] rfl) ?_
        obtain ⟨u318, hu318, r319⟩ := bind_some r313; clear r313
        obtain ⟨c320, p321, h322⟩ := OL.get o276 hu318
        obtain rfl := h322
        refine Cov.q .d2 (.idxV 0 rfl va277 o276 rfl rfl hu318 sl22 ty3.sz rfl rfl) rfl ?_
        obtain ⟨u323, hu323, r324⟩ := bind_some r319; clear r319
        refine Cov.storeV 0 0 (Q := (Rep.int .i64)) .d2 rfl va277 rfl rfl o276 hu323 rfl (.inl ⟨rfl, rfl⟩) rfl ty3 p321 ((Rep.intI .i64 (i173 : Int)) :) rfl rfl (fun cs325 hlcs325 o326 va327 => ?_)
        refine Cov.reval 38 hlcs325 rfl ?_
        refine Cov.recell 0 [_, .slice a0_1 u323.length k0_1, _] rfl (by rw [hlcs325]) [_] rfl ?_
        refine Cov.draw_end ?_
        refine Cov.prune [(19, _), (12, _), (0, _), (10, _), (11, _), (3, _), (17, _), (18, _), (6, _)] ⟨rfl, rfl, rfl, rfl, rfl, rfl, rfl, rfl, rfl, trivial⟩ ?_
        refine Cov.seq ?_
        refine Cov.seq ?_
        refine Cov.region rfl ?_
        refine Cov.q .ro (.move rfl) rfl ?_
        refine Cov.q .ro (.move rfl) rfl ?_
        refine Cov.q .ro (.addw rfl rfl) rfl ?_
        obtain ⟨u329, hu329, r330⟩ := bind_some r324; clear r324
        refine Cov.pullS 1 rfl [_, _] rfl ?_
        refine Cov.pullS 1 rfl [_, _] rfl ?_
        refine Cov.callS (b1 := [_]) (b2 := []) (s1 := [_, _]) [_, _] [] .ro rfl rfl Try.call53 rfl rfl (cuckoo_placing_rest_c (G := G) List.mem_cons_self s0_0 va327 o326 va316 o315 hu329) rfl (fun v332 bo so h331 => ?_)
        obtain ⟨rfl, rfl, rfl⟩ := h331
        refine Cov.same (bl' := [_]) (sl' := [_, _]) rfl rfl rfl ?_
        refine Cov.region_end ?_
        refine Cov.cond rfl (fun c333 => ?_) (fun c333 => ?_)
        · have r334 := ifT r330 c333; clear r330
          refine Cov.exit rfl ?_
          refine Cov.region rfl ?_
          refine Cov.q .ro (.addw rfl rfl) rfl ?_
          refine Cov.q .ro (.move rfl) rfl ?_
          refine Cov.region_end ?_
          refine Cov.prune _ ?_ (Cov.same rfl rfl rfl (hb189 ((i173 + 1), xs194, u323, cs325, u312, cs314) ⟨o326, va327, (hlcs325.trans hl278), o315, va316, (hlcs314.trans hl284), (drop_succ g175), r334⟩ (Nat.lt_succ_self _)))
          exact ⟨(congrArg (fun z => some (Value.int .i64 z)) (idx_wrap (SlR.len s0_0) g175)), rfl, rfl, rfl, trivial⟩
        · have r335 := ifBF r330 c333; clear r330
          refine Cov.skip ?_
          refine Cov.drawL (.q 0 (.q 1 (.q 2 (.q 3 (.q 4 (.q 5 (.q 6 (.q 7 (.q 8 (.q 9 (.e 10 1 (.e 11 1 (.e 12 2 (.e 13 2 .nil)))))))))))))) [_] (by kernel_rfl) (by kernel_rfl) (pick_mem [0] rfl) ?_
          refine Cov.dq (.move rfl) rfl ?_
          refine Cov.dq (.nilCheck rfl rfl) rfl ?_
          refine Cov.dq (.fieldAddr 2 rfl fl71_2 ty49.sz rfl) rfl ?_
          refine Cov.dq (.load_own 0 rfl rfl ty49 rfl) rfl ?_
          refine Cov.dq (.move rfl) rfl ?_
          refine Cov.dq (.move rfl) rfl ?_
          refine Cov.dq (.nilCheck rfl rfl) rfl ?_
          refine Cov.dq (.fieldAddr 1 rfl fl71_1 ty22.sz rfl) rfl ?_
          refine Cov.dq (.load_own 0 rfl rfl ty22 rfl) rfl ?_
          refine Cov.dq (.move rfl) rfl ?_
          obtain ⟨u336, hu336, r337⟩ := bind_some r335; clear r335
          obtain ⟨c338, p339, h340⟩ := OL.get o315 hu336
          obtain rfl := h340
          refine Cov.q .d1 (.idxV 1 rfl va316 o315 rfl rfl hu336 sl49 ty4.sz rfl rfl) rfl ?_
          refine Cov.clsL (HpLe.refl _) (pick_mem [0] rfl) ?_
          obtain ⟨u341, hu341, r342⟩ := bind_some r337; clear r337
          refine Cov.storeV 1 0 (Q := Rep.bool) .d1 rfl va316 rfl rfl o315 hu341 rfl (.inl ⟨rfl, rfl⟩) rfl ty4 p339 ((Rep.boolI false) :) rfl rfl (fun cs343 hlcs343 o344 va345 => ?_)
          refine Cov.reval 50 hlcs343 rfl ?_
          refine Cov.recell 0 [_, _, .slice a0_2 u341.length k0_2] rfl (by rw [hlcs343]) [_] rfl ?_
          refine Cov.clsL (HpLe.refl _) (by simp only [hlcs343]; exact pick_mem [0] rfl) ?_
          obtain ⟨u347, hu347, r348⟩ := bind_some r342; clear r342
          obtain ⟨c349, p350, h351⟩ := OL.get o326 hu347
          obtain rfl := h351
          refine Cov.q .d2 (.idxV 0 rfl va327 o326 rfl rfl hu347 sl22 ty3.sz rfl rfl) rfl ?_
          obtain ⟨u352, hu352, r353⟩ := bind_some r348; clear r348
          refine Cov.storeV 0 0 (Q := (Rep.int .i64)) .d2 rfl va327 rfl rfl o326 hu352 rfl (.inl ⟨rfl, rfl⟩) rfl ty3 p350 ((Rep.intI .i64 (-1)) :) rfl rfl (fun cs354 hlcs354 o355 va356 => ?_)
          refine Cov.reval 55 hlcs354 rfl ?_
          refine Cov.recell 0 [_, .slice a0_1 u352.length k0_1, _] rfl (by rw [hlcs354]) [_] rfl ?_
          refine Cov.draw_end ?_
          refine Cov.prune [(19, _), (12, _), (0, _), (10, _), (11, _), (3, _), (17, _), (18, _)] ⟨rfl, rfl, rfl, rfl, rfl, rfl, rfl, rfl, trivial⟩ ?_
          refine Cov.inBlock ?_
          refine Cov.region rfl ?_
          refine Cov.q .ro (.addw rfl rfl) rfl ?_
          refine Cov.q .ro (.move rfl) rfl ?_
          refine Cov.region_end ?_
          refine Cov.prune _ ?_ (Cov.same rfl rfl rfl (hb287 ((i271 + 1), xs295, u352, cs354, u341, cs343) ⟨o355, va356, (hlcs354.trans (hlcs325.trans hl278)), o344, va345, (hlcs343.trans (hlcs314.trans hl284)), (drop_succ g273), r353⟩ (Nat.lt_succ_self _)))
          exact ⟨(congrArg (fun z => some (Value.int .i64 z)) (idx_wrap (SlR.len s200) g273)), rfl, rfl, rfl, rfl, rfl, rfl, rfl, trivial⟩

set_option maxHeartbeats 4000000 in
set_option maxRecDepth 100000 in
theorem cuckoo_Assign_c {Fs : List Hp} {G : Hp} {x0_0 : Int} {a0_1 : Option Addr} {k0_1 : Nat} {x0_1 : List (Int × Int)} {a1 : Option Addr} {k1 : Nat} {x1 : List Int} {r : ((List Int) × Int)} (hG : G ∈ Fs) (s0_1 : SlR (Rep.pair (Rep.int .i64) (Rep.int .i64)) G a0_1 k0_1 x0_1) (s1 : SlR (Rep.int .i64) G a1 k1 x1) (h : cuckoo_Assign (x0_0, x0_1) x1 = some r) : RetW Try.prog 17 #[.agg #[.int .i64 x0_0, .slice a0_1 x0_1.length k0_1], .slice a1 x1.length k1] Fs [] [] (fun v bo so G => ∃ a0 : Option Addr, ∃ k0 : Nat, v = .tuple #[.agg #[.slice a0 r.1.length k0], .int .i64 r.2] ∧ bo = [] ∧ so = [] ∧ SlR (Rep.int .i64) G a0 k0 r.1) := by
  unfold cuckoo_Assign at h
  try dsimp only at h
  refine RetW.of (vs := [_, _]) Try.func17 rfl Try.ntmps17 [(0, _), (1, _)] ⟨rfl, rfl, trivial⟩ rfl hG fun w0 S0 hS0 B0 => ?_
  refine Cov.seq ?_
  refine Cov.region rfl ?_
  refine Cov.box [_, _] .ro rfl rfl rfl (fun b1 hb1 => ?_)
  refine Cov.alloc .ro ty43 rfl (fun b2 hb2 => ?_)
  refine Cov.q .ro (.assign rfl) rfl ?_
  refine Cov.region_end ?_
  refine Cov.seq ?_
  refine Cov.seq ?_
  refine Cov.region rfl ?_
  refine Cov.q .ro (.load_own_a 1 [_, _] rfl rfl ty25 rfl) rfl ?_
  refine Cov.q .ro (.move rfl) rfl ?_
  obtain ⟨u3, hu3, r4⟩ := bind_some h; clear h
  refine Cov.callS (b1 := []) (b2 := [_, _]) (s1 := []) [_, _] [] .ro rfl rfl Try.call40 rfl rfl (cuckoo_asked_c (G := G) List.mem_cons_self s0_1 s1 hu3) rfl (fun v6 bo so h5 => ?_)
  obtain ⟨rfl, rfl, rfl⟩ := h5
  refine Cov.same (bl' := [_, _]) (sl' := []) rfl rfl rfl ?_
  refine Cov.q .ro (.assign rfl) rfl ?_
  refine Cov.region_end ?_
  refine Cov.seq ?_
  refine Cov.region rfl ?_
  refine Cov.q .ro (.move rfl) rfl ?_
  refine Cov.q .ro (.neq rfl rfl) rfl ?_
  refine Cov.region_end ?_
  refine Cov.cond_dec rfl (fun c7 => ?_) (fun c7 => ?_)
  · have r8 := ifT r4 c7; clear r4
    refine Cov.seq ?_
    refine Cov.region rfl ?_
    refine Cov.q .ro (.build [_] [] ty43 pl43 rfl rfl) rfl ?_
    refine Cov.q .ro (.move rfl) rfl ?_
    refine Cov.store 0 [_] [_, _] .ro rfl rfl rfl ty43 rfl rfl rfl rfl ?_
    refine Cov.q .ro (.assign rfl) rfl ?_
    refine Cov.region_end ?_
    cases r8
    refine Cov.retWD 2 (c := ⟨17, none⟩) (.inr ⟨_, rfl⟩) [.cell 4 43, .tmp 5] [_, _] rfl Try.func17 Try.results17 ⟨RV.cell_a 0 [_] rfl rfl ty43 rfl, RV.tmp rfl, trivial⟩ (fun _ h => List.mem_cons_of_mem _ h) List.mem_cons_self B0 (by subst hS0; simp [blks]) (fun G' hg => ⟨none, 0, rfl, rfl, rfl, (SlR.mono hg (SlR.nil (Rp' := (Rep.int .i64))))⟩)
  · have r9 := ifF r4 c7; clear r4
    refine Cov.skip ?_
    refine Cov.seq ?_
    refine Cov.seq ?_
    refine Cov.region rfl ?_
    refine Cov.q .ro (.move rfl) rfl ?_
    refine Cov.q .ro (.len_sl rfl rfl sl22) rfl ?_
    refine Cov.q .ro (.fieldAddr 0 rfl fl25_0 ty3.sz rfl) rfl ?_
    refine Cov.q .ro (.load_own 1 rfl rfl ty3 rfl) rfl ?_
    refine Cov.q .ro (.gtr rfl rfl) rfl ?_
    refine Cov.region_end ?_
    refine Cov.cond_dec rfl (fun c10 => ?_) (fun c10 => ?_)
    · have r11 := ifT r9 c10; clear r9
      refine Cov.seq ?_
      refine Cov.region rfl ?_
      refine Cov.q .ro (.build [_] [] ty43 pl43 rfl rfl) rfl ?_
      refine Cov.store 0 [_] [_, _] .ro rfl rfl rfl ty43 rfl rfl rfl rfl ?_
      refine Cov.q .ro (.assign rfl) rfl ?_
      refine Cov.region_end ?_
      refine Cov.prune [(4, _), (5, _)] ⟨rfl, rfl, trivial⟩ ?_
      cases r11
      refine Cov.retWD 2 (c := ⟨17, none⟩) (.inr ⟨_, rfl⟩) [.cell 4 43, .tmp 5] [_, _] rfl Try.func17 Try.results17 ⟨RV.cell_a 0 [_] rfl rfl ty43 rfl, RV.tmp rfl, trivial⟩ (fun _ h => List.mem_cons_of_mem _ h) List.mem_cons_self B0 (by subst hS0; simp [blks]) (fun G' hg => ⟨none, 0, rfl, rfl, rfl, (SlR.mono hg (SlR.nil (Rp' := (Rep.int .i64))))⟩)
    · have r12 := ifF r9 c10; clear r9
      refine Cov.skip ?_
      refine Cov.seq ?_
      refine Cov.region rfl ?_
      refine Cov.q .ro (.load_own_a 1 [_, _] rfl rfl ty25 rfl) rfl ?_
      refine Cov.q .ro (.move rfl) rfl ?_
      obtain ⟨u13, hu13, r14⟩ := bind_some r12; clear r12
      refine Cov.callW (b1 := []) (b2 := [_, _]) (s1 := []) [_, _] [] .ro rfl rfl Try.call37 rfl rfl (cuckoo_start_c (G := G) List.mem_cons_self s0_1 s1 hu13) rfl B0 (fun v16 bo so G17 e18 B19 h15 => ?_)
      obtain ⟨a22, k23, a26, k27, cs28, a31, k32, cs33, b21, rfl, rfl, rfl, s24, o29, o34⟩ := h15
      refine Cov.same (bl' := [_, _, _]) (sl' := [_, _]) rfl rfl rfl ?_
      refine Cov.q .ro (.assign rfl) rfl ?_
      refine Cov.region_end ?_
      refine Cov.prune [(4, _), (7, _)] ⟨rfl, rfl, trivial⟩ ?_
      refine Cov.seq ?_
      refine Cov.seq ?_
      refine Cov.region rfl ?_
      refine Cov.q .ro (.move rfl) rfl ?_
      refine Cov.toV 0 rfl (fun vb35 po36 va37 vb38 => ?_)
      refine Cov.toV 1 rfl (fun vb39 po40 va41 vb42 => ?_)
      obtain ⟨u43, hu43, r44⟩ := bind_some r14; clear r14
      refine Cov.pullS 1 rfl [_, _] rfl ?_
      refine Cov.pullS 1 rfl [_, _] rfl ?_
      refine Cov.callS (b1 := [_]) (b2 := [_, _]) (s1 := [_, _]) [_] [] .ro rfl rfl Try.call41 rfl rfl (cuckoo_placing_first_c (G := G17) List.mem_cons_self s24 va37 o29 va41 o34 hu43) rfl (fun v46 bo so h45 => ?_)
      obtain ⟨cs47, cs50, rfl, rfl, rfl, o48, hl49, o51, hl52⟩ := h45
      refine Cov.same (bl' := [_, _, _]) (sl' := [_, _]) rfl rfl rfl ?_
      refine Cov.ofV 0 rfl vb38 hl49 o48 rfl ?_
      refine Cov.ofV 1 rfl vb42 hl52 o51 rfl ?_
      refine Cov.recell 0 [_, .slice a26 u43.2.1.length k27, _] rfl (by rw [hl49]) [_, _, _] rfl ?_
      refine Cov.recell 0 [_, _, .slice a31 u43.2.2.length k32] rfl (by rw [hl52]) [_, _, _] rfl ?_
      refine Cov.q .ro (.not rfl) rfl ?_
      refine Cov.region_end ?_
      refine Cov.cond rfl (fun c55 => ?_) (fun c55 => ?_)
      · have r56 := ifT r44 c55; clear r44
        refine Cov.seq ?_
        refine Cov.region rfl ?_
        refine Cov.q .ro (.build [_] [] ty43 pl43 rfl rfl) rfl ?_
        refine Cov.store 1 [_] [_, _, _] .ro rfl rfl rfl ty43 rfl rfl rfl rfl ?_
        refine Cov.q .ro (.assign rfl) rfl ?_
        refine Cov.region_end ?_
        cases r56
        refine Cov.drop 0 2 _ [] rfl rfl ?_
        refine Cov.retWD 3 (c := ⟨17, none⟩) (.inr ⟨_, rfl⟩) [.cell 4 43, .tmp 5] [_, _] rfl Try.func17 Try.results17 ⟨RV.cell_a 1 [_] rfl rfl ty43 rfl, RV.tmp rfl, trivial⟩ (fun _ h => List.mem_cons_of_mem _ h) List.mem_cons_self B19 (by subst hS0; simp [blks]) (fun G' hg => ⟨none, 0, rfl, rfl, rfl, (SlR.mono hg (SlR.nil (Rp' := (Rep.int .i64))))⟩)
      · have r57 := ifBF r44 c55; clear r44
        refine Cov.skip ?_
        refine Cov.seq ?_
        refine Cov.region rfl ?_
        refine Cov.q .ro (.move rfl) rfl ?_
        refine Cov.q .ro (.nilCheck rfl rfl) rfl ?_
        refine Cov.q .ro (.fieldAddr 1 rfl fl71_1 ty22.sz rfl) rfl ?_
        refine Cov.q .ro (.load_own 0 rfl rfl ty22 rfl) rfl ?_
        refine Cov.q .ro (.build [_] [(0, _)] ty43 pl43 rfl rfl) rfl ?_
        refine Cov.store 1 [_] [_, _, _] .ro rfl rfl rfl ty43 rfl rfl rfl rfl ?_
        refine Cov.q .ro (.assign rfl) rfl ?_
        refine Cov.region_end ?_
        refine Cov.freezeR 0 rfl rfl o48 [_] rfl B19 (fun G58 e59 B60 s61 => ?_)
        cases r57
        refine Cov.drop 0 1 _ [] rfl rfl ?_
        refine Cov.retWD 3 (c := ⟨17, none⟩) (.inr ⟨_, rfl⟩) [.cell 4 43, .tmp 5] [_, _] rfl Try.func17 Try.results17 ⟨RV.cell_a 1 [_] rfl rfl ty43 rfl, RV.tmp rfl, trivial⟩ (fun _ h => List.mem_cons_of_mem _ h) List.mem_cons_self B60 (by subst hS0; simp [blks]) (fun G' hg => ⟨a26, k27, rfl, rfl, rfl, (SlR.mono hg s61)⟩)

set_option maxHeartbeats 4000000 in
set_option maxRecDepth 100000 in
theorem ref04_Same_c {Fs : List Hp} {G : Hp} {a0 : Option Addr} {k0 : Nat} {x0 : List Int} {a1 : Option Addr} {k1 : Nat} {x1 : List Int} {r : Bool} (hG : G ∈ Fs) (s0 : SlR (Rep.int .i64) G a0 k0 x0) (s1 : SlR (Rep.int .i64) G a1 k1 x1) (h : ref04_Same x0 x1 = some r) : RetS Try.prog 25 #[.slice a0 x0.length k0, .slice a1 x1.length k1] Fs [] [] (fun v bo so => v = .bool r ∧ bo = [] ∧ so = []) := by
  unfold ref04_Same at h
  try dsimp only at h
  refine RetS.of (vs := [_, _]) Try.func25 rfl Try.ntmps25 [(0, _), (1, _)] ⟨rfl, rfl, trivial⟩ rfl hG fun w0 S0 hS0 B0 => ?_
  refine Cov.seq ?_
  refine Cov.region rfl ?_
  refine Cov.q .ro (.assign rfl) rfl ?_
  refine Cov.region_end ?_
  refine Cov.seq ?_
  refine Cov.seq ?_
  refine Cov.region rfl ?_
  refine Cov.q .ro (.move rfl) rfl ?_
  refine Cov.q .ro (.len_sl rfl rfl sl22) rfl ?_
  refine Cov.q .ro (.move rfl) rfl ?_
  refine Cov.q .ro (.len_sl rfl rfl sl22) rfl ?_
  refine Cov.q .ro (.neq rfl rfl) rfl ?_
  refine Cov.region_end ?_
  refine Cov.cond_dec rfl (fun c1 => ?_) (fun c1 => ?_)
  · have r2 := ifT h c1; clear h
    refine Cov.seq ?_
    refine Cov.region rfl ?_
    refine Cov.q .ro (.assign rfl) rfl ?_
    refine Cov.region_end ?_
    cases r2
    refine Cov.retS (c := ⟨25, none⟩) (.inr ⟨_, rfl⟩) [.tmp 4] [_] rfl Try.func25 Try.results25 ⟨RV.tmp rfl, trivial⟩ (fun _ h => List.mem_cons_of_mem _ h) ⟨rfl, rfl, rfl⟩
  · have r3 := ifF h c1; clear h
    refine Cov.skip ?_
    refine Cov.seq ?_
    refine Cov.seq ?_
    refine Cov.region rfl ?_
    refine Cov.q .ro (.move rfl) rfl ?_
    refine Cov.q .ro (.len_sl rfl rfl sl22) rfl ?_
    refine Cov.q .ro (.move rfl) rfl ?_
    refine Cov.region_end ?_
    refine Cov.block ?_
    refine Cov.loop2 (α := Nat × List Int) (fun y => [(13, .int .i64 (y.1 : Int))]) [(0, _), (1, _), (12, _)] (fun y => []) (fun y => []) [] (fun y => []) [] (fun y => List.drop y.1 x0 = y.2 ∧ ref04_Same_L1 x1 y.2 y.1  = some r) (fun y => y.2.length) (0, x0) ⟨rfl, r3⟩ ⟨rfl, rfl, rfl, rfl, trivial⟩ rfl rfl rfl (fun y hI hb27 => ?_)
    obtain ⟨i23, w24⟩ := y
    obtain ⟨g25, r26⟩ := hI
    try dsimp only at g25 r26
    refine Cov.prune [(13, .int .i64 (i23 : Int)), (0, _), (1, _), (12, _)] ⟨rfl, rfl, rfl, rfl, trivial⟩ ?_
    refine Cov.same (bl' := []) (sl' := []) (Fs' := G :: Fs) rfl rfl rfl ?_
    cases w24 with
    | nil =>
      rw [ref04_Same_L1] at r26; try dsimp only at r26
      refine Cov.seq ?_
      refine Cov.region rfl ?_
      refine Cov.q .ro (.lss rfl rfl) rfl ?_
      refine Cov.region_end ?_
      refine Cov.seq ?_
      refine Cov.cond_dec rfl (fun c => absurd c (drop_nil g25)) (fun _ => ?_)
      refine Cov.exit rfl ?_
      refine Cov.seq ?_
      refine Cov.region rfl ?_
      refine Cov.q .ro (.assign rfl) rfl ?_
      refine Cov.region_end ?_
      cases r26
      refine Cov.retS (c := ⟨25, none⟩) (.inr ⟨_, rfl⟩) [.tmp 4] [_] rfl Try.func25 Try.results25 ⟨RV.tmp rfl, trivial⟩ (fun _ h => List.mem_cons_of_mem _ h) ⟨rfl, rfl, rfl⟩
    | cons x32 xs33 =>
      have r31 : ref04_Same_B1 x1 (ref04_Same_L1 x1 xs33 (i23 + 1)) x32 i23  = some r := r26; clear r26; unfold ref04_Same_B1 at r31; try dsimp only at r31
      refine Cov.seq ?_
      refine Cov.region rfl ?_
      refine Cov.q .ro (.lss rfl rfl) rfl ?_
      refine Cov.region_end ?_
      refine Cov.seq ?_
      refine Cov.cond_dec rfl (fun _ => ?_) (fun c => absurd (drop_lt g25) c)
      refine Cov.skip ?_
      refine Cov.seq ?_
      refine Cov.block ?_
      refine Cov.seq ?_
      refine Cov.region rfl ?_
      refine Cov.q .ro (.move rfl) rfl ?_
      refine Cov.q .ro (.assign rfl) rfl ?_
      refine Cov.region_end ?_
      refine Cov.seq ?_
      refine Cov.drawL (.q 0 (.q 1 (.q 2 (.q 3 (.q 4 (.q 5 (.q 6 (.q 7 (.q 8 .nil))))))))) [] (by kernel_rfl) (by kernel_rfl) (pick_mem [] rfl) ?_
      refine Cov.dq (.move rfl) rfl ?_
      refine Cov.dq (.move rfl) rfl ?_
      obtain ⟨c34, p35, h36⟩ := SlR.get s0 (drop_idx g25)
      obtain rfl := h36
      refine Cov.dq (.idxR s0 rfl rfl (drop_idx g25) sl22 ty3.sz) rfl ?_
      refine Cov.dq (.load_rp p35 List.mem_cons_self rfl ty3 rfl) rfl ?_
      refine Cov.dq (.move rfl) rfl ?_
      refine Cov.dq (.move rfl) rfl ?_
      obtain ⟨u37, hu37, r38⟩ := bind_some r31; clear r31
      obtain ⟨c39, p40, h41⟩ := SlR.get s1 hu37
      obtain rfl := h41
      refine Cov.dq (.idxR s1 rfl rfl hu37 sl22 ty3.sz) rfl ?_
      refine Cov.dq (.load_rp p40 List.mem_cons_self rfl ty3 rfl) rfl ?_
      refine Cov.dq (.neq rfl rfl) rfl ?_
      refine Cov.draw_end ?_
      refine Cov.cond_dec rfl (fun c42 => ?_) (fun c42 => ?_)
      · have r43 := ifT r38 c42; clear r38
        refine Cov.seq ?_
        refine Cov.region rfl ?_
        refine Cov.q .ro (.assign rfl) rfl ?_
        refine Cov.region_end ?_
        refine Cov.prune [(4, _)] ⟨rfl, trivial⟩ ?_
        cases r43
        refine Cov.retS (c := ⟨25, none⟩) (.inr ⟨_, rfl⟩) [.tmp 4] [_] rfl Try.func25 Try.results25 ⟨RV.tmp rfl, trivial⟩ (fun _ h => List.mem_cons_of_mem _ h) ⟨rfl, rfl, rfl⟩
      · have r44 := ifF r38 c42; clear r38
        refine Cov.skip ?_
        refine Cov.inBlock ?_
        refine Cov.region rfl ?_
        refine Cov.q .ro (.addw rfl rfl) rfl ?_
        refine Cov.q .ro (.move rfl) rfl ?_
        refine Cov.region_end ?_
        refine Cov.prune [(13, _), (0, _), (1, _), (12, _)] ⟨rfl, rfl, rfl, rfl, trivial⟩ ?_
        refine Cov.prune _ ?_ (Cov.same rfl rfl rfl (hb27 ((i23 + 1), xs33) ⟨(drop_succ g25), r44⟩ (Nat.lt_succ_self _)))
        exact ⟨(congrArg (fun z => some (Value.int .i64 z)) (idx_wrap (SlR.len s0) g25)), rfl, rfl, rfl, trivial⟩

set_option maxHeartbeats 4000000 in
set_option maxRecDepth 100000 in
theorem cuckoo_Layout_c {Fs : List Hp} {G : Hp} {x0_0 : Int} {a0_1 : Option Addr} {k0_1 : Nat} {x0_1 : List (Int × Int)} {x1 : Int} {r : ((List (List Int)) × Int)} (hG : G ∈ Fs) (s0_1 : SlR (Rep.pair (Rep.int .i64) (Rep.int .i64)) G a0_1 k0_1 x0_1) (h : cuckoo_Layout (x0_0, x0_1) x1 = some r) : RetW Try.prog 26 #[.agg #[.int .i64 x0_0, .slice a0_1 x0_1.length k0_1], .int .i64 x1] Fs [] [] (fun v bo so G => ∃ a0 : Option Addr, ∃ k0 : Nat, v = .tuple #[.slice a0 r.1.length k0, .int .i64 r.2] ∧ bo = [] ∧ so = [] ∧ SlR (Rep.sl (Rep.int .i64)) G a0 k0 r.1) := by
  unfold cuckoo_Layout at h
  try dsimp only at h
  refine RetW.of (vs := [_, _]) Try.func26 rfl Try.ntmps26 [(0, _), (1, _)] ⟨rfl, rfl, trivial⟩ rfl hG fun w0 S0 hS0 B0 => ?_
  refine Cov.seq ?_
  refine Cov.region rfl ?_
  refine Cov.box [_, _] .ro rfl rfl rfl (fun b1 hb1 => ?_)
  refine Cov.q .ro (.assign rfl) rfl ?_
  refine Cov.q .ro (.assign rfl) rfl ?_
  refine Cov.region_end ?_
  refine Cov.seq ?_
  refine Cov.seq ?_
  refine Cov.region rfl ?_
  refine Cov.q .ro (.load_own_a 0 [_, _] rfl rfl ty25 rfl) rfl ?_
  obtain ⟨u2, hu2, r3⟩ := bind_some h; clear h
  refine Cov.callS (b1 := []) (b2 := [_]) (s1 := []) [_] [] .ro rfl rfl Try.call22 rfl rfl (cuckoo_Check_c (G := G) List.mem_cons_self s0_1 hu2) rfl (fun v5 bo so h4 => ?_)
  obtain ⟨rfl, rfl, rfl⟩ := h4
  refine Cov.same (bl' := [_]) (sl' := []) rfl rfl rfl ?_
  refine Cov.q .ro (.assign rfl) rfl ?_
  refine Cov.region_end ?_
  refine Cov.seq ?_
  refine Cov.region rfl ?_
  refine Cov.q .ro (.move rfl) rfl ?_
  refine Cov.q .ro (.neq rfl rfl) rfl ?_
  refine Cov.region_end ?_
  refine Cov.cond_dec rfl (fun c6 => ?_) (fun c6 => ?_)
  · have r7 := ifT r3 c6; clear r3
    refine Cov.seq ?_
    refine Cov.region rfl ?_
    refine Cov.q .ro (.move rfl) rfl ?_
    refine Cov.q .ro (.assign rfl) rfl ?_
    refine Cov.q .ro (.assign rfl) rfl ?_
    refine Cov.region_end ?_
    cases r7
    refine Cov.drop 1 0 [] _ rfl rfl ?_
    refine Cov.retW (c := ⟨26, none⟩) (.inr ⟨_, rfl⟩) [.tmp 4, .tmp 5] [_, _] rfl Try.func26 Try.results26 ⟨RV.tmp rfl, RV.tmp rfl, trivial⟩ (fun _ h => List.mem_cons_of_mem _ h) List.mem_cons_self B0 (by subst hS0; simp [blks]) (fun G' hg => ⟨none, 0, rfl, rfl, rfl, (SlR.mono hg (SlR.nil (Rp' := (Rep.sl (Rep.int .i64)))))⟩)
  · have r8 := ifF r3 c6; clear r3
    refine Cov.skip ?_
    refine Cov.seq ?_
    refine Cov.seq ?_
    refine Cov.region rfl ?_
    refine Cov.q .ro (.move rfl) rfl ?_
    refine Cov.q .ro (.lss rfl rfl) rfl ?_
    refine Cov.q .ro (.move rfl) rfl ?_
    refine Cov.cutR 3 (β := Unit) (fun y => [(22, .bool (decide ((x1 < 0) ∨ (1024 < x1))))]) [(1, _), (2, _)] (fun y => G :: Fs) (fun y => []) [_] (fun y => []) [] (fun y => True) ⟨rfl, rfl, trivial⟩ [0] rfl [] rfl ?_ ?_
    · rintro _ _
      refine Cov.prune [(22, .bool (decide ((x1 < 0) ∨ (1024 < x1)))), (1, _), (2, _)] ⟨rfl, rfl, rfl, trivial⟩ ?_
      refine Cov.same (bl' := [_]) (sl' := []) (Fs' := G :: Fs) rfl rfl rfl ?_
      refine Cov.region_end ?_
      refine Cov.cond_dec rfl (fun c13 => ?_) (fun c13 => ?_)
      · have r14 := ifT r8 c13; clear r8
        refine Cov.seq ?_
        refine Cov.region rfl ?_
        refine Cov.q .ro (.assign rfl) rfl ?_
        refine Cov.q .ro (.assign rfl) rfl ?_
        refine Cov.region_end ?_
        cases r14
        refine Cov.drop 1 0 [] _ rfl rfl ?_
        refine Cov.retW (c := ⟨26, none⟩) (.inr ⟨_, rfl⟩) [.tmp 4, .tmp 5] [_, _] rfl Try.func26 Try.results26 ⟨RV.tmp rfl, RV.tmp rfl, trivial⟩ (fun _ h => List.mem_cons_of_mem _ h) List.mem_cons_self B0 (by subst hS0; simp [blks]) (fun G' hg => ⟨none, 0, rfl, rfl, rfl, (SlR.mono hg (SlR.nil (Rp' := (Rep.sl (Rep.int .i64)))))⟩)
      · have r15 := ifF r8 c13; clear r8
        refine Cov.skip ?_
        refine Cov.seq ?_
        refine Cov.region rfl ?_
        refine Cov.q .ro (.fieldAddr 0 rfl fl25_0 ty3.sz rfl) rfl ?_
        refine Cov.q .ro (.load_own 0 rfl rfl ty3 rfl) rfl ?_
        obtain ⟨u16, hu16, r17⟩ := bind_some r15; clear r15
        refine Cov.makeN (G := G) (Q := (Rep.int .i64)) 3 1 .ro sl54 ty22 rfl rfl hu16 rfl rfl (fun b18 es19 cs20 hb18 o21 => ?_)
        refine Cov.q .ro (.assign rfl) rfl ?_
        refine Cov.region_end ?_
        refine Cov.seq ?_
        refine Cov.seq ?_
        refine Cov.region rfl ?_
        refine Cov.q .ro (.move rfl) rfl ?_
        refine Cov.q .ro (.move rfl) rfl ?_
        refine Cov.region_end ?_
        refine Cov.block ?_
        refine Cov.pullS 1 rfl [_, _] rfl ?_
        refine Cov.pullS 1 rfl [_, _] rfl ?_
        refine Cov.loop2 (α := Nat × Hp × Int × List (List Int) × List NE × List Value × Int) (fun y => [(27, .int .i64 y.2.2.1), (7, .slice (some ⟨b18, 0, none⟩) y.2.2.2.1.length u16.length)]) [(2, _), (26, _)] (fun y => [y.2.1]) (fun y => [(b1, .cells #[.int .i64 y.2.2.2.2.2.2, .slice a0_1 x0_1.length k0_1] 25 (0, 0))]) [] (fun y => [.s (.slice (some ⟨b18, 0, none⟩) y.2.2.2.1.length u16.length) 22 1 y.2.2.2.1.length y.2.2.2.2.2.1, .g (packG 3 1 y.2.2.2.2.1)]) [] (fun y => HpLe G y.2.1 ∧ Bd w0 S0 Fs y.2.1 ∧ NL (Rep.int .i64) y.2.1 y.2.2.2.2.1 y.2.2.2.2.2.1 y.2.2.2.1 ∧ y.2.2.2.1.length = u16.length ∧ cuckoo_Layout_L2 x1 x0_1 y.1 y.2.2.1 y.2.2.2.1 y.2.2.2.2.2.2 = some r) (fun y => y.1) (big, G, 0, u16, es19, cs20, x0_0) ⟨(HpLe.refl _), B0, o21, rfl, r17⟩ ⟨rfl, rfl, rfl, rfl, trivial⟩ rfl rfl rfl (fun y hI hb216 => ?_)
        obtain ⟨n200, G202, v206, v207, es208, cs209, v214⟩ := y
        obtain ⟨e203, B204, o210, hl211, r215⟩ := hI
        try dsimp only at e203 B204 o210 hl211 r215
        refine Cov.prune [(27, .int .i64 v206), (7, .slice (some ⟨b18, 0, none⟩) v207.length u16.length), (2, _), (26, _)] ⟨rfl, rfl, rfl, rfl, trivial⟩ ?_
        refine Cov.same (bl' := [(b1, .cells #[.int .i64 v214, .slice a0_1 x0_1.length k0_1] 25 (0, 0))]) (sl' := [.s (.slice (some ⟨b18, 0, none⟩) v207.length u16.length) 22 1 v207.length cs209, .g (packG 3 1 es208)]) (Fs' := G202 :: Fs) rfl rfl rfl ?_
        obtain ⟨m220, rfl⟩ : ∃ m, n200 = m + 1 := by cases n200 with | zero => exact absurd (show (none : Option _) = some _ from r215) (by simp) | succ m => exact ⟨m, rfl⟩
        have r219 : cuckoo_Layout_B2 x1 x0_1 (cuckoo_Layout_L2 x1 x0_1 m220) v206 v207 v214 = some r := r215; clear r215; unfold cuckoo_Layout_B2 at r219; try dsimp only at r219
        refine Cov.seq ?_
        refine Cov.region rfl ?_
        refine Cov.q .ro (.lss rfl rfl) rfl ?_
        refine Cov.region_end ?_
        refine Cov.seq ?_
        refine Cov.cond_dec rfl (fun c221 => ?_) (fun c221 => ?_)
        · have r222 := ifT r219 c221; clear r219
          refine Cov.skip ?_
          refine Cov.seq ?_
          refine Cov.block ?_
          refine Cov.seq ?_
          refine Cov.region rfl ?_
          refine Cov.q .ro (.move rfl) rfl ?_
          refine Cov.q .ro (.assign rfl) rfl ?_
          refine Cov.region_end ?_
          refine Cov.seq ?_
          refine Cov.region rfl ?_
          refine Cov.q .ro (.load_own_a 0 [_, _] rfl rfl ty25 rfl) rfl ?_
          refine Cov.q .ro (.move rfl) rfl ?_
          obtain ⟨u223, hu223, r224⟩ := bind_some r222; clear r222
          refine Cov.callS (b1 := []) (b2 := [_]) (s1 := []) [_, _] [] .ro rfl rfl Try.call43 rfl rfl (cuckoo_homes_c (G := G202) List.mem_cons_self (SlR.mono e203 s0_1) hu223) rfl (fun v226 bo so h225 => ?_)
          obtain ⟨a228, k229, cs230, rfl, rfl, rfl, o231⟩ := h225
          refine Cov.same (bl' := [_]) (sl' := [_, _, _]) rfl rfl rfl ?_
          refine Cov.q .ro (.len_sl rfl rfl sl22) rfl ?_
          refine Cov.q .ro (.move rfl) rfl ?_
          refine Cov.region_end ?_
          refine Cov.block ?_
          refine Cov.pullS 2 rfl [_, _, _] rfl ?_
          refine Cov.pullS 2 rfl [_, _, _] rfl ?_
          refine Cov.loop2 (α := Nat × List Int × Hp × List (List Int) × List NE × List Value) (fun y => [(7, .slice (some ⟨b18, 0, none⟩) y.2.2.2.1.length u16.length), (34, .int .i64 (y.1 : Int))]) [(27, _), (2, _), (26, _), (8, _), (32, _), (33, _)] (fun y => [y.2.2.1]) (fun y => []) [_] (fun y => [.s (.slice (some ⟨b18, 0, none⟩) y.2.2.2.1.length u16.length) 22 1 y.2.2.2.1.length y.2.2.2.2.2, .g (packG 3 1 y.2.2.2.2.1)]) [_] (fun y => HpLe G202 y.2.2.1 ∧ Bd w0 S0 Fs y.2.2.1 ∧ NL (Rep.int .i64) y.2.2.1 y.2.2.2.2.1 y.2.2.2.2.2 y.2.2.2.1 ∧ y.2.2.2.1.length = u16.length ∧ List.drop y.1 u223 = y.2.1 ∧ cuckoo_Layout_L1 (cuckoo_Layout_L2 x1 x0_1 m220) v206 v214 y.2.1 y.2.2.2.1 = some r) (fun y => y.2.1.length) (0, u223, G202, v207, es208, cs209) ⟨(HpLe.refl _), B204, o210, hl211, rfl, r224⟩ ⟨rfl, rfl, rfl, rfl, rfl, rfl, rfl, rfl, trivial⟩ rfl rfl rfl (fun y hI hb317 => ?_)
          obtain ⟨i302, w303, G305, v309, es310, cs311⟩ := y
          obtain ⟨e306, B307, o312, hl313, g304, r316⟩ := hI
          try dsimp only at e306 B307 o312 hl313 g304 r316
          refine Cov.prune [(7, .slice (some ⟨b18, 0, none⟩) v309.length u16.length), (34, .int .i64 (i302 : Int)), (27, _), (2, _), (26, _), (8, _), (32, _), (33, _)] ⟨rfl, rfl, rfl, rfl, rfl, rfl, rfl, rfl, trivial⟩ ?_
          refine Cov.same (bl' := [_]) (sl' := [.s (.slice (some ⟨b18, 0, none⟩) v309.length u16.length) 22 1 v309.length cs311, .g (packG 3 1 es310), _]) (Fs' := G305 :: Fs) rfl rfl rfl ?_
          cases w303 with
          | nil =>
            rw [cuckoo_Layout_L1] at r316; try dsimp only at r316
            refine Cov.seq ?_
            refine Cov.region rfl ?_
            refine Cov.q .ro (.lss rfl rfl) rfl ?_
            refine Cov.region_end ?_
            refine Cov.seq ?_
            refine Cov.cond_dec rfl (fun c => absurd c (drop_nil g304)) (fun _ => ?_)
            refine Cov.exit rfl ?_
            refine Cov.inBlock ?_
            refine Cov.region rfl ?_
            refine Cov.q .ro (.addw rfl rfl) rfl ?_
            refine Cov.q .ro (.move rfl) rfl ?_
            refine Cov.region_end ?_
            refine Cov.pullS 1 rfl [_, _, _] rfl ?_
            refine Cov.pullS 1 rfl [_, _, _] rfl ?_
            refine Cov.pullS 2 rfl [_, _, _] rfl ?_
            refine Cov.drop 0 1 _ [_, _] rfl rfl ?_
            refine Cov.prune _ ?_ (Cov.same rfl rfl rfl (hb216 (m220, G305, (w64 (v206 + 1)), v309, es310, cs311, v214) ⟨(HpLe.trans e203 e306), B307, o312, hl313, r316⟩ (Nat.lt_succ_self _)))
            exact ⟨rfl, rfl, rfl, rfl, trivial⟩
          | cons x325 xs326 =>
            have r324 : cuckoo_Layout_B1 (cuckoo_Layout_L2 x1 x0_1 m220) v206 v214 (cuckoo_Layout_L1 (cuckoo_Layout_L2 x1 x0_1 m220) v206 v214 xs326) x325 v309 = some r := r316; clear r316; unfold cuckoo_Layout_B1 at r324; try dsimp only at r324
            refine Cov.seq ?_
            refine Cov.region rfl ?_
            refine Cov.q .ro (.lss rfl rfl) rfl ?_
            refine Cov.region_end ?_
            refine Cov.seq ?_
            refine Cov.cond_dec rfl (fun _ => ?_) (fun c => absurd (drop_lt g304) c)
            refine Cov.skip ?_
            refine Cov.seq ?_
            refine Cov.block ?_
            refine Cov.seq ?_
            refine Cov.region rfl ?_
            obtain ⟨c327, p328, h329⟩ := OL.get (OL.mono e306 o231) (drop_idx g304)
            obtain rfl := h329
            refine Cov.q .ro (.idxO 2 rfl rfl rfl (drop_idx g304) sl22 ty3.sz) rfl ?_
            refine Cov.q .ro (.loadO 2 0 rfl (drop_idx g304) p328 rfl (.inl ⟨rfl, rfl⟩) ty3 rfl) rfl ?_
            refine Cov.q .ro (.assign rfl) rfl ?_
            refine Cov.region_end ?_
            refine Cov.seq ?_
            refine Cov.region rfl ?_
            refine Cov.q .ro (.move rfl) rfl ?_
            refine Cov.q .ro (.move rfl) rfl ?_
            obtain ⟨u330, hu330, r331⟩ := bind_some r324; clear r324
            obtain ⟨e332, he333, hn334, ho335, p336⟩ := NL.get o312 hu330
            refine Cov.q .ro (.idxO 0 rfl rfl rfl hu330 sl54 ty22.sz) rfl ?_
            refine Cov.q .ro (.loadO 0 0 rfl hu330 p336 rfl (.inl ⟨rfl, rfl⟩) ty22 rfl) rfl ?_
            refine Cov.q .ro (.assign rfl) rfl ?_
            refine Cov.region_end ?_
            refine Cov.seq ?_
            refine Cov.region rfl ?_
            refine Cov.q .ro (.move rfl) rfl ?_
            refine Cov.q .ro (.len_sl rfl rfl sl22) rfl ?_
            refine Cov.q .ro (.eql rfl rfl) rfl ?_
            refine Cov.q .ro (.move rfl) rfl ?_
            obtain ⟨u344, h345, r346⟩ := bind_some r331; clear r331
            refine Cov.cutR 9 (β := Unit) (fun y => [(54, .bool u344)]) [(7, _), (34, _), (27, _), (2, _), (26, _), (8, _), (32, _), (33, _), (10, _), (11, _)] (fun y => G305 :: Fs) (fun y => []) [_] (fun y => []) [_, _, _] (fun y => True) ⟨rfl, rfl, rfl, rfl, rfl, rfl, rfl, rfl, rfl, rfl, trivial⟩ [0] rfl [0, 1, 2] rfl ?_ ?_
            · rintro _ _
              refine Cov.prune [(54, .bool u344), (7, _), (34, _), (27, _), (2, _), (26, _), (8, _), (32, _), (33, _), (10, _), (11, _)] ⟨rfl, rfl, rfl, rfl, rfl, rfl, rfl, rfl, rfl, rfl, rfl, trivial⟩ ?_
              refine Cov.same (bl' := [_]) (sl' := [_, _, _]) (Fs' := G305 :: Fs) rfl rfl rfl ?_
              refine Cov.region_end ?_
              refine Cov.cond rfl (fun c349 => ?_) (fun c349 => ?_)
              · have r350 := ifT r346 c349; clear r346
                refine Cov.region rfl ?_
                refine Cov.q .ro (.move rfl) rfl ?_
                refine Cov.q .ro (.move rfl) rfl ?_
                refine Cov.q .ro (.move rfl) rfl ?_
                refine Cov.q .ro (.move rfl) rfl ?_
                refine Cov.lit [_] [(0, _)] .ro sl22 ty3 rfl rfl rfl rfl rfl rfl (fun b351 hb351 => ?_)
                have o352 : OL (Rep.int .i64) G305 [.int .i64 v206] ([v206] : List Int) := ((OL.cons rfl (Rep.intI .i64 v206) (OL.nil (Rp' := (Rep.int .i64)))) :)
                refine Cov.reval 59 (n' := ([v206] : List Int).length) rfl rfl ?_
                refine Cov.freezeR 0 rfl rfl o352 [_, _, _] rfl B307 (fun G354 e355 B356 s357 => ?_)
                refine Cov.takeN 1 rfl he333 hn334 ?_
                obtain ⟨u364, hu364, r365⟩ := bind_some r350; clear r350
                refine Cov.appR (Q := (Rep.int .i64)) 0 .ro sl22 ty3 rfl rfl rfl rfl rfl (OL.mono e355 ho335) rfl rfl s357 rfl List.mem_cons_self hu364 rfl (fun a360 k361 cs362 o363 => ?_)
                obtain ⟨u367, hu367, r368⟩ := bind_some r365; clear r365
                obtain ⟨e369, he370, hn371, ho372, p373⟩ := NL.get (NL.mono e355 o312) hu367
                refine Cov.q .ro (.idxO 1 rfl rfl rfl hu367 sl54 ty22.sz) rfl ?_
                obtain ⟨u374, hu374, r375⟩ := bind_some r368; clear r368
                refine Cov.storeN 0 1 (Q := (Rep.int .i64)) .ro rfl rfl rfl (NL.mono e355 o312) he333 o363 hu374 rfl (.inl ⟨rfl, rfl⟩) rfl ty22 rfl (fun es376 cs377 hlcs377 o378 => ?_)
                refine Cov.reval 7 hlcs377 rfl ?_
                refine Cov.reval 55 hlcs377 rfl ?_
                refine Cov.region_end ?_
                refine Cov.inBlock ?_
                refine Cov.region rfl ?_
                refine Cov.q .ro (.addw rfl rfl) rfl ?_
                refine Cov.q .ro (.move rfl) rfl ?_
                refine Cov.region_end ?_
                refine Cov.prune _ ?_ (Cov.same rfl rfl rfl (hb317 ((i302 + 1), xs326, G354, u374, es376, cs377) ⟨(HpLe.trans e306 e355), B356, o378, (hlcs377.trans hl313), (drop_succ g304), r375⟩ (Nat.lt_succ_self _)))
                exact ⟨rfl, (congrArg (fun z => some (Value.int .i64 z)) (idx_wrap (OL.len' o231) g304)), rfl, rfl, rfl, rfl, rfl, rfl, trivial⟩
              · have r380 := ifBF r346 c349; clear r346
                refine Cov.skip ?_
                refine Cov.inBlock ?_
                refine Cov.region rfl ?_
                refine Cov.q .ro (.addw rfl rfl) rfl ?_
                refine Cov.q .ro (.move rfl) rfl ?_
                refine Cov.region_end ?_
                refine Cov.prune _ ?_ (Cov.same rfl rfl rfl (hb317 ((i302 + 1), xs326, G305, v309, es310, cs311) ⟨e306, B307, o312, hl313, (drop_succ g304), r380⟩ (Nat.lt_succ_self _)))
                exact ⟨rfl, (congrArg (fun z => some (Value.int .i64 z)) (idx_wrap (OL.len' o231) g304)), rfl, rfl, rfl, rfl, rfl, rfl, trivial⟩
            · intro hb343
              refine Cov.split 45 rfl (fun c342 => ?_) (fun c342 => ?_)
              · have r381 := ifT h345 c342
                refine Cov.g_off rfl rfl rfl ?_
                refine Cov.g_off rfl rfl rfl ?_
                refine Cov.g_off rfl rfl rfl ?_
                refine Cov.g_off rfl rfl rfl ?_
                refine Cov.g_off rfl rfl rfl ?_
                refine Cov.g_off rfl rfl rfl ?_
                refine Cov.g_off rfl rfl rfl ?_
                refine Cov.g_off rfl rfl rfl ?_
                refine Cov.q .ro (.pick_t rfl rfl) rfl ?_
                refine Cov.prune _ ?_ (Cov.same rfl rfl rfl (hb343 () trivial))
                exact ⟨sval r381, rfl, rfl, rfl, rfl, rfl, rfl, rfl, rfl, rfl, rfl, trivial⟩
              · have r382 := ifF h345 c342
                refine Cov.g_on rfl ?_
                refine Cov.q .ro (.move rfl) rfl ?_
                refine Cov.g_on rfl ?_
                refine Cov.q .ro (.move rfl) rfl ?_
                refine Cov.g_on rfl ?_
                refine Cov.q .ro (.len_sl rfl rfl sl22) rfl ?_
                refine Cov.g_on rfl ?_
                refine Cov.q .ro (.subw rfl rfl) rfl ?_
                refine Cov.g_on rfl ?_
                obtain ⟨u383, hu383, r384⟩ := bind_some r382; clear r382
                obtain ⟨c385, p386, h387⟩ := OL.get ho335 hu383
                obtain rfl := h387
                refine Cov.q .ro (.inN 1 rfl he333 hn334 (.idxO (l := u330) 0 rfl rfl rfl hu383 sl22 ty3.sz)) rfl ?_
                refine Cov.g_on rfl ?_
                refine Cov.q .ro (.inN 1 rfl he333 hn334 (.loadO (l := u330) 0 0 rfl hu383 p386 rfl (.inl ⟨rfl, rfl⟩) ty3 rfl)) rfl ?_
                refine Cov.g_on rfl ?_
                refine Cov.q .ro (.move rfl) rfl ?_
                refine Cov.g_on rfl ?_
                refine Cov.q .ro (.neq rfl rfl) rfl ?_
                refine Cov.q .ro (.pick_f rfl rfl) rfl ?_
                refine Cov.prune _ ?_ (Cov.same rfl rfl rfl (hb343 () trivial))
                exact ⟨sval r384, rfl, rfl, rfl, rfl, rfl, rfl, rfl, rfl, rfl, rfl, trivial⟩
        · have r388 := ifF r219 c221; clear r219
          refine Cov.exit rfl ?_
          refine Cov.seq ?_
          refine Cov.region rfl ?_
          refine Cov.q .ro (.move rfl) rfl ?_
          refine Cov.q .ro (.assign rfl) rfl ?_
          refine Cov.q .ro (.assign rfl) rfl ?_
          refine Cov.region_end ?_
          refine Cov.pullS 1 rfl [_, _] rfl ?_
          refine Cov.pullS 1 rfl [_, _] rfl ?_
          refine Cov.freezeN (Q := (Rep.int .i64)) rfl o210 rfl B204 (fun G389 e390 B391 s392 => ?_)
          cases r388
          refine Cov.drop 1 0 [] _ rfl rfl ?_
          refine Cov.retW (c := ⟨26, none⟩) (.inr ⟨_, rfl⟩) [.tmp 4, .tmp 5] [_, _] rfl Try.func26 Try.results26 ⟨RV.tmp rfl, RV.tmp rfl, trivial⟩ (fun _ h => List.mem_cons_of_mem _ h) List.mem_cons_self B391 (by subst hS0; simp [blks]) (fun G' hg => ⟨(some ⟨b18, 0, none⟩), u16.length, rfl, rfl, rfl, (SlR.mono hg s392)⟩)
    · intro hb10
      refine Cov.split 19 rfl (fun c9 => ?_) (fun c9 => ?_)
      · refine Cov.g_off rfl rfl rfl ?_
        refine Cov.g_off rfl rfl rfl ?_
        refine Cov.q .ro (.pick_t rfl rfl) rfl ?_
        refine Cov.prune _ ?_ (Cov.same rfl rfl rfl (hb10 () trivial))
        exact ⟨dor_t c9, rfl, rfl, trivial⟩
      · refine Cov.g_on rfl ?_
        refine Cov.q .ro (.move rfl) rfl ?_
        refine Cov.g_on rfl ?_
        refine Cov.q .ro (.gtr rfl rfl) rfl ?_
        refine Cov.q .ro (.pick_f rfl rfl) rfl ?_
        refine Cov.prune _ ?_ (Cov.same rfl rfl rfl (hb10 () trivial))
        exact ⟨dor_f c9, rfl, rfl, trivial⟩

set_option maxHeartbeats 4000000 in
set_option maxRecDepth 100000 in
theorem ref04_SameRows_c {Fs : List Hp} {G : Hp} {a0 : Option Addr} {k0 : Nat} {x0 : List (List Int)} {a1 : Option Addr} {k1 : Nat} {x1 : List (List Int)} {r : Bool} (hG : G ∈ Fs) (s0 : SlR (Rep.sl (Rep.int .i64)) G a0 k0 x0) (s1 : SlR (Rep.sl (Rep.int .i64)) G a1 k1 x1) (h : ref04_SameRows x0 x1 = some r) : RetS Try.prog 28 #[.slice a0 x0.length k0, .slice a1 x1.length k1] Fs [] [] (fun v bo so => v = .bool r ∧ bo = [] ∧ so = []) := by
  unfold ref04_SameRows at h
  try dsimp only at h
  refine RetS.of (vs := [_, _]) Try.func28 rfl Try.ntmps28 [(0, _), (1, _)] ⟨rfl, rfl, trivial⟩ rfl hG fun w0 S0 hS0 B0 => ?_
  refine Cov.seq ?_
  refine Cov.region rfl ?_
  refine Cov.q .ro (.assign rfl) rfl ?_
  refine Cov.region_end ?_
  refine Cov.seq ?_
  refine Cov.seq ?_
  refine Cov.region rfl ?_
  refine Cov.q .ro (.move rfl) rfl ?_
  refine Cov.q .ro (.len_sl rfl rfl sl54) rfl ?_
  refine Cov.q .ro (.move rfl) rfl ?_
  refine Cov.q .ro (.len_sl rfl rfl sl54) rfl ?_
  refine Cov.q .ro (.neq rfl rfl) rfl ?_
  refine Cov.region_end ?_
  refine Cov.cond_dec rfl (fun c1 => ?_) (fun c1 => ?_)
  · have r2 := ifT h c1; clear h
    refine Cov.seq ?_
    refine Cov.region rfl ?_
    refine Cov.q .ro (.assign rfl) rfl ?_
    refine Cov.region_end ?_
    cases r2
    refine Cov.retS (c := ⟨28, none⟩) (.inr ⟨_, rfl⟩) [.tmp 4] [_] rfl Try.func28 Try.results28 ⟨RV.tmp rfl, trivial⟩ (fun _ h => List.mem_cons_of_mem _ h) ⟨rfl, rfl, rfl⟩
  · have r3 := ifF h c1; clear h
    refine Cov.skip ?_
    refine Cov.seq ?_
    refine Cov.seq ?_
    refine Cov.region rfl ?_
    refine Cov.q .ro (.move rfl) rfl ?_
    refine Cov.q .ro (.len_sl rfl rfl sl54) rfl ?_
    refine Cov.q .ro (.move rfl) rfl ?_
    refine Cov.region_end ?_
    refine Cov.block ?_
    refine Cov.loop2 (α := Nat × List (List Int)) (fun y => [(13, .int .i64 (y.1 : Int))]) [(0, _), (1, _), (12, _)] (fun y => []) (fun y => []) [] (fun y => []) [] (fun y => List.drop y.1 x0 = y.2 ∧ ref04_SameRows_L1 x1 y.2 y.1  = some r) (fun y => y.2.length) (0, x0) ⟨rfl, r3⟩ ⟨rfl, rfl, rfl, rfl, trivial⟩ rfl rfl rfl (fun y hI hb37 => ?_)
    obtain ⟨i33, w34⟩ := y
    obtain ⟨g35, r36⟩ := hI
    try dsimp only at g35 r36
    refine Cov.prune [(13, .int .i64 (i33 : Int)), (0, _), (1, _), (12, _)] ⟨rfl, rfl, rfl, rfl, trivial⟩ ?_
    refine Cov.same (bl' := []) (sl' := []) (Fs' := G :: Fs) rfl rfl rfl ?_
    cases w34 with
    | nil =>
      rw [ref04_SameRows_L1] at r36; try dsimp only at r36
      refine Cov.seq ?_
      refine Cov.region rfl ?_
      refine Cov.q .ro (.lss rfl rfl) rfl ?_
      refine Cov.region_end ?_
      refine Cov.seq ?_
      refine Cov.cond_dec rfl (fun c => absurd c (drop_nil g35)) (fun _ => ?_)
      refine Cov.exit rfl ?_
      refine Cov.seq ?_
      refine Cov.region rfl ?_
      refine Cov.q .ro (.assign rfl) rfl ?_
      refine Cov.region_end ?_
      cases r36
      refine Cov.retS (c := ⟨28, none⟩) (.inr ⟨_, rfl⟩) [.tmp 4] [_] rfl Try.func28 Try.results28 ⟨RV.tmp rfl, trivial⟩ (fun _ h => List.mem_cons_of_mem _ h) ⟨rfl, rfl, rfl⟩
    | cons x42 xs43 =>
      have r41 : ref04_SameRows_B1 x1 (ref04_SameRows_L1 x1 xs43 (i33 + 1)) x42 i33  = some r := r36; clear r36; unfold ref04_SameRows_B1 at r41; try dsimp only at r41
      refine Cov.seq ?_
      refine Cov.region rfl ?_
      refine Cov.q .ro (.lss rfl rfl) rfl ?_
      refine Cov.region_end ?_
      refine Cov.seq ?_
      refine Cov.cond_dec rfl (fun _ => ?_) (fun c => absurd (drop_lt g35) c)
      refine Cov.skip ?_
      refine Cov.seq ?_
      refine Cov.block ?_
      refine Cov.seq ?_
      refine Cov.region rfl ?_
      refine Cov.q .ro (.move rfl) rfl ?_
      refine Cov.q .ro (.assign rfl) rfl ?_
      refine Cov.region_end ?_
      refine Cov.seq ?_
      refine Cov.drawL (.q 0 (.q 1 (.q 2 (.q 3 (.q 4 (.q 5 (.q 6 (.q 7 (.e 8 1 (.q 9 .nil)))))))))) [] (by kernel_rfl) (by kernel_rfl) (pick_mem [] rfl) ?_
      refine Cov.dq (.move rfl) rfl ?_
      refine Cov.dq (.move rfl) rfl ?_
      obtain ⟨c44, p45, h46⟩ := SlR.get s0 (drop_idx g35)
      obtain ⟨a47, k48, rfl, s49⟩ := h46
      refine Cov.dq (.idxR s0 rfl rfl (drop_idx g35) sl54 ty22.sz) rfl ?_
      refine Cov.dq (.load_rp p45 List.mem_cons_self rfl ty22 rfl) rfl ?_
      refine Cov.dq (.move rfl) rfl ?_
      refine Cov.dq (.move rfl) rfl ?_
      obtain ⟨u50, hu50, r51⟩ := bind_some r41; clear r41
      obtain ⟨c52, p53, h54⟩ := SlR.get s1 hu50
      obtain ⟨a55, k56, rfl, s57⟩ := h54
      refine Cov.dq (.idxR s1 rfl rfl hu50 sl54 ty22.sz) rfl ?_
      refine Cov.dq (.load_rp p53 List.mem_cons_self rfl ty22 rfl) rfl ?_
      obtain ⟨u58, hu58, r59⟩ := bind_some r51; clear r51
      refine Cov.callS (b1 := []) (b2 := []) (s1 := []) [_, _] [] .d1 rfl rfl Try.call25 rfl rfl (ref04_Same_c (G := G) List.mem_cons_self s49 s57 hu58) rfl (fun v61 bo so h60 => ?_)
      obtain ⟨rfl, rfl, rfl⟩ := h60
      refine Cov.same (bl' := []) (sl' := []) rfl rfl rfl ?_
      refine Cov.clsL (HpLe.refl _) (pick_mem [] rfl) ?_
      refine Cov.dq (.not rfl) rfl ?_
      refine Cov.draw_end ?_
      refine Cov.cond rfl (fun c62 => ?_) (fun c62 => ?_)
      · have r63 := ifT r59 c62; clear r59
        refine Cov.seq ?_
        refine Cov.region rfl ?_
        refine Cov.q .ro (.assign rfl) rfl ?_
        refine Cov.region_end ?_
        refine Cov.prune [(4, _)] ⟨rfl, trivial⟩ ?_
        cases r63
        refine Cov.retS (c := ⟨28, none⟩) (.inr ⟨_, rfl⟩) [.tmp 4] [_] rfl Try.func28 Try.results28 ⟨RV.tmp rfl, trivial⟩ (fun _ h => List.mem_cons_of_mem _ h) ⟨rfl, rfl, rfl⟩
      · have r64 := ifBF r59 c62; clear r59
        refine Cov.skip ?_
        refine Cov.inBlock ?_
        refine Cov.region rfl ?_
        refine Cov.q .ro (.addw rfl rfl) rfl ?_
        refine Cov.q .ro (.move rfl) rfl ?_
        refine Cov.region_end ?_
        refine Cov.prune [(13, _), (0, _), (1, _), (12, _)] ⟨rfl, rfl, rfl, rfl, trivial⟩ ?_
        refine Cov.prune _ ?_ (Cov.same rfl rfl rfl (hb37 ((i33 + 1), xs43) ⟨(drop_succ g35), r64⟩ (Nat.lt_succ_self _)))
        exact ⟨(congrArg (fun z => some (Value.int .i64 z)) (idx_wrap (SlR.len s0) g35)), rfl, rfl, rfl, trivial⟩

end Go.Proofs.Ytbhmhindommaeaa
