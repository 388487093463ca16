/- The walks. Printed by wip/lift/drive.py. -/
import Derived.Test.YthgmcgldmahgeaaW3
namespace Go.Proofs.Ythgmcgldmahgeaa
open Go.RowKit
set_option linter.unusedSimpArgs false
set_option linter.unusedVariables false
set_option synthInstance.maxSize 2000
set_option synthInstance.maxHeartbeats 400000

set_option maxHeartbeats 4000000 in
set_option maxRecDepth 100000 in
theorem law13_LayoutMore_c {Fs : List Hp} {G : Hp} {a0 : Option Addr} {k0 : Nat} {x0 : List Int} {x1 : ByteArray} {r : Bool} (hG : G ∈ Fs) (s0 : SlR (Rep.int .i64) G a0 k0 x0) (h : law13_LayoutMore x0 x1 = some r) : RetS Try.prog 6 #[.slice a0 x0.length k0, .string x1] Fs [] [] (fun v bo so => v = .bool r ∧ bo = [] ∧ so = []) := by
  unfold law13_LayoutMore at h
  try dsimp only at h
  refine RetS.of (vs := [_, _]) Try.func6 rfl Try.ntmps6 [(0, _), (1, _)] ⟨rfl, rfl, trivial⟩ rfl hG fun w0 S0 hS0 B0 => ?_
  refine Cov.seq ?_
  refine Cov.region rfl ?_
  refine Cov.q .ro (.assign rfl) rfl ?_
  refine Cov.region_end ?_
  refine Cov.seq ?_
  refine Cov.seq ?_
  refine Cov.region rfl ?_
  obtain ⟨u1, hu1, r2⟩ := bind_some h; clear h
  refine Cov.callS (b1 := []) (b2 := []) (s1 := []) [] [] .ro rfl rfl Try.call10 rfl rfl (law13_sane_c (G := G) List.mem_cons_self  hu1) rfl (fun v4 bo so h3 => ?_)
  obtain ⟨rfl, rfl, rfl⟩ := h3
  refine Cov.same (bl' := []) (sl' := []) rfl rfl rfl ?_
  refine Cov.q .ro (.not rfl) rfl ?_
  refine Cov.region_end ?_
  refine Cov.cond rfl (fun c5 => ?_) (fun c5 => ?_)
  · have r6 := ifT r2 c5; clear r2
    refine Cov.seq ?_
    refine Cov.region rfl ?_
    refine Cov.q .ro (.assign rfl) rfl ?_
    refine Cov.region_end ?_
    cases r6
    refine Cov.retS (c := ⟨6, none⟩) (.inr ⟨_, rfl⟩) [.tmp 4] [_] rfl Try.func6 Try.results6 ⟨RV.tmp rfl, trivial⟩ (fun _ h => List.mem_cons_of_mem _ h) ⟨rfl, rfl, rfl⟩
  · have r7 := ifBF r2 c5; clear r2
    refine Cov.skip ?_
    refine Cov.seq ?_
    refine Cov.seq ?_
    refine Cov.region rfl ?_
    refine Cov.q .ro (.move rfl) rfl ?_
    obtain ⟨u8, hu8, r9⟩ := bind_some r7; clear r7
    refine Cov.callS (b1 := []) (b2 := []) (s1 := []) [_] [] .ro rfl rfl Try.call11 rfl rfl (make_Few_c (G := G) List.mem_cons_self s0 hu8) rfl (fun v11 bo so h10 => ?_)
    obtain ⟨rfl, rfl, rfl⟩ := h10
    refine Cov.same (bl' := []) (sl' := []) rfl rfl rfl ?_
    refine Cov.q .ro (.not rfl) rfl ?_
    refine Cov.q .ro (.move rfl) rfl ?_
    refine Cov.cutR 4 (β := Unit) (fun y => [(26, .bool (decide (((!u8) = true) ∨ (40 < (x1.size : Int)))))]) [(0, _), (1, _)] (fun y => G :: Fs) (fun y => []) [] (fun y => []) [] (fun y => True) ⟨rfl, rfl, trivial⟩ [] rfl [] rfl ?_ ?_
    · rintro _ _
      refine Cov.prune [(26, .bool (decide (((!u8) = true) ∨ (40 < (x1.size : Int))))), (0, _), (1, _)] ⟨rfl, rfl, rfl, trivial⟩ ?_
      refine Cov.same (bl' := []) (sl' := []) (Fs' := G :: Fs) rfl rfl rfl ?_
      refine Cov.region_end ?_
      refine Cov.cond_dec rfl (fun c16 => ?_) (fun c16 => ?_)
      · have r17 := ifT r9 c16; clear r9
        refine Cov.seq ?_
        refine Cov.region rfl ?_
        refine Cov.q .ro (.assign rfl) rfl ?_
        refine Cov.region_end ?_
        cases r17
        refine Cov.retS (c := ⟨6, none⟩) (.inr ⟨_, rfl⟩) [.tmp 4] [_] rfl Try.func6 Try.results6 ⟨RV.tmp rfl, trivial⟩ (fun _ h => List.mem_cons_of_mem _ h) ⟨rfl, rfl, rfl⟩
      · have r18 := ifF r9 c16; clear r9
        refine Cov.skip ?_
        refine Cov.seq ?_
        refine Cov.region rfl ?_
        refine Cov.q .ro (.move rfl) rfl ?_
        obtain ⟨u19, hu19, r20⟩ := bind_some r18; clear r18
        refine Cov.callS (b1 := []) (b2 := []) (s1 := []) [_] [] .ro rfl rfl Try.call13 rfl rfl (make_New_c (G := G) List.mem_cons_self s0 hu19) rfl (fun v22 bo so h21 => ?_)
        obtain ⟨a24, k25, b23, rfl, rfl, rfl, s26⟩ := h21
        refine Cov.same (bl' := [_]) (sl' := []) rfl rfl rfl ?_
        obtain ⟨u27, hu27, r28⟩ := bind_some r20; clear r20
        refine Cov.callW (b1 := [_]) (b2 := []) (s1 := []) [_] [] .ro rfl rfl Try.call14 rfl rfl (make_Laid_c (G := G) List.mem_cons_self s26 hu27) rfl B0 (fun v30 bo so G31 e32 B33 h29 => ?_)
        obtain ⟨a35, k36, a38, k39, a41, k42, a44, k45, rfl, rfl, rfl, s37, s40, s43, s46⟩ := h29
        refine Cov.same (bl' := [_]) (sl' := []) rfl rfl rfl ?_
        refine Cov.q .ro (.move rfl) rfl ?_
        refine Cov.q .ro (.extract rfl rfl) rfl ?_
        refine Cov.q .ro (.extract rfl rfl) rfl ?_
        refine Cov.q .ro (.extract rfl rfl) rfl ?_
        refine Cov.q .ro (.extract rfl rfl) rfl ?_
        refine Cov.alloc .ro ty24 rfl (fun b47 hb47 => ?_)
        refine Cov.alloc .ro ty34 rfl (fun b48 hb48 => ?_)
        refine Cov.store 1 [_] [_, _, _] .ro rfl rfl rfl ty24 rfl rfl rfl rfl ?_
        refine Cov.q .ro (.assign rfl) rfl ?_
        refine Cov.q .ro (.assign rfl) rfl ?_
        refine Cov.store 0 [_, _] [_, _, _] .ro rfl rfl rfl ty34 rfl rfl rfl rfl ?_
        refine Cov.region_end ?_
        refine Cov.seq ?_
        refine Cov.seq ?_
        refine Cov.region rfl ?_
        refine Cov.q .ro (.fieldAddr 0 rfl fl34_0 ty3.sz rfl) rfl ?_
        refine Cov.q .ro (.load_own 0 rfl rfl ty3 rfl) rfl ?_
        refine Cov.q .ro (.eql rfl rfl) rfl ?_
        refine Cov.region_end ?_
        refine Cov.cond_dec rfl (fun c49 => ?_) (fun c49 => ?_)
        · have r50 := ifT r28 c49; clear r28
          refine Cov.seq ?_
          refine Cov.region rfl ?_
          refine Cov.q .ro (.assign rfl) rfl ?_
          refine Cov.region_end ?_
          refine Cov.prune [(4, _)] ⟨rfl, trivial⟩ ?_
          cases r50
          refine Cov.drop 3 0 [] _ rfl rfl ?_
          refine Cov.retS (c := ⟨6, none⟩) (.inr ⟨_, rfl⟩) [.tmp 4] [_] rfl Try.func6 Try.results6 ⟨RV.tmp rfl, trivial⟩ (fun _ h => List.mem_cons_of_mem _ h) ⟨rfl, rfl, rfl⟩
        · have r51 := ifF r28 c49; clear r28
          refine Cov.skip ?_
          refine Cov.seq ?_
          refine Cov.cutG (β := Hp × Nat × Int × (List (Int × Int × Int)) × Option Addr × Nat × List (List Int) × Option Addr × Nat × Int) (fun y => [(10, .pointer (some ⟨y.2.1, 0, none⟩)), (9, .slice y.2.2.2.2.2.2.2.1 y.2.2.2.2.2.2.1.length y.2.2.2.2.2.2.2.2.1), (11, .int .i64 y.2.2.2.2.2.2.2.2.2)]) [(1, _), (5, _), (8, _), (6, _), (7, _)] (fun y => y.1 :: Fs) (fun y => [(y.2.1, .cells #[.int .i64 y.2.2.1, .slice y.2.2.2.2.1 y.2.2.2.1.length y.2.2.2.2.2.1] 34 (0, 0))]) [_, _, _] (fun y => []) [] (fun y => HpLe G31 y.1 ∧ Bd w0 S0 Fs y.1 ∧ SlR (Rep.pair (Rep.int .i64) (Rep.pair (Rep.int .i64) (Rep.int .i64))) y.1 y.2.2.2.2.1 y.2.2.2.2.2.1 y.2.2.2.1 ∧ SlR (Rep.sl (Rep.int .i64)) y.1 y.2.2.2.2.2.2.2.1 y.2.2.2.2.2.2.2.2.1 y.2.2.2.2.2.2.1 ∧ (law13_LayoutMore_J3 x1 u27.2.1 u27.2.2.1 u27.2.2.2.1.1 u27.2.2.2.1.2 u27.1 u27.2.2.2.2.2) y.2.2.1 y.2.2.2.1 y.2.2.2.2.2.2.1 y.2.2.2.2.2.2.2.2.2 = some r) ⟨rfl, rfl, rfl, rfl, rfl, trivial⟩ [0, 1, 2] rfl [] rfl ?_ ?_
          · intro y hI
            obtain ⟨G4101, b4105, v4106, v4107, a4108, k4109, v4111, a4112, k4113, v4115⟩ := y
            obtain ⟨e4102, B4103, s4110, s4114, r4117⟩ := hI
            try dsimp only at e4102 B4103 s4110 s4114 r4117
            refine Cov.prune [(10, .pointer (some ⟨b4105, 0, none⟩)), (9, .slice a4112 v4111.length k4113), (11, .int .i64 v4115), (1, _), (5, _), (8, _), (6, _), (7, _)] ⟨rfl, rfl, rfl, rfl, rfl, rfl, rfl, rfl, trivial⟩ ?_
            refine Cov.same (bl' := [(b4105, .cells #[.int .i64 v4106, .slice a4108 v4107.length k4109] 34 (0, 0)), _, _, _]) (sl' := []) (Fs' := G4101 :: Fs) rfl rfl rfl ?_
            unfold law13_LayoutMore_J3 at r4117
            try dsimp only at r4117
            refine Cov.seq ?_
            refine Cov.seq ?_
            refine Cov.region rfl ?_
            refine Cov.q .ro (.move rfl) rfl ?_
            refine Cov.q .ro (.neq rfl rfl) rfl ?_
            refine Cov.q .ro (.move rfl) rfl ?_
            refine Cov.cutR 6 (β := Unit) (fun y => [(59, .bool (decide ((v4115 ≠ 0) ∨ ((v4111.length : Int) ≤ (u27.2.2.1.length : Int)))))]) [(10, _), (9, _), (1, _), (5, _), (8, _), (6, _), (7, _)] (fun y => G4101 :: Fs) (fun y => []) [_, _, _, _] (fun y => []) [] (fun y => True) ⟨rfl, rfl, rfl, rfl, rfl, rfl, rfl, trivial⟩ [0, 1, 2, 3] rfl [] rfl ?_ ?_
            · rintro _ _
              refine Cov.prune [(59, .bool (decide ((v4115 ≠ 0) ∨ ((v4111.length : Int) ≤ (u27.2.2.1.length : Int))))), (10, _), (9, _), (1, _), (5, _), (8, _), (6, _), (7, _)] ⟨rfl, rfl, rfl, rfl, rfl, rfl, rfl, rfl, trivial⟩ ?_
              refine Cov.same (bl' := [_, _, _, _]) (sl' := []) (Fs' := G4101 :: Fs) rfl rfl rfl ?_
              refine Cov.q .ro (.move rfl) rfl ?_
              refine Cov.cutR 8 (β := Unit) (fun y => [(68, .bool (decide (((v4115 ≠ 0) ∨ ((v4111.length : Int) ≤ (u27.2.2.1.length : Int))) ∨ ((v4107.length : Int) ≠ (w64 ((u27.2.1.length : Int) + 1))))))]) [(10, _), (9, _), (1, _), (5, _), (8, _), (6, _), (7, _)] (fun y => G4101 :: Fs) (fun y => []) [_, _, _, _] (fun y => []) [] (fun y => True) ⟨rfl, rfl, rfl, rfl, rfl, rfl, rfl, trivial⟩ [0, 1, 2, 3] rfl [] rfl ?_ ?_
              · rintro _ _
                refine Cov.prune [(68, .bool (decide (((v4115 ≠ 0) ∨ ((v4111.length : Int) ≤ (u27.2.2.1.length : Int))) ∨ ((v4107.length : Int) ≠ (w64 ((u27.2.1.length : Int) + 1)))))), (10, _), (9, _), (1, _), (5, _), (8, _), (6, _), (7, _)] ⟨rfl, rfl, rfl, rfl, rfl, rfl, rfl, rfl, trivial⟩ ?_
                refine Cov.same (bl' := [_, _, _, _]) (sl' := []) (Fs' := G4101 :: Fs) rfl rfl rfl ?_
                refine Cov.region_end ?_
                refine Cov.cond_dec rfl (fun c4134 => ?_) (fun c4134 => ?_)
                · have r4135 := ifT r4117 c4134; clear r4117
                  refine Cov.seq ?_
                  refine Cov.region rfl ?_
                  refine Cov.q .ro (.assign rfl) rfl ?_
                  refine Cov.region_end ?_
                  cases r4135
                  refine Cov.drop 4 0 [] _ rfl rfl ?_
                  refine Cov.retS (c := ⟨6, none⟩) (.inr ⟨_, rfl⟩) [.tmp 4] [_] rfl Try.func6 Try.results6 ⟨RV.tmp rfl, trivial⟩ (fun _ h => List.mem_cons_of_mem _ h) ⟨rfl, rfl, rfl⟩
                · have r4136 := ifF r4117 c4134; clear r4117
                  refine Cov.skip ?_
                  refine Cov.seq ?_
                  refine Cov.seq ?_
                  refine Cov.region rfl ?_
                  refine Cov.q .ro (.fieldAddr 1 rfl fl34_1 ty32.sz rfl) rfl ?_
                  refine Cov.q .ro (.load_own 1 rfl rfl ty32 rfl) rfl ?_
                  refine Cov.q .ro (.len_sl rfl rfl sl32) rfl ?_
                  refine Cov.q .ro (.move rfl) rfl ?_
                  refine Cov.region_end ?_
                  refine Cov.cutB (β := Int × Int × Int × Int) (fun y => []) [(10, _), (9, _), (1, _), (5, _), (6, _), (7, _)] (fun y => G4101 :: Fs) (fun y => [(b4105, .cells #[.int .i64 y.1, .slice a4108 v4107.length k4109] 34 (0, 0)), (b48, .cells #[.int .i64 y.2.1, .slice a41 u27.2.2.2.1.2.length k42] 34 (0, 0)), (b47, .cells #[.int .i64 y.2.2.1] 24 (0, 0)), (b23, .cells #[.slice a44 u27.2.2.2.2.1.length k45, .int .i64 y.2.2.2] 69 (0, 0))]) [] (fun y => []) [] (fun y => (law13_LayoutMore_J1 v4111 x1 u27.2.1 u27.2.2.1 v4107) y.1 y.2.1 y.2.2.1 y.2.2.2 = some r) ⟨rfl, rfl, rfl, rfl, rfl, rfl, trivial⟩ [] rfl [] rfl ?_ ?_
                  · intro y hI
                    obtain ⟨v4193, v4194, v4195, v4196⟩ := y
                    have r4198 := hI; clear hI
                    try dsimp only at r4198
                    refine Cov.prune [(10, _), (9, _), (1, _), (5, _), (6, _), (7, _)] ⟨rfl, rfl, rfl, rfl, rfl, rfl, trivial⟩ ?_
                    refine Cov.same (bl' := [(b4105, .cells #[.int .i64 v4193, .slice a4108 v4107.length k4109] 34 (0, 0)), (b48, .cells #[.int .i64 v4194, .slice a41 u27.2.2.2.1.2.length k42] 34 (0, 0)), (b47, .cells #[.int .i64 v4195] 24 (0, 0)), (b23, .cells #[.slice a44 u27.2.2.2.2.1.length k45, .int .i64 v4196] 69 (0, 0))]) (sl' := []) (Fs' := G4101 :: Fs) rfl rfl rfl ?_
                    unfold law13_LayoutMore_J1 at r4198
                    try dsimp only at r4198
                    refine Cov.seq ?_
                    refine Cov.region rfl ?_
                    refine Cov.q .ro (.fieldAddr 1 rfl fl34_1 ty32.sz rfl) rfl ?_
                    refine Cov.q .ro (.load_own 0 rfl rfl ty32 rfl) rfl ?_
                    refine Cov.q .ro (.move rfl) rfl ?_
                    refine Cov.q .ro (.len_sl rfl rfl sl25) rfl ?_
                    obtain ⟨u4206, hu4206, r4207⟩ := bind_some r4198; clear r4198
                    obtain ⟨c4208, p4209, h4210⟩ := SlR.get s4110 hu4206
                    obtain ⟨_, _, rfl, rfl, _, _, rfl, rfl, rfl⟩ := h4210
                    refine Cov.q .ro (.idxR s4110 rfl rfl hu4206 sl32 ty56.sz) rfl ?_
                    refine Cov.q .ro (.load_rp_a [_, _, _] p4209 List.mem_cons_self rfl ty56 rfl) rfl ?_
                    refine Cov.alloc .ro ty56 rfl (fun b4211 hb4211 => ?_)
                    refine Cov.store 0 [_, _, _] [_, _, _, _, _] .ro rfl rfl rfl ty56 rfl rfl rfl rfl ?_
                    refine Cov.region_end ?_
                    refine Cov.seq ?_
                    refine Cov.region rfl ?_
                    refine Cov.q .ro (.load_own_a 3 [_] rfl rfl ty24 rfl) rfl ?_
                    refine Cov.q .ro (.load_own_a 1 [_, _] rfl rfl ty34 rfl) rfl ?_
                    refine Cov.q .ro (.move rfl) rfl ?_
                    refine Cov.q .ro (.move rfl) rfl ?_
                    refine Cov.q .ro (.len_sl rfl rfl sl25) rfl ?_
                    obtain ⟨u4212, hu4212, r4213⟩ := bind_some r4207; clear r4207
                    refine Cov.callS (b1 := []) (b2 := [_, _, _, _, _]) (s1 := []) [_, _, _, _] [] .ro rfl rfl Try.call28 rfl rfl (layout_Record_c (G := G4101) List.mem_cons_self s4110 s4114 hu4212) rfl (fun v4215 bo so h4214 => ?_)
                    obtain ⟨rfl, rfl, rfl⟩ := h4214
                    refine Cov.same (bl' := [_, _, _, _, _]) (sl' := []) rfl rfl rfl ?_
                    refine Cov.q .ro (.move rfl) rfl ?_
                    refine Cov.q .ro (.extract rfl rfl) rfl ?_
                    refine Cov.q .ro (.extract rfl rfl) rfl ?_
                    refine Cov.q .ro (.assign rfl) rfl ?_
                    refine Cov.q .ro (.assign rfl) rfl ?_
                    refine Cov.region_end ?_
                    refine Cov.prune [(9, _), (1, _), (7, _), (14, _), (15, _), (16, _)] ⟨rfl, rfl, rfl, rfl, rfl, rfl, trivial⟩ ?_
                    refine Cov.seq ?_
                    refine Cov.region rfl ?_
                    refine Cov.q .ro (.move rfl) rfl ?_
                    refine Cov.q .ro (.eql rfl rfl) rfl ?_
                    refine Cov.q .ro (.move rfl) rfl ?_
                    refine Cov.cutR 4 (β := Unit) (fun y => [(106, .bool (decide ((u4212.2 = 0) ∧ (u4212.1 = x1))))]) [(9, _), (1, _), (7, _), (14, _)] (fun y => G4101 :: Fs) (fun y => []) [_, _, _, _, _] (fun y => []) [] (fun y => True) ⟨rfl, rfl, rfl, rfl, trivial⟩ [0, 1, 2, 3, 4] rfl [] rfl ?_ ?_
                    · rintro _ _
                      refine Cov.prune [(106, .bool (decide ((u4212.2 = 0) ∧ (u4212.1 = x1)))), (9, _), (1, _), (7, _), (14, _)] ⟨rfl, rfl, rfl, rfl, rfl, trivial⟩ ?_
                      refine Cov.same (bl' := [_, _, _, _, _]) (sl' := []) (Fs' := G4101 :: Fs) rfl rfl rfl ?_
                      refine Cov.q .ro (.move rfl) rfl ?_
                      obtain ⟨u4232, h4233, r4234⟩ := bind_some r4213; clear r4213
                      refine Cov.cutR 7 (β := Unit) (fun y => [(114, .bool u4232)]) [(9, _), (1, _), (7, _), (14, _)] (fun y => G4101 :: Fs) (fun y => []) [_, _, _, _, _] (fun y => []) [] (fun y => True) ⟨rfl, rfl, rfl, rfl, trivial⟩ [0, 1, 2, 3, 4] rfl [] rfl ?_ ?_
                      · rintro _ _
                        refine Cov.prune [(114, .bool u4232), (9, _), (1, _), (7, _), (14, _)] ⟨rfl, rfl, rfl, rfl, rfl, trivial⟩ ?_
                        refine Cov.same (bl' := [_, _, _, _, _]) (sl' := []) (Fs' := G4101 :: Fs) rfl rfl rfl ?_
                        refine Cov.q .ro (.move rfl) rfl ?_
                        refine Cov.cutR 6 (β := Unit) (fun y => [(121, .bool (decide ((u4232 = true) ∧ (u4206.1 = (u27.2.2.1.length : Int)))))]) [(9, _), (1, _), (14, _)] (fun y => G4101 :: Fs) (fun y => []) [_, _, _, _, _] (fun y => []) [] (fun y => True) ⟨rfl, rfl, rfl, trivial⟩ [0, 1, 2, 3, 4] rfl [] rfl ?_ ?_
                        · rintro _ _
                          refine Cov.prune [(121, .bool (decide ((u4232 = true) ∧ (u4206.1 = (u27.2.2.1.length : Int))))), (9, _), (1, _), (14, _)] ⟨rfl, rfl, rfl, rfl, trivial⟩ ?_
                          refine Cov.same (bl' := [_, _, _, _, _]) (sl' := []) (Fs' := G4101 :: Fs) rfl rfl rfl ?_
                          refine Cov.q .ro (.move rfl) rfl ?_
                          refine Cov.cutR 9 (β := Unit) (fun y => [(131, .bool (decide (((u4232 = true) ∧ (u4206.1 = (u27.2.2.1.length : Int))) ∧ ((w64 (u4206.1 + u4206.2.1)) = (v4111.length : Int)))))]) [(1, _), (14, _)] (fun y => G4101 :: Fs) (fun y => []) [_, _, _, _, _] (fun y => []) [] (fun y => True) ⟨rfl, rfl, trivial⟩ [0, 1, 2, 3, 4] rfl [] rfl ?_ ?_
                          · rintro _ _
                            refine Cov.prune [(131, .bool (decide (((u4232 = true) ∧ (u4206.1 = (u27.2.2.1.length : Int))) ∧ ((w64 (u4206.1 + u4206.2.1)) = (v4111.length : Int))))), (1, _), (14, _)] ⟨rfl, rfl, rfl, trivial⟩ ?_
                            refine Cov.same (bl' := [_, _, _, _, _]) (sl' := []) (Fs' := G4101 :: Fs) rfl rfl rfl ?_
                            refine Cov.q .ro (.move rfl) rfl ?_
                            refine Cov.cutR 6 (β := Unit) (fun y => [(138, .bool (decide ((((u4232 = true) ∧ (u4206.1 = (u27.2.2.1.length : Int))) ∧ ((w64 (u4206.1 + u4206.2.1)) = (v4111.length : Int))) ∧ (u4206.2.2 = (x1.size : Int)))))]) [] (fun y => G4101 :: Fs) (fun y => []) [_, _, _, _, _] (fun y => []) [] (fun y => True) trivial [0, 1, 2, 3, 4] rfl [] rfl ?_ ?_
                            · rintro _ _
                              refine Cov.prune [(138, .bool (decide ((((u4232 = true) ∧ (u4206.1 = (u27.2.2.1.length : Int))) ∧ ((w64 (u4206.1 + u4206.2.1)) = (v4111.length : Int))) ∧ (u4206.2.2 = (x1.size : Int)))))] ⟨rfl, trivial⟩ ?_
                              refine Cov.same (bl' := [_, _, _, _, _]) (sl' := []) (Fs' := G4101 :: Fs) rfl rfl rfl ?_
                              refine Cov.q .ro (.assign rfl) rfl ?_
                              refine Cov.region_end ?_
                              cases r4234
                              refine Cov.drop 5 0 [] _ rfl rfl ?_
                              refine Cov.retS (c := ⟨6, none⟩) (.inr ⟨_, rfl⟩) [.tmp 4] [_] rfl Try.func6 Try.results6 ⟨RV.tmp rfl, trivial⟩ (fun _ h => List.mem_cons_of_mem _ h) ⟨rfl, rfl, rfl⟩
                            · intro hb4246
                              refine Cov.split 132 rfl (fun c4245 => ?_) (fun c4245 => ?_)
                              · refine Cov.g_on rfl ?_
                                refine Cov.q .ro (.fieldAddr 2 rfl fl56_2 ty3.sz rfl) rfl ?_
                                refine Cov.g_on rfl ?_
                                refine Cov.q .ro (.load_own 0 rfl rfl ty3 rfl) rfl ?_
                                refine Cov.g_on rfl ?_
                                refine Cov.q .ro (.move rfl) rfl ?_
                                refine Cov.g_on rfl ?_
                                refine Cov.q .ro (.len_s rfl Try.underlying9) rfl ?_
                                refine Cov.g_on rfl ?_
                                refine Cov.q .ro (.eql rfl rfl) rfl ?_
                                refine Cov.q .ro (.pick_t rfl rfl) rfl ?_
                                refine Cov.prune _ ?_ (Cov.same rfl rfl rfl (hb4246 () trivial))
                                exact ⟨dand_t c4245, trivial⟩
                              · refine Cov.g_off rfl rfl rfl ?_
                                refine Cov.g_off rfl rfl rfl ?_
                                refine Cov.g_off rfl rfl rfl ?_
                                refine Cov.g_off rfl rfl rfl ?_
                                refine Cov.g_off rfl rfl rfl ?_
                                refine Cov.q .ro (.pick_f rfl rfl) rfl ?_
                                refine Cov.prune _ ?_ (Cov.same rfl rfl rfl (hb4246 () trivial))
                                exact ⟨dand_f c4245, trivial⟩
                          · intro hb4242
                            refine Cov.split 122 rfl (fun c4241 => ?_) (fun c4241 => ?_)
                            · refine Cov.g_on rfl ?_
                              refine Cov.q .ro (.fieldAddr 0 rfl fl56_0 ty3.sz rfl) rfl ?_
                              refine Cov.g_on rfl ?_
                              refine Cov.q .ro (.load_own 0 rfl rfl ty3 rfl) rfl ?_
                              refine Cov.g_on rfl ?_
                              refine Cov.q .ro (.fieldAddr 1 rfl fl56_1 ty3.sz rfl) rfl ?_
                              refine Cov.g_on rfl ?_
                              refine Cov.q .ro (.load_own 0 rfl rfl ty3 rfl) rfl ?_
                              refine Cov.g_on rfl ?_
                              refine Cov.q .ro (.addw rfl rfl) rfl ?_
                              refine Cov.g_on rfl ?_
                              refine Cov.q .ro (.move rfl) rfl ?_
                              refine Cov.g_on rfl ?_
                              refine Cov.q .ro (.len_sl rfl rfl sl26) rfl ?_
                              refine Cov.g_on rfl ?_
                              refine Cov.q .ro (.eql rfl rfl) rfl ?_
                              refine Cov.q .ro (.pick_t rfl rfl) rfl ?_
                              refine Cov.prune _ ?_ (Cov.same rfl rfl rfl (hb4242 () trivial))
                              exact ⟨dand_t c4241, rfl, rfl, trivial⟩
                            · refine Cov.g_off rfl rfl rfl ?_
                              refine Cov.g_off rfl rfl rfl ?_
                              refine Cov.g_off rfl rfl rfl ?_
                              refine Cov.g_off rfl rfl rfl ?_
                              refine Cov.g_off rfl rfl rfl ?_
                              refine Cov.g_off rfl rfl rfl ?_
                              refine Cov.g_off rfl rfl rfl ?_
                              refine Cov.g_off rfl rfl rfl ?_
                              refine Cov.q .ro (.pick_f rfl rfl) rfl ?_
                              refine Cov.prune _ ?_ (Cov.same rfl rfl rfl (hb4242 () trivial))
                              exact ⟨dand_f c4241, rfl, rfl, trivial⟩
                        · intro hb4238
                          refine Cov.split_b 115 rfl (fun c4237 => ?_) (fun c4237 => ?_)
                          · refine Cov.g_on rfl ?_
                            refine Cov.q .ro (.fieldAddr 0 rfl fl56_0 ty3.sz rfl) rfl ?_
                            refine Cov.g_on rfl ?_
                            refine Cov.q .ro (.load_own 0 rfl rfl ty3 rfl) rfl ?_
                            refine Cov.g_on rfl ?_
                            refine Cov.q .ro (.move rfl) rfl ?_
                            refine Cov.g_on rfl ?_
                            refine Cov.q .ro (.len_sl rfl rfl sl26) rfl ?_
                            refine Cov.g_on rfl ?_
                            refine Cov.q .ro (.eql rfl rfl) rfl ?_
                            refine Cov.q .ro (.pick_t rfl rfl) rfl ?_
                            refine Cov.prune _ ?_ (Cov.same rfl rfl rfl (hb4238 () trivial))
                            exact ⟨dand_t c4237, rfl, rfl, rfl, trivial⟩
                          · refine Cov.g_off rfl rfl rfl ?_
                            refine Cov.g_off rfl rfl rfl ?_
                            refine Cov.g_off rfl rfl rfl ?_
                            refine Cov.g_off rfl rfl rfl ?_
                            refine Cov.g_off rfl rfl rfl ?_
                            refine Cov.q .ro (.pick_f rfl rfl) rfl ?_
                            refine Cov.prune _ ?_ (Cov.same rfl rfl rfl (hb4238 () trivial))
                            exact ⟨dand_f (bne_of c4237), rfl, rfl, rfl, trivial⟩
                      · intro hb4231
                        refine Cov.split 107 rfl (fun c4230 => ?_) (fun c4230 => ?_)
                        · have r4249 := ifT h4233 c4230
                          refine Cov.g_on rfl ?_
                          refine Cov.q .ro (.move rfl) rfl ?_
                          refine Cov.g_on rfl ?_
                          refine Cov.q .ro (.move rfl) rfl ?_
                          refine Cov.g_on rfl ?_
                          refine Cov.q .ro (.len_sl rfl rfl sl26) rfl ?_
                          refine Cov.g_on rfl ?_
                          obtain ⟨u4250, hu4250, r4251⟩ := bind_some r4249; clear r4249
                          obtain ⟨a4252, k4253, h4254, s4255⟩ := SlR.sub s4114 hu4250
                          refine Cov.q .ro (.sliceR s4114 rfl hu4250 sl26 ty22.sz (fun _ => .no) (fun h => .yes' rfl h) h4254) rfl ?_
                          refine Cov.g_on rfl ?_
                          refine Cov.q .ro (.move rfl) rfl ?_
                          refine Cov.g_on rfl ?_
                          obtain ⟨u4256, hu4256, r4257⟩ := bind_some r4251; clear r4251
                          refine Cov.callS (b1 := []) (b2 := [_, _, _, _, _]) (s1 := []) [_, _] [] .ro rfl rfl Try.call21 rfl rfl (ref04_SameRows_c (G := G4101) List.mem_cons_self s4255 (SlR.mono e4102 s40) hu4256) rfl (fun v4259 bo so h4258 => ?_)
                          obtain ⟨rfl, rfl, rfl⟩ := h4258
                          refine Cov.same (bl' := [_, _, _, _, _]) (sl' := []) rfl rfl rfl ?_
                          refine Cov.q .ro (.pick_t rfl rfl) rfl ?_
                          refine Cov.prune _ ?_ (Cov.same rfl rfl rfl (hb4231 () trivial))
                          exact ⟨sval r4257, rfl, rfl, rfl, rfl, trivial⟩
                        · have r4260 := ifF h4233 c4230
                          refine Cov.g_off rfl rfl rfl ?_
                          refine Cov.g_off rfl rfl rfl ?_
                          refine Cov.g_off rfl rfl rfl ?_
                          refine Cov.g_off rfl rfl rfl ?_
                          refine Cov.g_off rfl rfl rfl ?_
                          refine Cov.g_off rfl rfl rfl ?_
                          refine Cov.q .ro (.pick_f rfl rfl) rfl ?_
                          refine Cov.prune _ ?_ (Cov.same rfl rfl rfl (hb4231 () trivial))
                          exact ⟨sval r4260, rfl, rfl, rfl, rfl, trivial⟩
                    · intro hb4217
                      refine Cov.split 102 rfl (fun c4216 => ?_) (fun c4216 => ?_)
                      · refine Cov.g_on rfl ?_
                        refine Cov.q .ro (.move rfl) rfl ?_
                        refine Cov.g_on rfl ?_
                        refine Cov.q .ro (.move rfl) rfl ?_
                        refine Cov.g_on rfl ?_
                        refine Cov.q .ro (.eql_s rfl rfl) rfl ?_
                        refine Cov.q .ro (.pick_t rfl rfl) rfl ?_
                        refine Cov.prune _ ?_ (Cov.same rfl rfl rfl (hb4217 () trivial))
                        exact ⟨dand_t c4216, rfl, rfl, rfl, rfl, trivial⟩
                      · refine Cov.g_off rfl rfl rfl ?_
                        refine Cov.g_off rfl rfl rfl ?_
                        refine Cov.g_off rfl rfl rfl ?_
                        refine Cov.q .ro (.pick_f rfl rfl) rfl ?_
                        refine Cov.prune _ ?_ (Cov.same rfl rfl rfl (hb4217 () trivial))
                        exact ⟨dand_f c4216, rfl, rfl, rfl, rfl, trivial⟩
                  · intro hb4261
                    refine Cov.block ?_
                    refine Cov.loop2 (α := Nat × (List (Int × Int × Int))) (fun y => [(72, .int .i64 (y.1 : Int))]) [(10, _), (9, _), (1, _), (5, _), (6, _), (7, _), (70, _), (71, _)] (fun y => []) (fun y => []) [_, _, _, _] (fun y => []) [] (fun y => List.drop y.1 u27.2.2.2.1.2 = y.2 ∧ law13_LayoutMore_L2 (law13_LayoutMore_J1 v4111 x1 u27.2.1 u27.2.2.1 v4107) v4106 v4107 u27.2.2.2.1.1 u27.1 u27.2.2.2.2.2 y.2 y.1  = some r) (fun y => y.2.length) (0, u27.2.2.2.1.2) ⟨rfl, r4136⟩ ⟨rfl, rfl, rfl, rfl, rfl, rfl, rfl, rfl, rfl, trivial⟩ rfl rfl rfl (fun y hI hb4290 => ?_)
                    obtain ⟨i4286, w4287⟩ := y
                    obtain ⟨g4288, r4289⟩ := hI
                    try dsimp only at g4288 r4289
                    refine Cov.prune [(72, .int .i64 (i4286 : Int)), (10, _), (9, _), (1, _), (5, _), (6, _), (7, _), (70, _), (71, _)] ⟨rfl, rfl, rfl, rfl, rfl, rfl, rfl, rfl, rfl, trivial⟩ ?_
                    refine Cov.same (bl' := [_, _, _, _]) (sl' := []) (Fs' := G4101 :: Fs) rfl rfl rfl ?_
                    cases w4287 with
                    | nil =>
                      rw [law13_LayoutMore_L2] at r4289; try dsimp only at r4289
                      refine Cov.seq ?_
                      refine Cov.region rfl ?_
                      refine Cov.q .ro (.lss rfl rfl) rfl ?_
                      refine Cov.region_end ?_
                      refine Cov.seq ?_
                      refine Cov.cond_dec rfl (fun c => absurd c (drop_nil g4288)) (fun _ => ?_)
                      refine Cov.exit rfl ?_
                      refine Cov.prune _ ?_ (Cov.same rfl rfl rfl (hb4261 (v4106, u27.2.2.2.1.1, u27.1, u27.2.2.2.2.2) r4289))
                      exact ⟨rfl, rfl, rfl, rfl, rfl, rfl, trivial⟩
                    | cons x4304 xs4305 =>
                      have r4303 : law13_LayoutMore_B2 (law13_LayoutMore_J1 v4111 x1 u27.2.1 u27.2.2.1 v4107) v4106 v4107 u27.2.2.2.1.1 u27.1 u27.2.2.2.2.2 (law13_LayoutMore_L2 (law13_LayoutMore_J1 v4111 x1 u27.2.1 u27.2.2.1 v4107) v4106 v4107 u27.2.2.2.1.1 u27.1 u27.2.2.2.2.2 xs4305 (i4286 + 1)) x4304 i4286  = some r := r4289; clear r4289; unfold law13_LayoutMore_B2 at r4303; try dsimp only at r4303
                      refine Cov.seq ?_
                      refine Cov.region rfl ?_
                      refine Cov.q .ro (.lss rfl rfl) rfl ?_
                      refine Cov.region_end ?_
                      refine Cov.seq ?_
                      refine Cov.cond_dec rfl (fun _ => ?_) (fun c => absurd (drop_lt g4288) c)
                      refine Cov.skip ?_
                      refine Cov.seq ?_
                      refine Cov.block ?_
                      refine Cov.seq ?_
                      refine Cov.region rfl ?_
                      refine Cov.q .ro (.move rfl) rfl ?_
                      obtain ⟨c4306, p4307, h4308⟩ := SlR.get (SlR.mono e4102 s43) (drop_idx g4288)
                      obtain ⟨_, _, rfl, rfl, _, _, rfl, rfl, rfl⟩ := h4308
                      refine Cov.q .ro (.idxR (SlR.mono e4102 s43) rfl rfl (drop_idx g4288) sl32 ty56.sz) rfl ?_
                      refine Cov.q .ro (.load_rp_a [_, _, _] p4307 List.mem_cons_self rfl ty56 rfl) rfl ?_
                      refine Cov.alloc .ro ty56 rfl (fun b4309 hb4309 => ?_)
                      refine Cov.q .ro (.assign rfl) rfl ?_
                      refine Cov.store 0 [_, _, _] [_, _, _, _, _] .ro rfl rfl rfl ty56 rfl rfl rfl rfl ?_
                      refine Cov.region_end ?_
                      refine Cov.seq ?_
                      refine Cov.drawL (.q 0 (.q 1 (.q 2 (.q 3 (.q 4 (.q 5 (.q 6 .nil))))))) [_, _, _, _, _] (by kernel_rfl) (by kernel_rfl) (pick_mem [0, 1, 2, 3, 4] rfl) ?_
                      refine Cov.dq (.fieldAddr 1 rfl fl34_1 ty32.sz rfl) rfl ?_
                      refine Cov.dq (.load_own 1 rfl rfl ty32 rfl) rfl ?_
                      refine Cov.dq (.move rfl) rfl ?_
                      obtain ⟨u4310, hu4310, r4311⟩ := bind_some r4303; clear r4303
                      obtain ⟨c4312, p4313, h4314⟩ := SlR.get s4110 hu4310
                      obtain ⟨_, _, rfl, rfl, _, _, rfl, rfl, rfl⟩ := h4314
                      refine Cov.dq (.idxR s4110 rfl rfl hu4310 sl32 ty56.sz) rfl ?_
                      refine Cov.dq (.load_rp_a [_, _, _] p4313 List.mem_cons_self rfl ty56 rfl) rfl ?_
                      refine Cov.dq (.load_own_a 0 [_, _, _] rfl rfl ty56 rfl) rfl ?_
                      refine Cov.dq (.cast (show Value.bool (decide (([u4310.1, u4310.2.1, u4310.2.2] : List Int) ≠ ([x4304.1, x4304.2.1, x4304.2.2] : List Int))) = Value.bool (decide ((u4310.1, u4310.2.1, u4310.2.2) ≠ (x4304.1, x4304.2.1, x4304.2.2))) from congrArg Value.bool (decide_eq_decide.2 (by simp))) (.neq_i [u4310.1, u4310.2.1, u4310.2.2] [x4304.1, x4304.2.1, x4304.2.2] Try.underlying56 (by kernel_rfl) Try.stoodInHeld56 Try.eqGuardType56 rfl rfl rfl rfl)) rfl ?_
                      refine Cov.draw_end ?_
                      refine Cov.cond_dec rfl (fun c4315 => ?_) (fun c4315 => ?_)
                      · have r4316 := ifT r4311 c4315; clear r4311
                        refine Cov.seq ?_
                        refine Cov.region rfl ?_
                        refine Cov.q .ro (.assign rfl) rfl ?_
                        refine Cov.region_end ?_
                        refine Cov.prune [(4, _)] ⟨rfl, trivial⟩ ?_
                        cases r4316
                        refine Cov.drop 5 0 [] _ rfl rfl ?_
                        refine Cov.retS (c := ⟨6, none⟩) (.inr ⟨_, rfl⟩) [.tmp 4] [_] rfl Try.func6 Try.results6 ⟨RV.tmp rfl, trivial⟩ (fun _ h => List.mem_cons_of_mem _ h) ⟨rfl, rfl, rfl⟩
                      · have r4317 := ifF r4311 c4315; clear r4311
                        refine Cov.skip ?_
                        refine Cov.inBlock ?_
                        refine Cov.region rfl ?_
                        refine Cov.q .ro (.addw rfl rfl) rfl ?_
                        refine Cov.q .ro (.move rfl) rfl ?_
                        refine Cov.region_end ?_
                        refine Cov.prune [(72, _), (10, _), (9, _), (1, _), (5, _), (6, _), (7, _), (70, _), (71, _)] ⟨rfl, rfl, rfl, rfl, rfl, rfl, rfl, rfl, rfl, trivial⟩ ?_
                        refine Cov.drop 1 0 [_, _, _, _] _ rfl rfl ?_
                        refine Cov.prune _ ?_ (Cov.same rfl rfl rfl (hb4290 ((i4286 + 1), xs4305) ⟨(drop_succ g4288), r4317⟩ (Nat.lt_succ_self _)))
                        exact ⟨(congrArg (fun z => some (Value.int .i64 z)) (idx_wrap (SlR.len (SlR.mono e4102 s43)) g4288)), rfl, rfl, rfl, rfl, rfl, rfl, rfl, rfl, trivial⟩
              · intro hb4131
                refine Cov.split 60 rfl (fun c4130 => ?_) (fun c4130 => ?_)
                · refine Cov.g_off rfl rfl rfl ?_
                  refine Cov.g_off rfl rfl rfl ?_
                  refine Cov.g_off rfl rfl rfl ?_
                  refine Cov.g_off rfl rfl rfl ?_
                  refine Cov.g_off rfl rfl rfl ?_
                  refine Cov.g_off rfl rfl rfl ?_
                  refine Cov.g_off rfl rfl rfl ?_
                  refine Cov.q .ro (.pick_t rfl rfl) rfl ?_
                  refine Cov.prune _ ?_ (Cov.same rfl rfl rfl (hb4131 () trivial))
                  exact ⟨dor_t c4130, rfl, rfl, rfl, rfl, rfl, rfl, rfl, trivial⟩
                · refine Cov.g_on rfl ?_
                  refine Cov.q .ro (.fieldAddr 1 rfl fl34_1 ty32.sz rfl) rfl ?_
                  refine Cov.g_on rfl ?_
                  refine Cov.q .ro (.load_own 0 rfl rfl ty32 rfl) rfl ?_
                  refine Cov.g_on rfl ?_
                  refine Cov.q .ro (.len_sl rfl rfl sl32) rfl ?_
                  refine Cov.g_on rfl ?_
                  refine Cov.q .ro (.move rfl) rfl ?_
                  refine Cov.g_on rfl ?_
                  refine Cov.q .ro (.len_sl rfl rfl sl25) rfl ?_
                  refine Cov.g_on rfl ?_
                  refine Cov.q .ro (.addw rfl rfl) rfl ?_
                  refine Cov.g_on rfl ?_
                  refine Cov.q .ro (.neq rfl rfl) rfl ?_
                  refine Cov.q .ro (.pick_f rfl rfl) rfl ?_
                  refine Cov.prune _ ?_ (Cov.same rfl rfl rfl (hb4131 () trivial))
                  exact ⟨dor_f c4130, rfl, rfl, rfl, rfl, rfl, rfl, rfl, trivial⟩
            · intro hb4127
              refine Cov.split 53 rfl (fun c4126 => ?_) (fun c4126 => ?_)
              · refine Cov.g_off rfl rfl rfl ?_
                refine Cov.g_off rfl rfl rfl ?_
                refine Cov.g_off rfl rfl rfl ?_
                refine Cov.g_off rfl rfl rfl ?_
                refine Cov.g_off rfl rfl rfl ?_
                refine Cov.q .ro (.pick_t rfl rfl) rfl ?_
                refine Cov.prune _ ?_ (Cov.same rfl rfl rfl (hb4127 () trivial))
                exact ⟨dor_t c4126, rfl, rfl, rfl, rfl, rfl, rfl, rfl, trivial⟩
              · refine Cov.g_on rfl ?_
                refine Cov.q .ro (.move rfl) rfl ?_
                refine Cov.g_on rfl ?_
                refine Cov.q .ro (.len_sl rfl rfl sl26) rfl ?_
                refine Cov.g_on rfl ?_
                refine Cov.q .ro (.move rfl) rfl ?_
                refine Cov.g_on rfl ?_
                refine Cov.q .ro (.len_sl rfl rfl sl26) rfl ?_
                refine Cov.g_on rfl ?_
                refine Cov.q .ro (.leq rfl rfl) rfl ?_
                refine Cov.q .ro (.pick_f rfl rfl) rfl ?_
                refine Cov.prune _ ?_ (Cov.same rfl rfl rfl (hb4127 () trivial))
                exact ⟨dor_f c4126, rfl, rfl, rfl, rfl, rfl, rfl, rfl, trivial⟩
          · intro hb4318
            refine Cov.drawL (.q 0 (.q 1 (.q 2 (.q 3 (.q 5 (.alt (.e 4 1 (.alt (.e 6 1 (.alt (.e 7 1 (.alt (.e 8 1 (.q 9 (.q 10 (.q 11 (.q 12 (.e 13 1 (.q 14 (.e 15 1 (.q 16 .nil))))))))) (.e 13 1 (.e 8 1 (.q 9 (.q 10 (.q 11 (.q 12 (.q 14 (.e 15 1 (.q 16 .nil))))))))))) (.e 13 1 (.e 7 1 (.e 8 1 (.q 9 (.q 10 (.q 11 (.q 12 (.q 14 (.e 15 1 (.q 16 .nil)))))))))))) (.e 13 1 (.e 6 1 (.e 7 1 (.e 8 1 (.q 9 (.q 10 (.q 11 (.q 12 (.q 14 (.e 15 1 (.q 16 .nil))))))))))))) (.alt (.e 6 1 (.alt (.e 4 1 (.alt (.e 7 1 (.alt (.e 8 1 (.q 9 (.q 10 (.q 11 (.q 12 (.e 13 1 (.q 14 (.e 15 1 (.q 16 .nil))))))))) (.e 13 1 (.e 8 1 (.q 9 (.q 10 (.q 11 (.q 12 (.q 14 (.e 15 1 (.q 16 .nil))))))))))) (.e 13 1 (.e 7 1 (.e 8 1 (.q 9 (.q 10 (.q 11 (.q 12 (.q 14 (.e 15 1 (.q 16 .nil)))))))))))) (.e 13 1 (.e 4 1 (.e 7 1 (.e 8 1 (.q 9 (.q 10 (.q 11 (.q 12 (.q 14 (.e 15 1 (.q 16 .nil))))))))))))) (.e 13 1 (.alt (.e 4 1 (.e 6 1 (.e 7 1 (.e 8 1 (.q 9 (.q 10 (.q 11 (.q 12 (.q 14 (.e 15 1 (.q 16 .nil))))))))))) (.e 6 1 (.e 4 1 (.e 7 1 (.e 8 1 (.q 9 (.q 10 (.q 11 (.q 12 (.q 14 (.e 15 1 (.q 16 .nil)))))))))))))))))))) [_, _, _] (by kernel_rfl) (by kernel_rfl) (pick_mem [0, 1, 2] rfl) ?_
            obtain ⟨u4324, hu4324, r4354⟩ := bind_some r51; clear r51
            obtain ⟨u4333, hu4333, r4355⟩ := bind_some r4354; clear r4354
            obtain ⟨u4340, hu4340, r4356⟩ := bind_some r4355; clear r4355
            refine Cov.dq (.load_own_a 1 [_] rfl rfl ty24 rfl) rfl ?_
            refine Cov.dq (.fieldAddr 0 rfl fl34_0 ty3.sz rfl) rfl ?_
            refine Cov.dq (.load_own 0 rfl rfl ty3 rfl) rfl ?_
            refine Cov.dq (.move rfl) rfl ?_
            refine Cov.dq (.move rfl) rfl ?_
            refine Cov.alt ?_ ?_
            · refine Cov.own_nil 9 1 ?_
              refine Cov.appR (Q := Rep.str) 0 .d1 sl25 ty9 rfl rfl rfl rfl rfl (OL.nil (Rp' := Rep.str)) rfl rfl s37 rfl List.mem_cons_self hu4324 rfl (fun a4358 k4359 cs4360 o4361 => ?_)
              refine Cov.clsL (HpLe.refl _) (pick_mem [0, 1, 2] rfl) ?_
              refine Cov.alt ?_ ?_
              · refine Cov.lit [_] [(0, _)] .d1 sl25 ty9 rfl rfl rfl rfl rfl rfl (fun b4363 hb4363 => ?_)
                have o4364 : OL Rep.str G31 [.string x1] ([x1] : List ByteArray) := ((OL.cons rfl (Rep.strI x1) (OL.nil (Rp' := Rep.str))) :)
                refine Cov.reval 45 (n' := ([x1] : List ByteArray).length) rfl rfl ?_
                refine Cov.clsL (HpLe.refl _) (pick_mem [0, 1, 2] rfl) ?_
                refine Cov.alt ?_ ?_
                · refine Cov.appO (Q := Rep.str) 0 .d1 sl25 ty9 rfl rfl rfl rfl rfl rfl o4361 o4364 rfl rfl rfl B33 hu4333 rfl (fun a4366 k4367 cs4368 o4369 => ?_)
                  refine Cov.clsL (HpLe.refl _) (pick_mem [0, 1, 2] rfl) ?_
                  refine Cov.alt ?_ ?_
                  · refine Cov.freezeR 0 rfl rfl o4369 [] rfl B33 (fun G4371 e4372 B4373 s4374 => ?_)
                    refine Cov.callW (b1 := []) (b2 := [_, _, _]) (s1 := []) [_, _, _] [] .d1 rfl rfl Try.call19 rfl rfl (layout_Encode_c (G := G4371) List.mem_cons_self s4374 hu4340) rfl B4373 (fun v4377 bo so G4378 e4379 B4380 h4376 => ?_)
                    obtain ⟨a4382, k4383, a4385, k4386, rfl, rfl, rfl, s4384, s4387⟩ := h4376
                    refine Cov.same (bl' := [_, _, _]) (sl' := []) rfl rfl rfl ?_
                    refine Cov.clsL (HpLe.trans e4372 e4379) (pick_mem [0, 1, 2] rfl) ?_
                    refine Cov.dq (.move rfl) rfl ?_
                    refine Cov.dq (.extract rfl rfl) rfl ?_
                    refine Cov.dq (.extract rfl rfl) rfl ?_
                    refine Cov.dq (.extract rfl rfl) rfl ?_
                    refine Cov.alloc .d1 ty34 rfl (fun b4388 hb4388 => ?_)
                    refine Cov.clsL (HpLe.trans e4372 e4379) (pick_mem [1, 2, 3] rfl) ?_
                    refine Cov.dq (.assign rfl) rfl ?_
                    refine Cov.store 0 [_, _] [_, _, _, _] .d1 rfl rfl rfl ty34 rfl rfl rfl rfl ?_
                    refine Cov.clsL (HpLe.trans e4372 e4379) (pick_mem [1, 2, 3] rfl) ?_
                    refine Cov.dq (.assign rfl) rfl ?_
                    refine Cov.draw_end ?_
                    refine Cov.prune [(1, _), (5, _), (8, _), (6, _), (7, _), (10, _), (9, _), (11, _)] ⟨rfl, rfl, rfl, rfl, rfl, rfl, rfl, rfl, trivial⟩ ?_
                    refine Cov.prune _ ?_ (Cov.same rfl rfl rfl (hb4318 (G4378, b4388, u4340.2.1.1, u4340.2.1.2, a4385, k4386, u4340.1, a4382, k4383, u4340.2.2) ⟨(HpLe.trans e4372 e4379), B4380, s4387, s4384, r4356⟩))
                    exact ⟨rfl, rfl, rfl, rfl, rfl, rfl, rfl, rfl, trivial⟩
                  · refine Cov.alloc .d1 ty34 rfl (fun b4389 hb4389 => ?_)
                    refine Cov.clsL (HpLe.refl _) (pick_mem [1, 2, 3] rfl) ?_
                    refine Cov.freezeR 0 rfl rfl o4369 [] rfl B33 (fun G4390 e4391 B4392 s4393 => ?_)
                    refine Cov.callW (b1 := []) (b2 := [_, _, _, _]) (s1 := []) [_, _, _] [] .d1 rfl rfl Try.call19 rfl rfl (layout_Encode_c (G := G4390) List.mem_cons_self s4393 hu4340) rfl B4392 (fun v4396 bo so G4397 e4398 B4399 h4395 => ?_)
                    obtain ⟨a4401, k4402, a4404, k4405, rfl, rfl, rfl, s4403, s4406⟩ := h4395
                    refine Cov.same (bl' := [_, _, _, _]) (sl' := []) rfl rfl rfl ?_
                    refine Cov.clsL (HpLe.trans e4391 e4398) (pick_mem [1, 2, 3] rfl) ?_
                    refine Cov.dq (.move rfl) rfl ?_
                    refine Cov.dq (.extract rfl rfl) rfl ?_
                    refine Cov.dq (.extract rfl rfl) rfl ?_
                    refine Cov.dq (.extract rfl rfl) rfl ?_
                    refine Cov.dq (.assign rfl) rfl ?_
                    refine Cov.store 0 [_, _] [_, _, _, _] .d1 rfl rfl rfl ty34 rfl rfl rfl rfl ?_
                    refine Cov.clsL (HpLe.trans e4391 e4398) (pick_mem [1, 2, 3] rfl) ?_
                    refine Cov.dq (.assign rfl) rfl ?_
                    refine Cov.draw_end ?_
                    refine Cov.prune [(1, _), (5, _), (8, _), (6, _), (7, _), (10, _), (9, _), (11, _)] ⟨rfl, rfl, rfl, rfl, rfl, rfl, rfl, rfl, trivial⟩ ?_
                    refine Cov.prune _ ?_ (Cov.same rfl rfl rfl (hb4318 (G4397, b4389, u4340.2.1.1, u4340.2.1.2, a4404, k4405, u4340.1, a4401, k4402, u4340.2.2) ⟨(HpLe.trans e4391 e4398), B4399, s4406, s4403, r4356⟩))
                    exact ⟨rfl, rfl, rfl, rfl, rfl, rfl, rfl, rfl, trivial⟩
                · refine Cov.alloc .d1 ty34 rfl (fun b4407 hb4407 => ?_)
                  refine Cov.clsL (HpLe.refl _) (pick_mem [1, 2, 3] rfl) ?_
                  refine Cov.appO (Q := Rep.str) 0 .d1 sl25 ty9 rfl rfl rfl rfl rfl rfl o4361 o4364 rfl rfl rfl B33 hu4333 rfl (fun a4408 k4409 cs4410 o4411 => ?_)
                  refine Cov.clsL (HpLe.refl _) (pick_mem [1, 2, 3] rfl) ?_
                  refine Cov.freezeR 0 rfl rfl o4411 [] rfl B33 (fun G4413 e4414 B4415 s4416 => ?_)
                  refine Cov.callW (b1 := []) (b2 := [_, _, _, _]) (s1 := []) [_, _, _] [] .d1 rfl rfl Try.call19 rfl rfl (layout_Encode_c (G := G4413) List.mem_cons_self s4416 hu4340) rfl B4415 (fun v4419 bo so G4420 e4421 B4422 h4418 => ?_)
                  obtain ⟨a4424, k4425, a4427, k4428, rfl, rfl, rfl, s4426, s4429⟩ := h4418
                  refine Cov.same (bl' := [_, _, _, _]) (sl' := []) rfl rfl rfl ?_
                  refine Cov.clsL (HpLe.trans e4414 e4421) (pick_mem [1, 2, 3] rfl) ?_
                  refine Cov.dq (.move rfl) rfl ?_
                  refine Cov.dq (.extract rfl rfl) rfl ?_
                  refine Cov.dq (.extract rfl rfl) rfl ?_
                  refine Cov.dq (.extract rfl rfl) rfl ?_
                  refine Cov.dq (.assign rfl) rfl ?_
                  refine Cov.store 0 [_, _] [_, _, _, _] .d1 rfl rfl rfl ty34 rfl rfl rfl rfl ?_
                  refine Cov.clsL (HpLe.trans e4414 e4421) (pick_mem [1, 2, 3] rfl) ?_
                  refine Cov.dq (.assign rfl) rfl ?_
                  refine Cov.draw_end ?_
                  refine Cov.prune [(1, _), (5, _), (8, _), (6, _), (7, _), (10, _), (9, _), (11, _)] ⟨rfl, rfl, rfl, rfl, rfl, rfl, rfl, rfl, trivial⟩ ?_
                  refine Cov.prune _ ?_ (Cov.same rfl rfl rfl (hb4318 (G4420, b4407, u4340.2.1.1, u4340.2.1.2, a4427, k4428, u4340.1, a4424, k4425, u4340.2.2) ⟨(HpLe.trans e4414 e4421), B4422, s4429, s4426, r4356⟩))
                  exact ⟨rfl, rfl, rfl, rfl, rfl, rfl, rfl, rfl, trivial⟩
              · refine Cov.alloc .d1 ty34 rfl (fun b4430 hb4430 => ?_)
                refine Cov.clsL (HpLe.refl _) (pick_mem [1, 2, 3] rfl) ?_
                refine Cov.lit [_] [(0, _)] .d1 sl25 ty9 rfl rfl rfl rfl rfl rfl (fun b4431 hb4431 => ?_)
                have o4432 : OL Rep.str G31 [.string x1] ([x1] : List ByteArray) := ((OL.cons rfl (Rep.strI x1) (OL.nil (Rp' := Rep.str))) :)
                refine Cov.reval 45 (n' := ([x1] : List ByteArray).length) rfl rfl ?_
                refine Cov.clsL (HpLe.refl _) (pick_mem [1, 2, 3] rfl) ?_
                refine Cov.appO (Q := Rep.str) 0 .d1 sl25 ty9 rfl rfl rfl rfl rfl rfl o4361 o4432 rfl rfl rfl B33 hu4333 rfl (fun a4434 k4435 cs4436 o4437 => ?_)
                refine Cov.clsL (HpLe.refl _) (pick_mem [1, 2, 3] rfl) ?_
                refine Cov.freezeR 0 rfl rfl o4437 [] rfl B33 (fun G4439 e4440 B4441 s4442 => ?_)
                refine Cov.callW (b1 := []) (b2 := [_, _, _, _]) (s1 := []) [_, _, _] [] .d1 rfl rfl Try.call19 rfl rfl (layout_Encode_c (G := G4439) List.mem_cons_self s4442 hu4340) rfl B4441 (fun v4445 bo so G4446 e4447 B4448 h4444 => ?_)
                obtain ⟨a4450, k4451, a4453, k4454, rfl, rfl, rfl, s4452, s4455⟩ := h4444
                refine Cov.same (bl' := [_, _, _, _]) (sl' := []) rfl rfl rfl ?_
                refine Cov.clsL (HpLe.trans e4440 e4447) (pick_mem [1, 2, 3] rfl) ?_
                refine Cov.dq (.move rfl) rfl ?_
                refine Cov.dq (.extract rfl rfl) rfl ?_
                refine Cov.dq (.extract rfl rfl) rfl ?_
                refine Cov.dq (.extract rfl rfl) rfl ?_
                refine Cov.dq (.assign rfl) rfl ?_
                refine Cov.store 0 [_, _] [_, _, _, _] .d1 rfl rfl rfl ty34 rfl rfl rfl rfl ?_
                refine Cov.clsL (HpLe.trans e4440 e4447) (pick_mem [1, 2, 3] rfl) ?_
                refine Cov.dq (.assign rfl) rfl ?_
                refine Cov.draw_end ?_
                refine Cov.prune [(1, _), (5, _), (8, _), (6, _), (7, _), (10, _), (9, _), (11, _)] ⟨rfl, rfl, rfl, rfl, rfl, rfl, rfl, rfl, trivial⟩ ?_
                refine Cov.prune _ ?_ (Cov.same rfl rfl rfl (hb4318 (G4446, b4430, u4340.2.1.1, u4340.2.1.2, a4453, k4454, u4340.1, a4450, k4451, u4340.2.2) ⟨(HpLe.trans e4440 e4447), B4448, s4455, s4452, r4356⟩))
                exact ⟨rfl, rfl, rfl, rfl, rfl, rfl, rfl, rfl, trivial⟩
            · refine Cov.alt ?_ ?_
              · refine Cov.lit [_] [(0, _)] .d1 sl25 ty9 rfl rfl rfl rfl rfl rfl (fun b4456 hb4456 => ?_)
                have o4457 : OL Rep.str G31 [.string x1] ([x1] : List ByteArray) := ((OL.cons rfl (Rep.strI x1) (OL.nil (Rp' := Rep.str))) :)
                refine Cov.reval 45 (n' := ([x1] : List ByteArray).length) rfl rfl ?_
                refine Cov.clsL (HpLe.refl _) (pick_mem [0, 1, 2] rfl) ?_
                refine Cov.alt ?_ ?_
                · refine Cov.own_nil 9 1 ?_
                  refine Cov.appR (Q := Rep.str) 0 .d1 sl25 ty9 rfl rfl rfl rfl rfl (OL.nil (Rp' := Rep.str)) rfl rfl s37 rfl List.mem_cons_self hu4324 rfl (fun a4460 k4461 cs4462 o4463 => ?_)
                  refine Cov.clsL (HpLe.refl _) (pick_mem [0, 1, 2] rfl) ?_
                  refine Cov.alt ?_ ?_
                  · refine Cov.pullS 1 rfl [_, _] rfl ?_
                    refine Cov.appO (Q := Rep.str) 0 .d1 sl25 ty9 rfl rfl rfl rfl rfl rfl o4463 o4457 rfl rfl rfl B33 hu4333 rfl (fun a4465 k4466 cs4467 o4468 => ?_)
                    refine Cov.clsL (HpLe.refl _) (pick_mem [0, 1, 2] rfl) ?_
                    refine Cov.alt ?_ ?_
                    · refine Cov.freezeR 0 rfl rfl o4468 [] rfl B33 (fun G4470 e4471 B4472 s4473 => ?_)
                      refine Cov.callW (b1 := []) (b2 := [_, _, _]) (s1 := []) [_, _, _] [] .d1 rfl rfl Try.call19 rfl rfl (layout_Encode_c (G := G4470) List.mem_cons_self s4473 hu4340) rfl B4472 (fun v4476 bo so G4477 e4478 B4479 h4475 => ?_)
                      obtain ⟨a4481, k4482, a4484, k4485, rfl, rfl, rfl, s4483, s4486⟩ := h4475
                      refine Cov.same (bl' := [_, _, _]) (sl' := []) rfl rfl rfl ?_
                      refine Cov.clsL (HpLe.trans e4471 e4478) (pick_mem [0, 1, 2] rfl) ?_
                      refine Cov.dq (.move rfl) rfl ?_
                      refine Cov.dq (.extract rfl rfl) rfl ?_
                      refine Cov.dq (.extract rfl rfl) rfl ?_
                      refine Cov.dq (.extract rfl rfl) rfl ?_
                      refine Cov.alloc .d1 ty34 rfl (fun b4487 hb4487 => ?_)
                      refine Cov.clsL (HpLe.trans e4471 e4478) (pick_mem [1, 2, 3] rfl) ?_
                      refine Cov.dq (.assign rfl) rfl ?_
                      refine Cov.store 0 [_, _] [_, _, _, _] .d1 rfl rfl rfl ty34 rfl rfl rfl rfl ?_
                      refine Cov.clsL (HpLe.trans e4471 e4478) (pick_mem [1, 2, 3] rfl) ?_
                      refine Cov.dq (.assign rfl) rfl ?_
                      refine Cov.draw_end ?_
                      refine Cov.prune [(1, _), (5, _), (8, _), (6, _), (7, _), (10, _), (9, _), (11, _)] ⟨rfl, rfl, rfl, rfl, rfl, rfl, rfl, rfl, trivial⟩ ?_
                      refine Cov.prune _ ?_ (Cov.same rfl rfl rfl (hb4318 (G4477, b4487, u4340.2.1.1, u4340.2.1.2, a4484, k4485, u4340.1, a4481, k4482, u4340.2.2) ⟨(HpLe.trans e4471 e4478), B4479, s4486, s4483, r4356⟩))
                      exact ⟨rfl, rfl, rfl, rfl, rfl, rfl, rfl, rfl, trivial⟩
                    · refine Cov.alloc .d1 ty34 rfl (fun b4488 hb4488 => ?_)
                      refine Cov.clsL (HpLe.refl _) (pick_mem [1, 2, 3] rfl) ?_
                      refine Cov.freezeR 0 rfl rfl o4468 [] rfl B33 (fun G4489 e4490 B4491 s4492 => ?_)
                      refine Cov.callW (b1 := []) (b2 := [_, _, _, _]) (s1 := []) [_, _, _] [] .d1 rfl rfl Try.call19 rfl rfl (layout_Encode_c (G := G4489) List.mem_cons_self s4492 hu4340) rfl B4491 (fun v4495 bo so G4496 e4497 B4498 h4494 => ?_)
                      obtain ⟨a4500, k4501, a4503, k4504, rfl, rfl, rfl, s4502, s4505⟩ := h4494
                      refine Cov.same (bl' := [_, _, _, _]) (sl' := []) rfl rfl rfl ?_
                      refine Cov.clsL (HpLe.trans e4490 e4497) (pick_mem [1, 2, 3] rfl) ?_
                      refine Cov.dq (.move rfl) rfl ?_
                      refine Cov.dq (.extract rfl rfl) rfl ?_
                      refine Cov.dq (.extract rfl rfl) rfl ?_
                      refine Cov.dq (.extract rfl rfl) rfl ?_
                      refine Cov.dq (.assign rfl) rfl ?_
                      refine Cov.store 0 [_, _] [_, _, _, _] .d1 rfl rfl rfl ty34 rfl rfl rfl rfl ?_
                      refine Cov.clsL (HpLe.trans e4490 e4497) (pick_mem [1, 2, 3] rfl) ?_
                      refine Cov.dq (.assign rfl) rfl ?_
                      refine Cov.draw_end ?_
                      refine Cov.prune [(1, _), (5, _), (8, _), (6, _), (7, _), (10, _), (9, _), (11, _)] ⟨rfl, rfl, rfl, rfl, rfl, rfl, rfl, rfl, trivial⟩ ?_
                      refine Cov.prune _ ?_ (Cov.same rfl rfl rfl (hb4318 (G4496, b4488, u4340.2.1.1, u4340.2.1.2, a4503, k4504, u4340.1, a4500, k4501, u4340.2.2) ⟨(HpLe.trans e4490 e4497), B4498, s4505, s4502, r4356⟩))
                      exact ⟨rfl, rfl, rfl, rfl, rfl, rfl, rfl, rfl, trivial⟩
                  · refine Cov.alloc .d1 ty34 rfl (fun b4506 hb4506 => ?_)
                    refine Cov.clsL (HpLe.refl _) (pick_mem [1, 2, 3] rfl) ?_
                    refine Cov.pullS 1 rfl [_, _] rfl ?_
                    refine Cov.appO (Q := Rep.str) 0 .d1 sl25 ty9 rfl rfl rfl rfl rfl rfl o4463 o4457 rfl rfl rfl B33 hu4333 rfl (fun a4507 k4508 cs4509 o4510 => ?_)
                    refine Cov.clsL (HpLe.refl _) (pick_mem [1, 2, 3] rfl) ?_
                    refine Cov.freezeR 0 rfl rfl o4510 [] rfl B33 (fun G4512 e4513 B4514 s4515 => ?_)
                    refine Cov.callW (b1 := []) (b2 := [_, _, _, _]) (s1 := []) [_, _, _] [] .d1 rfl rfl Try.call19 rfl rfl (layout_Encode_c (G := G4512) List.mem_cons_self s4515 hu4340) rfl B4514 (fun v4518 bo so G4519 e4520 B4521 h4517 => ?_)
                    obtain ⟨a4523, k4524, a4526, k4527, rfl, rfl, rfl, s4525, s4528⟩ := h4517
                    refine Cov.same (bl' := [_, _, _, _]) (sl' := []) rfl rfl rfl ?_
                    refine Cov.clsL (HpLe.trans e4513 e4520) (pick_mem [1, 2, 3] rfl) ?_
                    refine Cov.dq (.move rfl) rfl ?_
                    refine Cov.dq (.extract rfl rfl) rfl ?_
                    refine Cov.dq (.extract rfl rfl) rfl ?_
                    refine Cov.dq (.extract rfl rfl) rfl ?_
                    refine Cov.dq (.assign rfl) rfl ?_
                    refine Cov.store 0 [_, _] [_, _, _, _] .d1 rfl rfl rfl ty34 rfl rfl rfl rfl ?_
                    refine Cov.clsL (HpLe.trans e4513 e4520) (pick_mem [1, 2, 3] rfl) ?_
                    refine Cov.dq (.assign rfl) rfl ?_
                    refine Cov.draw_end ?_
                    refine Cov.prune [(1, _), (5, _), (8, _), (6, _), (7, _), (10, _), (9, _), (11, _)] ⟨rfl, rfl, rfl, rfl, rfl, rfl, rfl, rfl, trivial⟩ ?_
                    refine Cov.prune _ ?_ (Cov.same rfl rfl rfl (hb4318 (G4519, b4506, u4340.2.1.1, u4340.2.1.2, a4526, k4527, u4340.1, a4523, k4524, u4340.2.2) ⟨(HpLe.trans e4513 e4520), B4521, s4528, s4525, r4356⟩))
                    exact ⟨rfl, rfl, rfl, rfl, rfl, rfl, rfl, rfl, trivial⟩
                · refine Cov.alloc .d1 ty34 rfl (fun b4529 hb4529 => ?_)
                  refine Cov.clsL (HpLe.refl _) (pick_mem [1, 2, 3] rfl) ?_
                  refine Cov.own_nil 9 1 ?_
                  refine Cov.appR (Q := Rep.str) 0 .d1 sl25 ty9 rfl rfl rfl rfl rfl (OL.nil (Rp' := Rep.str)) rfl rfl s37 rfl List.mem_cons_self hu4324 rfl (fun a4531 k4532 cs4533 o4534 => ?_)
                  refine Cov.clsL (HpLe.refl _) (pick_mem [1, 2, 3] rfl) ?_
                  refine Cov.pullS 1 rfl [_, _] rfl ?_
                  refine Cov.appO (Q := Rep.str) 0 .d1 sl25 ty9 rfl rfl rfl rfl rfl rfl o4534 o4457 rfl rfl rfl B33 hu4333 rfl (fun a4536 k4537 cs4538 o4539 => ?_)
                  refine Cov.clsL (HpLe.refl _) (pick_mem [1, 2, 3] rfl) ?_
                  refine Cov.freezeR 0 rfl rfl o4539 [] rfl B33 (fun G4541 e4542 B4543 s4544 => ?_)
                  refine Cov.callW (b1 := []) (b2 := [_, _, _, _]) (s1 := []) [_, _, _] [] .d1 rfl rfl Try.call19 rfl rfl (layout_Encode_c (G := G4541) List.mem_cons_self s4544 hu4340) rfl B4543 (fun v4547 bo so G4548 e4549 B4550 h4546 => ?_)
                  obtain ⟨a4552, k4553, a4555, k4556, rfl, rfl, rfl, s4554, s4557⟩ := h4546
                  refine Cov.same (bl' := [_, _, _, _]) (sl' := []) rfl rfl rfl ?_
                  refine Cov.clsL (HpLe.trans e4542 e4549) (pick_mem [1, 2, 3] rfl) ?_
                  refine Cov.dq (.move rfl) rfl ?_
                  refine Cov.dq (.extract rfl rfl) rfl ?_
                  refine Cov.dq (.extract rfl rfl) rfl ?_
                  refine Cov.dq (.extract rfl rfl) rfl ?_
                  refine Cov.dq (.assign rfl) rfl ?_
                  refine Cov.store 0 [_, _] [_, _, _, _] .d1 rfl rfl rfl ty34 rfl rfl rfl rfl ?_
                  refine Cov.clsL (HpLe.trans e4542 e4549) (pick_mem [1, 2, 3] rfl) ?_
                  refine Cov.dq (.assign rfl) rfl ?_
                  refine Cov.draw_end ?_
                  refine Cov.prune [(1, _), (5, _), (8, _), (6, _), (7, _), (10, _), (9, _), (11, _)] ⟨rfl, rfl, rfl, rfl, rfl, rfl, rfl, rfl, trivial⟩ ?_
                  refine Cov.prune _ ?_ (Cov.same rfl rfl rfl (hb4318 (G4548, b4529, u4340.2.1.1, u4340.2.1.2, a4555, k4556, u4340.1, a4552, k4553, u4340.2.2) ⟨(HpLe.trans e4542 e4549), B4550, s4557, s4554, r4356⟩))
                  exact ⟨rfl, rfl, rfl, rfl, rfl, rfl, rfl, rfl, trivial⟩
              · refine Cov.alloc .d1 ty34 rfl (fun b4558 hb4558 => ?_)
                refine Cov.clsL (HpLe.refl _) (pick_mem [1, 2, 3] rfl) ?_
                refine Cov.alt ?_ ?_
                · refine Cov.own_nil 9 1 ?_
                  refine Cov.appR (Q := Rep.str) 0 .d1 sl25 ty9 rfl rfl rfl rfl rfl (OL.nil (Rp' := Rep.str)) rfl rfl s37 rfl List.mem_cons_self hu4324 rfl (fun a4560 k4561 cs4562 o4563 => ?_)
                  refine Cov.clsL (HpLe.refl _) (pick_mem [1, 2, 3] rfl) ?_
                  refine Cov.lit [_] [(0, _)] .d1 sl25 ty9 rfl rfl rfl rfl rfl rfl (fun b4565 hb4565 => ?_)
                  have o4566 : OL Rep.str G31 [.string x1] ([x1] : List ByteArray) := ((OL.cons rfl (Rep.strI x1) (OL.nil (Rp' := Rep.str))) :)
                  refine Cov.reval 45 (n' := ([x1] : List ByteArray).length) rfl rfl ?_
                  refine Cov.clsL (HpLe.refl _) (pick_mem [1, 2, 3] rfl) ?_
                  refine Cov.appO (Q := Rep.str) 0 .d1 sl25 ty9 rfl rfl rfl rfl rfl rfl o4563 o4566 rfl rfl rfl B33 hu4333 rfl (fun a4568 k4569 cs4570 o4571 => ?_)
                  refine Cov.clsL (HpLe.refl _) (pick_mem [1, 2, 3] rfl) ?_
                  refine Cov.freezeR 0 rfl rfl o4571 [] rfl B33 (fun G4573 e4574 B4575 s4576 => ?_)
                  refine Cov.callW (b1 := []) (b2 := [_, _, _, _]) (s1 := []) [_, _, _] [] .d1 rfl rfl Try.call19 rfl rfl (layout_Encode_c (G := G4573) List.mem_cons_self s4576 hu4340) rfl B4575 (fun v4579 bo so G4580 e4581 B4582 h4578 => ?_)
                  obtain ⟨a4584, k4585, a4587, k4588, rfl, rfl, rfl, s4586, s4589⟩ := h4578
                  refine Cov.same (bl' := [_, _, _, _]) (sl' := []) rfl rfl rfl ?_
                  refine Cov.clsL (HpLe.trans e4574 e4581) (pick_mem [1, 2, 3] rfl) ?_
                  refine Cov.dq (.move rfl) rfl ?_
                  refine Cov.dq (.extract rfl rfl) rfl ?_
                  refine Cov.dq (.extract rfl rfl) rfl ?_
                  refine Cov.dq (.extract rfl rfl) rfl ?_
                  refine Cov.dq (.assign rfl) rfl ?_
                  refine Cov.store 0 [_, _] [_, _, _, _] .d1 rfl rfl rfl ty34 rfl rfl rfl rfl ?_
                  refine Cov.clsL (HpLe.trans e4574 e4581) (pick_mem [1, 2, 3] rfl) ?_
                  refine Cov.dq (.assign rfl) rfl ?_
                  refine Cov.draw_end ?_
                  refine Cov.prune [(1, _), (5, _), (8, _), (6, _), (7, _), (10, _), (9, _), (11, _)] ⟨rfl, rfl, rfl, rfl, rfl, rfl, rfl, rfl, trivial⟩ ?_
                  refine Cov.prune _ ?_ (Cov.same rfl rfl rfl (hb4318 (G4580, b4558, u4340.2.1.1, u4340.2.1.2, a4587, k4588, u4340.1, a4584, k4585, u4340.2.2) ⟨(HpLe.trans e4574 e4581), B4582, s4589, s4586, r4356⟩))
                  exact ⟨rfl, rfl, rfl, rfl, rfl, rfl, rfl, rfl, trivial⟩
                · refine Cov.lit [_] [(0, _)] .d1 sl25 ty9 rfl rfl rfl rfl rfl rfl (fun b4590 hb4590 => ?_)
                  have o4591 : OL Rep.str G31 [.string x1] ([x1] : List ByteArray) := ((OL.cons rfl (Rep.strI x1) (OL.nil (Rp' := Rep.str))) :)
                  refine Cov.reval 45 (n' := ([x1] : List ByteArray).length) rfl rfl ?_
                  refine Cov.clsL (HpLe.refl _) (pick_mem [1, 2, 3] rfl) ?_
                  refine Cov.own_nil 9 1 ?_
                  refine Cov.appR (Q := Rep.str) 0 .d1 sl25 ty9 rfl rfl rfl rfl rfl (OL.nil (Rp' := Rep.str)) rfl rfl s37 rfl List.mem_cons_self hu4324 rfl (fun a4594 k4595 cs4596 o4597 => ?_)
                  refine Cov.clsL (HpLe.refl _) (pick_mem [1, 2, 3] rfl) ?_
                  refine Cov.pullS 1 rfl [_, _] rfl ?_
                  refine Cov.appO (Q := Rep.str) 0 .d1 sl25 ty9 rfl rfl rfl rfl rfl rfl o4597 o4591 rfl rfl rfl B33 hu4333 rfl (fun a4599 k4600 cs4601 o4602 => ?_)
                  refine Cov.clsL (HpLe.refl _) (pick_mem [1, 2, 3] rfl) ?_
                  refine Cov.freezeR 0 rfl rfl o4602 [] rfl B33 (fun G4604 e4605 B4606 s4607 => ?_)
                  refine Cov.callW (b1 := []) (b2 := [_, _, _, _]) (s1 := []) [_, _, _] [] .d1 rfl rfl Try.call19 rfl rfl (layout_Encode_c (G := G4604) List.mem_cons_self s4607 hu4340) rfl B4606 (fun v4610 bo so G4611 e4612 B4613 h4609 => ?_)
                  obtain ⟨a4615, k4616, a4618, k4619, rfl, rfl, rfl, s4617, s4620⟩ := h4609
                  refine Cov.same (bl' := [_, _, _, _]) (sl' := []) rfl rfl rfl ?_
                  refine Cov.clsL (HpLe.trans e4605 e4612) (pick_mem [1, 2, 3] rfl) ?_
                  refine Cov.dq (.move rfl) rfl ?_
                  refine Cov.dq (.extract rfl rfl) rfl ?_
                  refine Cov.dq (.extract rfl rfl) rfl ?_
                  refine Cov.dq (.extract rfl rfl) rfl ?_
                  refine Cov.dq (.assign rfl) rfl ?_
                  refine Cov.store 0 [_, _] [_, _, _, _] .d1 rfl rfl rfl ty34 rfl rfl rfl rfl ?_
                  refine Cov.clsL (HpLe.trans e4605 e4612) (pick_mem [1, 2, 3] rfl) ?_
                  refine Cov.dq (.assign rfl) rfl ?_
                  refine Cov.draw_end ?_
                  refine Cov.prune [(1, _), (5, _), (8, _), (6, _), (7, _), (10, _), (9, _), (11, _)] ⟨rfl, rfl, rfl, rfl, rfl, rfl, rfl, rfl, trivial⟩ ?_
                  refine Cov.prune _ ?_ (Cov.same rfl rfl rfl (hb4318 (G4611, b4558, u4340.2.1.1, u4340.2.1.2, a4618, k4619, u4340.1, a4615, k4616, u4340.2.2) ⟨(HpLe.trans e4605 e4612), B4613, s4620, s4617, r4356⟩))
                  exact ⟨rfl, rfl, rfl, rfl, rfl, rfl, rfl, rfl, trivial⟩
    · intro hb13
      refine Cov.split_b 22 rfl (fun c12 => ?_) (fun c12 => ?_)
      · refine Cov.g_off rfl rfl rfl ?_
        refine Cov.g_off rfl rfl rfl ?_
        refine Cov.g_off rfl rfl rfl ?_
        refine Cov.q .ro (.pick_t rfl rfl) rfl ?_
        refine Cov.prune _ ?_ (Cov.same rfl rfl rfl (hb13 () trivial))
        exact ⟨dor_t c12, rfl, rfl, trivial⟩
      · refine Cov.g_on rfl ?_
        refine Cov.q .ro (.move rfl) rfl ?_
        refine Cov.g_on rfl ?_
        refine Cov.q .ro (.len_s rfl Try.underlying9) rfl ?_
        refine Cov.g_on rfl ?_
        refine Cov.q .ro (.gtr rfl rfl) rfl ?_
        refine Cov.q .ro (.pick_f rfl rfl) rfl ?_
        refine Cov.prune _ ?_ (Cov.same rfl rfl rfl (hb13 () trivial))
        exact ⟨dor_f (bne_of c12), rfl, rfl, trivial⟩

end Go.Proofs.Ythgmcgldmahgeaa
