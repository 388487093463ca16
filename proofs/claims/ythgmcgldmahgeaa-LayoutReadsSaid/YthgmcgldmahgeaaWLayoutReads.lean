/- The walks. Printed by wip/lift/drive.py. -/
import Derived.Test.YthgmcgldmahgeaaW3
namespace Go.Proofs.Ythgmcgldmahgeaa
open Go.RowKit
set_option linter.unusedSimpArgs false
set_option linter.unusedVariables false
set_option synthInstance.maxSize 2000
set_option synthInstance.maxHeartbeats 400000

set_option maxHeartbeats 4000000 in
set_option maxRecDepth 100000 in
theorem law13_LayoutReads_c {Fs : List Hp} {G : Hp} {a0 : Option Addr} {k0 : Nat} {x0 : List Int} {x1_0 : Int} {a1_1 : Option Addr} {k1_1 : Nat} {x1_1 : List (Int × Int × Int)} {a2 : Option Addr} {k2 : Nat} {x2 : List (List Int)} {x3 : Int} {x4 : Int} {r : Bool} (hG : G ∈ Fs) (s0 : SlR (Rep.int .i64) G a0 k0 x0) (s1_1 : SlR (Rep.pair (Rep.int .i64) (Rep.pair (Rep.int .i64) (Rep.int .i64))) G a1_1 k1_1 x1_1) (s2 : SlR (Rep.sl (Rep.int .i64)) G a2 k2 x2) (h : law13_LayoutReads x0 (x1_0, x1_1) x2 x3 x4 = some r) : RetS Try.prog 8 #[.slice a0 x0.length k0, .agg #[.int .i64 x1_0, .slice a1_1 x1_1.length k1_1], .slice a2 x2.length k2, .int .i64 x3, .int .i64 x4] Fs [] [] (fun v bo so => v = .bool r ∧ bo = [] ∧ so = []) := by
  unfold law13_LayoutReads at h
  try dsimp only at h
  refine RetS.of (vs := [_, _, _, _, _]) Try.func8 rfl Try.ntmps8 [(0, _), (1, _), (2, _), (3, _), (4, _)] ⟨rfl, rfl, rfl, rfl, rfl, trivial⟩ rfl hG fun w0 S0 hS0 B0 => ?_
  refine Cov.seq ?_
  refine Cov.region rfl ?_
  refine Cov.box [_, _] .ro rfl rfl rfl (fun b1 hb1 => ?_)
  refine Cov.q .ro (.assign rfl) rfl ?_
  refine Cov.region_end ?_
  refine Cov.seq ?_
  refine Cov.seq ?_
  refine Cov.region rfl ?_
  obtain ⟨u2, hu2, r3⟩ := bind_some h; clear h
  refine Cov.callS (b1 := []) (b2 := [_]) (s1 := []) [] [] .ro rfl rfl Try.call10 rfl rfl (law13_sane_c (G := G) List.mem_cons_self  hu2) rfl (fun v5 bo so h4 => ?_)
  obtain ⟨rfl, rfl, rfl⟩ := h4
  refine Cov.same (bl' := [_]) (sl' := []) rfl rfl rfl ?_
  refine Cov.q .ro (.not rfl) rfl ?_
  refine Cov.region_end ?_
  refine Cov.cond rfl (fun c6 => ?_) (fun c6 => ?_)
  · have r7 := ifT r3 c6; clear r3
    refine Cov.seq ?_
    refine Cov.region rfl ?_
    refine Cov.q .ro (.assign rfl) rfl ?_
    refine Cov.region_end ?_
    cases r7
    refine Cov.drop 1 0 [] _ rfl rfl ?_
    refine Cov.retS (c := ⟨8, none⟩) (.inr ⟨_, rfl⟩) [.tmp 10] [_] rfl Try.func8 Try.results8 ⟨RV.tmp rfl, trivial⟩ (fun _ h => List.mem_cons_of_mem _ h) ⟨rfl, rfl, rfl⟩
  · have r8 := ifBF r3 c6; clear r3
    refine Cov.skip ?_
    refine Cov.seq ?_
    refine Cov.seq ?_
    refine Cov.region rfl ?_
    refine Cov.q .ro (.move rfl) rfl ?_
    obtain ⟨u9, hu9, r10⟩ := bind_some r8; clear r8
    refine Cov.callS (b1 := []) (b2 := [_]) (s1 := []) [_] [] .ro rfl rfl Try.call11 rfl rfl (make_Few_c (G := G) List.mem_cons_self s0 hu9) rfl (fun v12 bo so h11 => ?_)
    obtain ⟨rfl, rfl, rfl⟩ := h11
    refine Cov.same (bl' := [_]) (sl' := []) rfl rfl rfl ?_
    refine Cov.q .ro (.not rfl) rfl ?_
    refine Cov.q .ro (.move rfl) rfl ?_
    refine Cov.cutR 5 (β := Unit) (fun y => [(44, .bool (decide (((!u9) = true) ∨ (300 < (x1_1.length : Int)))))]) [(0, _), (2, _), (3, _), (4, _), (6, _)] (fun y => G :: Fs) (fun y => []) [_] (fun y => []) [] (fun y => True) ⟨rfl, rfl, rfl, rfl, rfl, trivial⟩ [0] rfl [] rfl ?_ ?_
    · rintro _ _
      refine Cov.prune [(44, .bool (decide (((!u9) = true) ∨ (300 < (x1_1.length : Int))))), (0, _), (2, _), (3, _), (4, _), (6, _)] ⟨rfl, rfl, rfl, rfl, rfl, rfl, trivial⟩ ?_
      refine Cov.same (bl' := [_]) (sl' := []) (Fs' := G :: Fs) rfl rfl rfl ?_
      refine Cov.q .ro (.move rfl) rfl ?_
      obtain ⟨u23, h24, r25⟩ := bind_some r10; clear r10
      refine Cov.cutR 4 (β := Unit) (fun y => [(49, .bool u23)]) [(0, _), (2, _), (3, _), (4, _), (6, _)] (fun y => G :: Fs) (fun y => []) [_] (fun y => []) [] (fun y => True) ⟨rfl, rfl, rfl, rfl, rfl, trivial⟩ [0] rfl [] rfl ?_ ?_
      · rintro _ _
        refine Cov.prune [(49, .bool u23), (0, _), (2, _), (3, _), (4, _), (6, _)] ⟨rfl, rfl, rfl, rfl, rfl, rfl, trivial⟩ ?_
        refine Cov.same (bl' := [_]) (sl' := []) (Fs' := G :: Fs) rfl rfl rfl ?_
        refine Cov.region_end ?_
        refine Cov.cond rfl (fun c28 => ?_) (fun c28 => ?_)
        · have r29 := ifT r25 c28; clear r25
          refine Cov.seq ?_
          refine Cov.region rfl ?_
          refine Cov.q .ro (.assign rfl) rfl ?_
          refine Cov.region_end ?_
          cases r29
          refine Cov.drop 1 0 [] _ rfl rfl ?_
          refine Cov.retS (c := ⟨8, none⟩) (.inr ⟨_, rfl⟩) [.tmp 10] [_] rfl Try.func8 Try.results8 ⟨RV.tmp rfl, trivial⟩ (fun _ h => List.mem_cons_of_mem _ h) ⟨rfl, rfl, rfl⟩
        · have r30 := ifBF r25 c28; clear r25
          refine Cov.skip ?_
          refine Cov.seq ?_
          refine Cov.region rfl ?_
          refine Cov.q .ro (.move rfl) rfl ?_
          obtain ⟨u31, hu31, r32⟩ := bind_some r30; clear r30
          refine Cov.callS (b1 := []) (b2 := [_]) (s1 := []) [_] [] .ro rfl rfl Try.call13 rfl rfl (make_New_c (G := G) List.mem_cons_self s0 hu31) rfl (fun v34 bo so h33 => ?_)
          obtain ⟨a36, k37, b35, rfl, rfl, rfl, s38⟩ := h33
          refine Cov.same (bl' := [_, _]) (sl' := []) rfl rfl rfl ?_
          refine Cov.q .ro (.assign rfl) rfl ?_
          refine Cov.region_end ?_
          refine Cov.seq ?_
          refine Cov.region rfl ?_
          refine Cov.q .ro (.move rfl) rfl ?_
          obtain ⟨u39, hu39, r40⟩ := bind_some r32; clear r32
          refine Cov.callW (b1 := [_]) (b2 := [_]) (s1 := []) [_] [] .ro rfl rfl Try.call14 rfl rfl (make_Laid_c (G := G) List.mem_cons_self s38 hu39) rfl B0 (fun v42 bo so G43 e44 B45 h41 => ?_)
          obtain ⟨a47, k48, a50, k51, a53, k54, a56, k57, rfl, rfl, rfl, s49, s52, s55, s58⟩ := h41
          refine Cov.same (bl' := [_, _]) (sl' := []) rfl rfl rfl ?_
          refine Cov.q .ro (.move rfl) rfl ?_
          refine Cov.q .ro (.extract rfl rfl) rfl ?_
          refine Cov.q .ro (.extract rfl rfl) rfl ?_
          refine Cov.q .ro (.extract rfl rfl) rfl ?_
          refine Cov.q .ro (.extract rfl rfl) rfl ?_
          refine Cov.alloc .ro ty24 rfl (fun b59 hb59 => ?_)
          refine Cov.alloc .ro ty34 rfl (fun b60 hb60 => ?_)
          refine Cov.store 1 [_] [_, _, _, _] .ro rfl rfl rfl ty24 rfl rfl rfl rfl ?_
          refine Cov.q .ro (.assign rfl) rfl ?_
          refine Cov.q .ro (.assign rfl) rfl ?_
          refine Cov.store 0 [_, _] [_, _, _, _] .ro rfl rfl rfl ty34 rfl rfl rfl rfl ?_
          refine Cov.region_end ?_
          refine Cov.seq ?_
          refine Cov.cutG (β := Nat × Int × (List (Int × Int × Int)) × Option Addr × Nat × List Value) (fun y => [(16, .pointer (some ⟨y.1, 0, none⟩))]) [(2, _), (3, _), (4, _), (6, _), (11, _), (12, _), (15, _), (14, _)] (fun y => G43 :: Fs) (fun y => [(y.1, .cells #[.int .i64 y.2.1, .slice y.2.2.2.1 y.2.2.1.length y.2.2.2.2.1] 34 (0, 0))]) [_, _, _, _] (fun y => [.s (.slice y.2.2.2.1 y.2.2.1.length y.2.2.2.2.1) 56 3 y.2.2.1.length y.2.2.2.2.2]) [] (fun y => OL (Rep.pair (Rep.int .i64) (Rep.pair (Rep.int .i64) (Rep.int .i64))) G43 y.2.2.2.2.2 y.2.2.1 ∧ (law13_LayoutReads_J7 x2 x3 x4 u39.2.2.1 u39.2.2.2.1.1 u39.2.2.2.1.2 u39.1 u39.2.2.2.2.1 u39.2.2.2.2.2 x1_0 x1_1) y.2.1 y.2.2.1 = some r) ⟨rfl, rfl, rfl, rfl, rfl, rfl, rfl, rfl, trivial⟩ [0, 1, 2, 3] rfl [] rfl ?_ ?_
          · intro y hI
            obtain ⟨b4081, v4082, v4083, a4084, k4085, cs4086⟩ := y
            obtain ⟨o4087, r4090⟩ := hI
            try dsimp only at o4087 r4090
            refine Cov.prune [(16, .pointer (some ⟨b4081, 0, none⟩)), (2, _), (3, _), (4, _), (6, _), (11, _), (12, _), (15, _), (14, _)] ⟨rfl, rfl, rfl, rfl, rfl, rfl, rfl, rfl, rfl, trivial⟩ ?_
            refine Cov.same (bl' := [(b4081, .cells #[.int .i64 v4082, .slice a4084 v4083.length k4085] 34 (0, 0)), _, _, _, _]) (sl' := [.s (.slice a4084 v4083.length k4085) 56 3 v4083.length cs4086]) (Fs' := G43 :: Fs) rfl rfl rfl ?_
            unfold law13_LayoutReads_J7 at r4090
            try dsimp only at r4090
            refine Cov.seq ?_
            refine Cov.seq ?_
            refine Cov.region rfl ?_
            refine Cov.q .ro (.fieldAddr 1 rfl fl34_1 ty32.sz rfl) rfl ?_
            refine Cov.q .ro (.load_own 0 rfl rfl ty32 rfl) rfl ?_
            refine Cov.q .ro (.len_sl rfl rfl sl32) rfl ?_
            refine Cov.q .ro (.gtr rfl rfl) rfl ?_
            refine Cov.region_end ?_
            refine Cov.cutI (β := (List (Int × Int × Int)) × Option Addr × Nat × List Value × List Int × Option Addr × Nat × Int) (fun y => []) [(16, _), (2, _), (3, _), (4, _), (6, _), (12, _), (15, _), (14, _)] (fun y => G43 :: Fs) (fun y => [(b4081, .cells #[.int .i64 v4082, .slice y.2.1 y.1.length y.2.2.1] 34 (0, 0)), (b35, .cells #[.slice y.2.2.2.2.2.1 y.2.2.2.2.1.length y.2.2.2.2.2.2.1, .int .i64 y.2.2.2.2.2.2.2] 69 (0, 0))]) [_, _, _] (fun y => [.s (.slice y.2.1 y.1.length y.2.2.1) 56 3 y.1.length y.2.2.2.1]) [] (fun y => OL (Rep.pair (Rep.int .i64) (Rep.pair (Rep.int .i64) (Rep.int .i64))) G43 y.2.2.2.1 y.1 ∧ SlR (Rep.int .i64) G43 y.2.2.2.2.2.1 y.2.2.2.2.2.2.1 y.2.2.2.2.1 ∧ (law13_LayoutReads_J6 x2 x3 x4 u39.2.2.1 v4082 u39.2.2.2.1.1 u39.2.2.2.1.2 u39.1 x1_0 x1_1) y.1 y.2.2.2.2.1 y.2.2.2.2.2.2.2 = some r) ⟨rfl, rfl, rfl, rfl, rfl, rfl, rfl, rfl, trivial⟩ [1, 2, 4] rfl [] rfl ?_ ?_
            · intro y hI
              obtain ⟨v12205, a12206, k12207, cs12208, v12211, a12212, k12213, v12215⟩ := y
              obtain ⟨o12209, s12214, r12217⟩ := hI
              try dsimp only at o12209 s12214 r12217
              refine Cov.prune [(16, _), (2, _), (3, _), (4, _), (6, _), (12, _), (15, _), (14, _)] ⟨rfl, rfl, rfl, rfl, rfl, rfl, rfl, rfl, trivial⟩ ?_
              refine Cov.same (bl' := [(b4081, .cells #[.int .i64 v4082, .slice a12206 v12205.length k12207] 34 (0, 0)), (b35, .cells #[.slice a12212 v12211.length k12213, .int .i64 v12215] 69 (0, 0)), _, _, _]) (sl' := [.s (.slice a12206 v12205.length k12207) 56 3 v12205.length cs12208]) (Fs' := G43 :: Fs) rfl rfl rfl ?_
              unfold law13_LayoutReads_J6 at r12217
              try dsimp only at r12217
              refine Cov.seq ?_
              refine Cov.seq ?_
              refine Cov.region rfl ?_
              refine Cov.q .ro (.load_own_a 4 [_, _] rfl rfl ty34 rfl) rfl ?_
              refine Cov.q .ro (.load_own_a 2 [_, _] rfl rfl ty34 rfl) rfl ?_
              refine Cov.q .ro (.load_own_a 0 [_, _] rfl rfl ty34 rfl) rfl ?_
              refine Cov.freezeR 0 rfl rfl o12209 [] rfl B45 (fun G12228 e12229 B12230 s12231 => ?_)
              refine Cov.lit [_, _, _, _, _, _] [(0, _), (1, _), (2, _)] .ro sl62 ty34 rfl rfl rfl rfl rfl rfl (fun b12233 hb12233 => ?_)
              have o12234 : OL (Rep.pair (Rep.int .i64) (Rep.sl (Rep.pair (Rep.int .i64) (Rep.pair (Rep.int .i64) (Rep.int .i64))))) G12228 [.int .i64 x1_0, .slice a1_1 x1_1.length k1_1, .int .i64 u39.2.2.2.1.1, .slice a53 u39.2.2.2.1.2.length k54, .int .i64 v4082, .slice a12206 v12205.length k12207] ([(x1_0, x1_1), u39.2.2.2.1, (v4082, v12205)] : List (Int × (List (Int × Int × Int)))) := ((OL.cons rfl (Rep.pairI (Rep.intI .i64 x1_0) (Rep.slI (SlR.mono (HpLe.trans e44 e12229) s1_1))) (OL.cons rfl (Rep.pairI (Rep.intI .i64 u39.2.2.2.1.1) (Rep.slI (SlR.mono e12229 s55))) (OL.cons rfl (Rep.pairI (Rep.intI .i64 v4082) (Rep.slI s12231)) (OL.nil (Rp' := (Rep.pair (Rep.int .i64) (Rep.sl (Rep.pair (Rep.int .i64) (Rep.pair (Rep.int .i64) (Rep.int .i64)))))))))) :)
              refine Cov.reval 115 (n' := ([(x1_0, x1_1), u39.2.2.2.1, (v4082, v12205)] : List (Int × (List (Int × Int × Int)))).length) rfl rfl ?_
              refine Cov.q .ro (.len_sl rfl rfl sl62) rfl ?_
              refine Cov.q .ro (.move rfl) rfl ?_
              refine Cov.region_end ?_
              refine Cov.block ?_
              refine Cov.pull 4 rfl [_, _, _, _, _] rfl ?_
              refine Cov.pull 4 rfl [_, _, _, _, _] rfl ?_
              refine Cov.pull 4 rfl [_, _, _, _, _] rfl ?_
              refine Cov.pull 4 rfl [_, _, _, _, _] rfl ?_
              refine Cov.pull 4 rfl [_, _, _, _, _] rfl ?_
              refine Cov.loop2 (α := Nat × (List (Int × (List (Int × Int × Int)))) × Hp × Int × Int × Int × Int × Int) (fun y => [(117, .int .i64 (y.1 : Int))]) [(2, _), (3, _), (4, _), (12, _), (14, _), (115, _), (116, _)] (fun y => [y.2.2.1]) (fun y => [(b4081, .cells #[.int .i64 y.2.2.2.1, .slice a12206 v12205.length k12207] 34 (0, 0)), (b35, .cells #[.slice a12212 v12211.length k12213, .int .i64 y.2.2.2.2.1] 69 (0, 0)), (b60, .cells #[.int .i64 y.2.2.2.2.2.1, .slice a53 u39.2.2.2.1.2.length k54] 34 (0, 0)), (b59, .cells #[.int .i64 y.2.2.2.2.2.2.1] 24 (0, 0)), (b1, .cells #[.int .i64 y.2.2.2.2.2.2.2, .slice a1_1 x1_1.length k1_1] 34 (0, 0))]) [] (fun y => []) [_] (fun y => HpLe G12228 y.2.2.1 ∧ Bd w0 S0 Fs y.2.2.1 ∧ List.drop y.1 ([(x1_0, x1_1), u39.2.2.2.1, (v4082, v12205)] : List (Int × (List (Int × Int × Int)))) = y.2.1 ∧ law13_LayoutReads_L5 x2 x3 x4 u39.2.2.1 y.2.1 y.2.2.2.1 y.2.2.2.2.1 y.2.2.2.2.2.1 y.2.2.2.2.2.2.1 y.2.2.2.2.2.2.2 = some r) (fun y => y.2.1.length) (0, ([(x1_0, x1_1), u39.2.2.2.1, (v4082, v12205)] : List (Int × (List (Int × Int × Int)))), G12228, v4082, v12215, u39.2.2.2.1.1, u39.1, x1_0) ⟨(HpLe.refl _), B12230, rfl, r12217⟩ ⟨rfl, rfl, rfl, rfl, rfl, rfl, rfl, rfl, trivial⟩ rfl rfl rfl (fun y hI hb13299 => ?_)
              obtain ⟨i13286, w13287, G13289, v13293, v13294, v13295, v13296, v13297⟩ := y
              obtain ⟨e13290, B13291, g13288, r13298⟩ := hI
              try dsimp only at e13290 B13291 g13288 r13298
              refine Cov.prune [(117, .int .i64 (i13286 : Int)), (2, _), (3, _), (4, _), (12, _), (14, _), (115, _), (116, _)] ⟨rfl, rfl, rfl, rfl, rfl, rfl, rfl, rfl, trivial⟩ ?_
              refine Cov.same (bl' := [(b4081, .cells #[.int .i64 v13293, .slice a12206 v12205.length k12207] 34 (0, 0)), (b35, .cells #[.slice a12212 v12211.length k12213, .int .i64 v13294] 69 (0, 0)), (b60, .cells #[.int .i64 v13295, .slice a53 u39.2.2.2.1.2.length k54] 34 (0, 0)), (b59, .cells #[.int .i64 v13296] 24 (0, 0)), (b1, .cells #[.int .i64 v13297, .slice a1_1 x1_1.length k1_1] 34 (0, 0))]) (sl' := [_]) (Fs' := G13289 :: Fs) rfl rfl rfl ?_
              cases w13287 with
              | nil =>
                rw [law13_LayoutReads_L5] at r13298; try dsimp only at r13298
                refine Cov.seq ?_
                refine Cov.region rfl ?_
                refine Cov.q .ro (.lss rfl rfl) rfl ?_
                refine Cov.region_end ?_
                refine Cov.seq ?_
                refine Cov.cond_dec rfl (fun c => absurd c (drop_nil g13288)) (fun _ => ?_)
                refine Cov.exit rfl ?_
                refine Cov.seq ?_
                refine Cov.region rfl ?_
                refine Cov.q .ro (.assign rfl) rfl ?_
                refine Cov.region_end ?_
                cases r13298
                refine Cov.drop 5 0 [] _ rfl rfl ?_
                refine Cov.drop 0 1 _ [] rfl rfl ?_
                refine Cov.retS (c := ⟨8, none⟩) (.inr ⟨_, rfl⟩) [.tmp 10] [_] rfl Try.func8 Try.results8 ⟨RV.tmp rfl, trivial⟩ (fun _ h => List.mem_cons_of_mem _ h) ⟨rfl, rfl, rfl⟩
              | cons x13311 xs13312 =>
                have r13310 : law13_LayoutReads_B5 x2 x3 x4 u39.2.2.1 (law13_LayoutReads_L5 x2 x3 x4 u39.2.2.1 xs13312) x13311 v13293 v13294 v13295 v13296 v13297 = some r := r13298; clear r13298; unfold law13_LayoutReads_B5 at r13310; try dsimp only at r13310
                refine Cov.seq ?_
                refine Cov.region rfl ?_
                refine Cov.q .ro (.lss rfl rfl) rfl ?_
                refine Cov.region_end ?_
                refine Cov.seq ?_
                refine Cov.cond_dec rfl (fun _ => ?_) (fun c => absurd (drop_lt g13288) c)
                refine Cov.skip ?_
                refine Cov.seq ?_
                refine Cov.block ?_
                refine Cov.seq ?_
                refine Cov.region rfl ?_
                obtain ⟨c13313, p13314, h13315⟩ := OL.get (OL.mono e13290 o12234) (drop_idx g13288)
                obtain ⟨_, _, rfl, rfl, a13316, k13317, rfl, s13318⟩ := h13315
                refine Cov.q .ro (.idxO 0 rfl rfl rfl (drop_idx g13288) sl62 ty34.sz) rfl ?_
                refine Cov.q .ro (.loadO_a 0 0 [_, _] rfl (drop_idx g13288) p13314 rfl (.inl ⟨rfl, rfl⟩) ty34 rfl) rfl ?_
                refine Cov.alloc .ro ty34 rfl (fun b13319 hb13319 => ?_)
                refine Cov.store 0 [_, _] [_, _, _, _, _, _] .ro rfl rfl rfl ty34 rfl rfl rfl rfl ?_
                refine Cov.region_end ?_
                refine Cov.seq ?_
                refine Cov.seq ?_
                refine Cov.drawL (.q 0 (.q 2 (.e 1 1 (.e 3 1 (.q 4 .nil))))) [_, _, _, _, _, _] (by kernel_rfl) (by kernel_rfl) (pick_mem [0, 1, 2, 3, 4, 5] rfl) ?_
                refine Cov.dq (.load_own_a 0 [_, _] rfl rfl ty34 rfl) rfl ?_
                refine Cov.dq (.load_own_a 0 [_, _] rfl rfl ty34 rfl) rfl ?_
                obtain ⟨u13320, hu13320, r13321⟩ := bind_some r13310; clear r13310
                refine Cov.callS (b1 := []) (b2 := [_, _, _, _, _, _]) (s1 := []) [_] [] .d1 rfl rfl Try.call29 rfl rfl (layout_Most_c (G := G13289) List.mem_cons_self s13318 hu13320) rfl (fun v13323 bo so h13322 => ?_)
                obtain ⟨rfl, rfl, rfl⟩ := h13322
                refine Cov.same (bl' := [_, _, _, _, _, _]) (sl' := [_]) rfl rfl rfl ?_
                refine Cov.clsL (HpLe.refl _) (pick_mem [0, 1, 2, 3, 4, 5] rfl) ?_
                obtain ⟨u13324, hu13324, r13325⟩ := bind_some r13321; clear r13321
                refine Cov.callS (b1 := []) (b2 := [_, _, _, _, _, _]) (s1 := []) [_] [] .d1 rfl rfl Try.call30 rfl rfl (ref13_Most_c (G := G13289) List.mem_cons_self s13318 hu13324) rfl (fun v13327 bo so h13326 => ?_)
                obtain ⟨rfl, rfl, rfl⟩ := h13326
                refine Cov.same (bl' := [_, _, _, _, _, _]) (sl' := [_]) rfl rfl rfl ?_
                refine Cov.clsL (HpLe.refl _) (pick_mem [0, 1, 2, 3, 4, 5] rfl) ?_
                refine Cov.dq (.neq rfl rfl) rfl ?_
                refine Cov.draw_end ?_
                refine Cov.cond_dec rfl (fun c13328 => ?_) (fun c13328 => ?_)
                · have r13329 := ifT r13325 c13328; clear r13325
                  refine Cov.seq ?_
                  refine Cov.region rfl ?_
                  refine Cov.q .ro (.assign rfl) rfl ?_
                  refine Cov.region_end ?_
                  refine Cov.prune [(10, _)] ⟨rfl, trivial⟩ ?_
                  cases r13329
                  refine Cov.drop 6 0 [] _ rfl rfl ?_
                  refine Cov.drop 0 1 _ [] rfl rfl ?_
                  refine Cov.retS (c := ⟨8, none⟩) (.inr ⟨_, rfl⟩) [.tmp 10] [_] rfl Try.func8 Try.results8 ⟨RV.tmp rfl, trivial⟩ (fun _ h => List.mem_cons_of_mem _ h) ⟨rfl, rfl, rfl⟩
                · have r13330 := ifF r13325 c13328; clear r13325
                  refine Cov.skip ?_
                  refine Cov.seq ?_
                  refine Cov.seq ?_
                  refine Cov.region rfl ?_
                  refine Cov.q .ro (.move rfl) rfl ?_
                  refine Cov.q .ro (.move rfl) rfl ?_
                  refine Cov.q .ro (.len_sl rfl rfl sl26) rfl ?_
                  refine Cov.q .ro (.move rfl) rfl ?_
                  refine Cov.q .ro (.len_sl rfl rfl sl26) rfl ?_
                  refine Cov.lit [_, _, _] [(0, _), (1, _), (2, _)] .ro sl22 ty3 rfl rfl rfl rfl rfl rfl (fun b13331 hb13331 => ?_)
                  have o13332 : OL (Rep.int .i64) G13289 [.int .i64 x3, .int .i64 (u39.2.2.1.length : Int), .int .i64 (x2.length : Int)] ([x3, (u39.2.2.1.length : Int), (x2.length : Int)] : List Int) := ((OL.cons rfl (Rep.intI .i64 x3) (OL.cons rfl (Rep.intI .i64 (u39.2.2.1.length : Int)) (OL.cons rfl (Rep.intI .i64 (x2.length : Int)) (OL.nil (Rp' := (Rep.int .i64)))))) :)
                  refine Cov.reval 131 (n' := ([x3, (u39.2.2.1.length : Int), (x2.length : Int)] : List Int).length) rfl rfl ?_
                  refine Cov.q .ro (.len_sl rfl rfl sl22) rfl ?_
                  refine Cov.q .ro (.move rfl) rfl ?_
                  refine Cov.region_end ?_
                  refine Cov.prune [(117, _), (2, _), (3, _), (4, _), (12, _), (14, _), (115, _), (116, _), (19, _), (131, _), (132, _), (133, _)] ⟨rfl, rfl, rfl, rfl, rfl, rfl, rfl, rfl, rfl, rfl, rfl, rfl, trivial⟩ ?_
                  refine Cov.cutB (β := Hp × Int × Int × Int × Int × Int × Int) (fun y => []) [(117, _), (2, _), (3, _), (4, _), (12, _), (14, _), (115, _), (116, _), (19, _)] (fun y => y.1 :: Fs) (fun y => [(b13319, .cells #[.int .i64 y.2.1, .slice a13316 x13311.2.length k13317] 34 (0, 0)), (b4081, .cells #[.int .i64 y.2.2.1, .slice a12206 v12205.length k12207] 34 (0, 0)), (b35, .cells #[.slice a12212 v12211.length k12213, .int .i64 y.2.2.2.1] 69 (0, 0)), (b60, .cells #[.int .i64 y.2.2.2.2.1, .slice a53 u39.2.2.2.1.2.length k54] 34 (0, 0)), (b59, .cells #[.int .i64 y.2.2.2.2.2.1] 24 (0, 0)), (b1, .cells #[.int .i64 y.2.2.2.2.2.2, .slice a1_1 x1_1.length k1_1] 34 (0, 0))]) [] (fun y => []) [_, _] (fun y => HpLe G13289 y.1 ∧ Bd w0 S0 Fs y.1 ∧ (law13_LayoutReads_J2 (law13_LayoutReads_L5 x2 x3 x4 u39.2.2.1 xs13312) x2 x4 u39.2.2.1 x13311.2) y.2.1 y.2.2.1 y.2.2.2.1 y.2.2.2.2.1 y.2.2.2.2.2.1 y.2.2.2.2.2.2 = some r) ⟨rfl, rfl, rfl, rfl, rfl, rfl, rfl, rfl, rfl, trivial⟩ [] rfl [0, 1] rfl ?_ ?_
                  · intro y hI
                    obtain ⟨G13781, v13785, v13786, v13787, v13788, v13789, v13790⟩ := y
                    obtain ⟨e13782, B13783, r13792⟩ := hI
                    try dsimp only at e13782 B13783 r13792
                    refine Cov.prune [(117, _), (2, _), (3, _), (4, _), (12, _), (14, _), (115, _), (116, _), (19, _)] ⟨rfl, rfl, rfl, rfl, rfl, rfl, rfl, rfl, rfl, trivial⟩ ?_
                    refine Cov.same (bl' := [(b13319, .cells #[.int .i64 v13785, .slice a13316 x13311.2.length k13317] 34 (0, 0)), (b4081, .cells #[.int .i64 v13786, .slice a12206 v12205.length k12207] 34 (0, 0)), (b35, .cells #[.slice a12212 v12211.length k12213, .int .i64 v13787] 69 (0, 0)), (b60, .cells #[.int .i64 v13788, .slice a53 u39.2.2.2.1.2.length k54] 34 (0, 0)), (b59, .cells #[.int .i64 v13789] 24 (0, 0)), (b1, .cells #[.int .i64 v13790, .slice a1_1 x1_1.length k1_1] 34 (0, 0))]) (sl' := [_, _]) (Fs' := G13781 :: Fs) rfl rfl rfl ?_
                    unfold law13_LayoutReads_J2 at r13792
                    try dsimp only at r13792
                    refine Cov.seq ?_
                    refine Cov.region rfl ?_
                    refine Cov.q .ro (.move rfl) rfl ?_
                    refine Cov.q .ro (.move rfl) rfl ?_
                    refine Cov.lit [_, _] [(0, _), (1, _)] .ro sl48 ty26 rfl rfl rfl rfl rfl rfl (fun b13806 hb13806 => ?_)
                    have o13807 : OL (Rep.sl (Rep.sl (Rep.int .i64))) G13781 [.slice a2 x2.length k2, .slice a50 u39.2.2.1.length k51] ([x2, u39.2.2.1] : List (List (List Int))) := ((OL.cons rfl (Rep.slI (SlR.mono (HpLe.trans (HpLe.trans (HpLe.trans e44 e12229) e13290) e13782) s2)) (OL.cons rfl (Rep.slI (SlR.mono (HpLe.trans (HpLe.trans e12229 e13290) e13782) s52)) (OL.nil (Rp' := (Rep.sl (Rep.sl (Rep.int .i64))))))) :)
                    refine Cov.reval 180 (n' := ([x2, u39.2.2.1] : List (List (List Int))).length) rfl rfl ?_
                    refine Cov.q .ro (.len_sl rfl rfl sl48) rfl ?_
                    refine Cov.q .ro (.move rfl) rfl ?_
                    refine Cov.region_end ?_
                    refine Cov.block ?_
                    refine Cov.loop2 (α := Nat × List (List (List Int))) (fun y => [(182, .int .i64 (y.1 : Int))]) [(117, _), (2, _), (3, _), (4, _), (12, _), (14, _), (115, _), (116, _), (19, _), (180, _), (181, _)] (fun y => []) (fun y => []) [_, _, _, _, _, _] (fun y => []) [_, _, _] (fun y => List.drop y.1 ([x2, u39.2.2.1] : List (List (List Int))) = y.2 ∧ law13_LayoutReads_L1 (law13_LayoutReads_L5 x2 x3 x4 u39.2.2.1 xs13312) x4 v13785 x13311.2 v13786 v13787 v13788 v13789 v13790 y.2  = some r) (fun y => y.2.length) (0, ([x2, u39.2.2.1] : List (List (List Int)))) ⟨rfl, r13792⟩ ⟨rfl, rfl, rfl, rfl, rfl, rfl, rfl, rfl, rfl, rfl, rfl, rfl, trivial⟩ rfl rfl rfl (fun y hI hb13856 => ?_)
                    obtain ⟨i13852, w13853⟩ := y
                    obtain ⟨g13854, r13855⟩ := hI
                    try dsimp only at g13854 r13855
                    refine Cov.prune [(182, .int .i64 (i13852 : Int)), (117, _), (2, _), (3, _), (4, _), (12, _), (14, _), (115, _), (116, _), (19, _), (180, _), (181, _)] ⟨rfl, rfl, rfl, rfl, rfl, rfl, rfl, rfl, rfl, rfl, rfl, rfl, trivial⟩ ?_
                    refine Cov.same (bl' := [_, _, _, _, _, _]) (sl' := [_, _, _]) (Fs' := G13781 :: Fs) rfl rfl rfl ?_
                    cases w13853 with
                    | nil =>
                      rw [law13_LayoutReads_L1] at r13855; try dsimp only at r13855
                      refine Cov.seq ?_
                      refine Cov.region rfl ?_
                      refine Cov.q .ro (.lss rfl rfl) rfl ?_
                      refine Cov.region_end ?_
                      refine Cov.seq ?_
                      refine Cov.cond_dec rfl (fun c => absurd c (drop_nil g13854)) (fun _ => ?_)
                      refine Cov.exit rfl ?_
                      refine Cov.inBlock ?_
                      refine Cov.region rfl ?_
                      refine Cov.q .ro (.addw rfl rfl) rfl ?_
                      refine Cov.q .ro (.move rfl) rfl ?_
                      refine Cov.region_end ?_
                      refine Cov.drop 1 0 [_, _, _, _, _] _ rfl rfl ?_
                      refine Cov.drop 0 2 _ [_] rfl rfl ?_
                      refine Cov.prune _ ?_ (Cov.same rfl rfl rfl (hb13299 ((i13286 + 1), xs13312, G13781, v13786, v13787, v13788, v13789, v13790) ⟨(HpLe.trans e13290 e13782), B13783, (drop_succ g13288), r13855⟩ (Nat.lt_succ_self _)))
                      exact ⟨(congrArg (fun z => some (Value.int .i64 z)) (idx_wrap (OL.len' o12234) g13288)), rfl, rfl, rfl, rfl, rfl, rfl, rfl, trivial⟩
                    | cons x13879 xs13880 =>
                      have r13878 : law13_LayoutReads_B1 (law13_LayoutReads_L5 x2 x3 x4 u39.2.2.1 xs13312) x4 v13785 x13311.2 v13786 v13787 v13788 v13789 v13790 (law13_LayoutReads_L1 (law13_LayoutReads_L5 x2 x3 x4 u39.2.2.1 xs13312) x4 v13785 x13311.2 v13786 v13787 v13788 v13789 v13790 xs13880) x13879  = some r := r13855; clear r13855; unfold law13_LayoutReads_B1 at r13878; try dsimp only at r13878
                      refine Cov.seq ?_
                      refine Cov.region rfl ?_
                      refine Cov.q .ro (.lss rfl rfl) rfl ?_
                      refine Cov.region_end ?_
                      refine Cov.seq ?_
                      refine Cov.cond_dec rfl (fun _ => ?_) (fun c => absurd (drop_lt g13854) c)
                      refine Cov.skip ?_
                      refine Cov.seq ?_
                      refine Cov.block ?_
                      refine Cov.seq ?_
                      refine Cov.region rfl ?_
                      obtain ⟨c13881, p13882, h13883⟩ := OL.get o13807 (drop_idx g13854)
                      obtain ⟨a13884, k13885, rfl, s13886⟩ := h13883
                      refine Cov.q .ro (.idxO 0 rfl rfl rfl (drop_idx g13854) sl48 ty26.sz) rfl ?_
                      refine Cov.q .ro (.loadO 0 0 rfl (drop_idx g13854) p13882 rfl (.inl ⟨rfl, rfl⟩) ty26 rfl) rfl ?_
                      refine Cov.q .ro (.assign rfl) rfl ?_
                      refine Cov.region_end ?_
                      refine Cov.seq ?_
                      refine Cov.drawL (.q 0 (.q 1 (.q 2 (.q 3 (.e 4 1 (.e 5 1 (.q 6 (.q 7 (.q 8 (.q 9 (.q 10 .nil))))))))))) [_, _, _, _, _, _] (by kernel_rfl) (by kernel_rfl) (pick_mem [0, 1, 2, 3, 4, 5] rfl) ?_
                      refine Cov.dq (.load_own_a 4 [_] rfl rfl ty24 rfl) rfl ?_
                      refine Cov.dq (.load_own_a 0 [_, _] rfl rfl ty34 rfl) rfl ?_
                      refine Cov.dq (.move rfl) rfl ?_
                      refine Cov.dq (.move rfl) rfl ?_
                      obtain ⟨u13887, hu13887, r13888⟩ := bind_some r13878; clear r13878
                      refine Cov.callS (b1 := []) (b2 := [_, _, _, _, _, _]) (s1 := []) [_, _] [] .d1 rfl rfl Try.call18 rfl rfl (make_Mod_c (G := G13781) List.mem_cons_self  hu13887) rfl (fun v13890 bo so h13889 => ?_)
                      obtain ⟨rfl, rfl, rfl⟩ := h13889
                      refine Cov.same (bl' := [_, _, _, _, _, _]) (sl' := [_, _, _]) rfl rfl rfl ?_
                      refine Cov.clsL (HpLe.refl _) (pick_mem [0, 1, 2, 3, 4, 5] rfl) ?_
                      obtain ⟨u13891, hu13891, r13892⟩ := bind_some r13888; clear r13888
                      refine Cov.callS (b1 := []) (b2 := [_, _, _, _, _, _]) (s1 := []) [_, _, _, _] [] .d1 rfl rfl Try.call28 rfl rfl (layout_Record_c (G := G13781) List.mem_cons_self (SlR.mono e13782 s13318) s13886 hu13891) rfl (fun v13894 bo so h13893 => ?_)
                      obtain ⟨rfl, rfl, rfl⟩ := h13893
                      refine Cov.same (bl' := [_, _, _, _, _, _]) (sl' := [_, _, _]) rfl rfl rfl ?_
                      refine Cov.clsL (HpLe.refl _) (pick_mem [0, 1, 2, 3, 4, 5] rfl) ?_
                      refine Cov.dq (.move rfl) rfl ?_
                      refine Cov.dq (.extract rfl rfl) rfl ?_
                      refine Cov.dq (.extract rfl rfl) rfl ?_
                      refine Cov.dq (.assign rfl) rfl ?_
                      refine Cov.dq (.assign rfl) rfl ?_
                      refine Cov.draw_end ?_
                      refine Cov.seq ?_
                      refine Cov.drawL (.q 0 (.q 1 (.q 2 (.q 3 (.e 4 1 (.e 5 1 (.q 6 (.q 7 (.q 8 (.q 9 (.q 10 .nil))))))))))) [_, _, _, _, _, _] (by kernel_rfl) (by kernel_rfl) (pick_mem [0, 1, 2, 3, 4, 5] rfl) ?_
                      refine Cov.dq (.load_own_a 4 [_] rfl rfl ty24 rfl) rfl ?_
                      refine Cov.dq (.load_own_a 0 [_, _] rfl rfl ty34 rfl) rfl ?_
                      refine Cov.dq (.move rfl) rfl ?_
                      refine Cov.dq (.move rfl) rfl ?_
                      obtain ⟨u13895, hu13895, r13896⟩ := bind_some r13892; clear r13892
                      refine Cov.callS (b1 := []) (b2 := [_, _, _, _, _, _]) (s1 := []) [_, _] [] .d1 rfl rfl Try.call18 rfl rfl (make_Mod_c (G := G13781) List.mem_cons_self  hu13895) rfl (fun v13898 bo so h13897 => ?_)
                      obtain ⟨rfl, rfl, rfl⟩ := h13897
                      refine Cov.same (bl' := [_, _, _, _, _, _]) (sl' := [_, _, _]) rfl rfl rfl ?_
                      refine Cov.clsL (HpLe.refl _) (pick_mem [0, 1, 2, 3, 4, 5] rfl) ?_
                      obtain ⟨u13899, hu13899, r13900⟩ := bind_some r13896; clear r13896
                      refine Cov.callS (b1 := []) (b2 := [_, _, _, _, _, _]) (s1 := []) [_, _, _, _] [] .d1 rfl rfl Try.call35 rfl rfl (ref13_Record_c (G := G13781) List.mem_cons_self (SlR.mono e13782 s13318) s13886 hu13899) rfl (fun v13902 bo so h13901 => ?_)
                      obtain ⟨rfl, rfl, rfl⟩ := h13901
                      refine Cov.same (bl' := [_, _, _, _, _, _]) (sl' := [_, _, _]) rfl rfl rfl ?_
                      refine Cov.clsL (HpLe.refl _) (pick_mem [0, 1, 2, 3, 4, 5] rfl) ?_
                      refine Cov.dq (.move rfl) rfl ?_
                      refine Cov.dq (.extract rfl rfl) rfl ?_
                      refine Cov.dq (.extract rfl rfl) rfl ?_
                      refine Cov.dq (.assign rfl) rfl ?_
                      refine Cov.dq (.assign rfl) rfl ?_
                      refine Cov.draw_end ?_
                      refine Cov.prune [(182, _), (117, _), (2, _), (3, _), (4, _), (12, _), (14, _), (115, _), (116, _), (19, _), (180, _), (181, _), (30, _), (31, _), (32, _), (33, _)] ⟨rfl, rfl, rfl, rfl, rfl, rfl, rfl, rfl, rfl, rfl, rfl, rfl, rfl, rfl, rfl, rfl, trivial⟩ ?_
                      refine Cov.seq ?_
                      refine Cov.region rfl ?_
                      refine Cov.q .ro (.move rfl) rfl ?_
                      refine Cov.q .ro (.move rfl) rfl ?_
                      refine Cov.q .ro (.neq_s rfl rfl) rfl ?_
                      refine Cov.q .ro (.move rfl) rfl ?_
                      refine Cov.cutR 4 (β := Unit) (fun y => [(211, .bool (decide ((u13891.1 ≠ u13899.1) ∨ (u13891.2 ≠ u13899.2))))]) [(182, _), (117, _), (2, _), (3, _), (4, _), (12, _), (14, _), (115, _), (116, _), (19, _), (180, _), (181, _)] (fun y => G13781 :: Fs) (fun y => []) [_, _, _, _, _, _] (fun y => []) [_, _, _] (fun y => True) ⟨rfl, rfl, rfl, rfl, rfl, rfl, rfl, rfl, rfl, rfl, rfl, rfl, trivial⟩ [0, 1, 2, 3, 4, 5] rfl [0, 1, 2] rfl ?_ ?_
                      · rintro _ _
                        refine Cov.prune [(211, .bool (decide ((u13891.1 ≠ u13899.1) ∨ (u13891.2 ≠ u13899.2)))), (182, _), (117, _), (2, _), (3, _), (4, _), (12, _), (14, _), (115, _), (116, _), (19, _), (180, _), (181, _)] ⟨rfl, rfl, rfl, rfl, rfl, rfl, rfl, rfl, rfl, rfl, rfl, rfl, rfl, trivial⟩ ?_
                        refine Cov.same (bl' := [_, _, _, _, _, _]) (sl' := [_, _, _]) (Fs' := G13781 :: Fs) rfl rfl rfl ?_
                        refine Cov.region_end ?_
                        refine Cov.cond_dec rfl (fun c13907 => ?_) (fun c13907 => ?_)
                        · have r13908 := ifT r13900 c13907; clear r13900
                          refine Cov.seq ?_
                          refine Cov.region rfl ?_
                          refine Cov.q .ro (.assign rfl) rfl ?_
                          refine Cov.region_end ?_
                          refine Cov.prune [(10, _)] ⟨rfl, trivial⟩ ?_
                          cases r13908
                          refine Cov.drop 6 0 [] _ rfl rfl ?_
                          refine Cov.drop 0 3 _ [] rfl rfl ?_
                          refine Cov.retS (c := ⟨8, none⟩) (.inr ⟨_, rfl⟩) [.tmp 10] [_] rfl Try.func8 Try.results8 ⟨RV.tmp rfl, trivial⟩ (fun _ h => List.mem_cons_of_mem _ h) ⟨rfl, rfl, rfl⟩
                        · have r13909 := ifF r13900 c13907; clear r13900
                          refine Cov.skip ?_
                          refine Cov.inBlock ?_
                          refine Cov.region rfl ?_
                          refine Cov.q .ro (.addw rfl rfl) rfl ?_
                          refine Cov.q .ro (.move rfl) rfl ?_
                          refine Cov.region_end ?_
                          refine Cov.prune _ ?_ (Cov.same rfl rfl rfl (hb13856 ((i13852 + 1), xs13880) ⟨(drop_succ g13854), r13909⟩ (Nat.lt_succ_self _)))
                          exact ⟨(congrArg (fun z => some (Value.int .i64 z)) (idx_wrap (OL.len' o13807) g13854)), rfl, rfl, rfl, rfl, rfl, rfl, rfl, rfl, rfl, rfl, rfl, trivial⟩
                      · intro hb13904
                        refine Cov.split 207 rfl (fun c13903 => ?_) (fun c13903 => ?_)
                        · refine Cov.g_off rfl rfl rfl ?_
                          refine Cov.g_off rfl rfl rfl ?_
                          refine Cov.g_off rfl rfl rfl ?_
                          refine Cov.q .ro (.pick_t rfl rfl) rfl ?_
                          refine Cov.prune _ ?_ (Cov.same rfl rfl rfl (hb13904 () trivial))
                          exact ⟨dor_t c13903, rfl, rfl, rfl, rfl, rfl, rfl, rfl, rfl, rfl, rfl, rfl, rfl, trivial⟩
                        · refine Cov.g_on rfl ?_
                          refine Cov.q .ro (.move rfl) rfl ?_
                          refine Cov.g_on rfl ?_
                          refine Cov.q .ro (.move rfl) rfl ?_
                          refine Cov.g_on rfl ?_
                          refine Cov.q .ro (.neq rfl rfl) rfl ?_
                          refine Cov.q .ro (.pick_f rfl rfl) rfl ?_
                          refine Cov.prune _ ?_ (Cov.same rfl rfl rfl (hb13904 () trivial))
                          exact ⟨dor_f c13903, rfl, rfl, rfl, rfl, rfl, rfl, rfl, rfl, rfl, rfl, rfl, rfl, trivial⟩
                  · intro hb13910
                    refine Cov.block ?_
                    refine Cov.pull 5 rfl [_, _, _, _, _, _] rfl ?_
                    refine Cov.pull 5 rfl [_, _, _, _, _, _] rfl ?_
                    refine Cov.pull 5 rfl [_, _, _, _, _, _] rfl ?_
                    refine Cov.pull 5 rfl [_, _, _, _, _, _] rfl ?_
                    refine Cov.pull 5 rfl [_, _, _, _, _, _] rfl ?_
                    refine Cov.pull 5 rfl [_, _, _, _, _, _] rfl ?_
                    refine Cov.loop2 (α := Nat × List Int × Hp × Int × Int × Int × Int × Int × Int) (fun y => [(133, .int .i64 (y.1 : Int))]) [(117, _), (2, _), (3, _), (4, _), (12, _), (14, _), (115, _), (116, _), (19, _), (131, _), (132, _)] (fun y => [y.2.2.1]) (fun y => [(b13319, .cells #[.int .i64 y.2.2.2.1, .slice a13316 x13311.2.length k13317] 34 (0, 0)), (b4081, .cells #[.int .i64 y.2.2.2.2.1, .slice a12206 v12205.length k12207] 34 (0, 0)), (b35, .cells #[.slice a12212 v12211.length k12213, .int .i64 y.2.2.2.2.2.1] 69 (0, 0)), (b60, .cells #[.int .i64 y.2.2.2.2.2.2.1, .slice a53 u39.2.2.2.1.2.length k54] 34 (0, 0)), (b59, .cells #[.int .i64 y.2.2.2.2.2.2.2.1] 24 (0, 0)), (b1, .cells #[.int .i64 y.2.2.2.2.2.2.2.2, .slice a1_1 x1_1.length k1_1] 34 (0, 0))]) [] (fun y => []) [_, _] (fun y => HpLe G13289 y.2.2.1 ∧ Bd w0 S0 Fs y.2.2.1 ∧ List.drop y.1 ([x3, (u39.2.2.1.length : Int), (x2.length : Int)] : List Int) = y.2.1 ∧ law13_LayoutReads_L4 (law13_LayoutReads_J2 (law13_LayoutReads_L5 x2 x3 x4 u39.2.2.1 xs13312) x2 x4 u39.2.2.1 x13311.2) x4 x13311.2 y.2.1 y.2.2.2.1 y.2.2.2.2.1 y.2.2.2.2.2.1 y.2.2.2.2.2.2.1 y.2.2.2.2.2.2.2.1 y.2.2.2.2.2.2.2.2 = some r) (fun y => y.2.1.length) (0, ([x3, (u39.2.2.1.length : Int), (x2.length : Int)] : List Int), G13289, x13311.1, v13293, v13294, v13295, v13296, v13297) ⟨(HpLe.refl _), B13291, rfl, r13330⟩ ⟨rfl, rfl, rfl, rfl, rfl, rfl, rfl, rfl, rfl, rfl, rfl, rfl, trivial⟩ rfl rfl rfl (fun y hI hb14139 => ?_)
                    obtain ⟨i14125, w14126, G14128, v14132, v14133, v14134, v14135, v14136, v14137⟩ := y
                    obtain ⟨e14129, B14130, g14127, r14138⟩ := hI
                    try dsimp only at e14129 B14130 g14127 r14138
                    refine Cov.prune [(133, .int .i64 (i14125 : Int)), (117, _), (2, _), (3, _), (4, _), (12, _), (14, _), (115, _), (116, _), (19, _), (131, _), (132, _)] ⟨rfl, rfl, rfl, rfl, rfl, rfl, rfl, rfl, rfl, rfl, rfl, rfl, trivial⟩ ?_
                    refine Cov.same (bl' := [(b13319, .cells #[.int .i64 v14132, .slice a13316 x13311.2.length k13317] 34 (0, 0)), (b4081, .cells #[.int .i64 v14133, .slice a12206 v12205.length k12207] 34 (0, 0)), (b35, .cells #[.slice a12212 v12211.length k12213, .int .i64 v14134] 69 (0, 0)), (b60, .cells #[.int .i64 v14135, .slice a53 u39.2.2.2.1.2.length k54] 34 (0, 0)), (b59, .cells #[.int .i64 v14136] 24 (0, 0)), (b1, .cells #[.int .i64 v14137, .slice a1_1 x1_1.length k1_1] 34 (0, 0))]) (sl' := [_, _]) (Fs' := G14128 :: Fs) rfl rfl rfl ?_
                    cases w14126 with
                    | nil =>
                      rw [law13_LayoutReads_L4] at r14138; try dsimp only at r14138
                      refine Cov.seq ?_
                      refine Cov.region rfl ?_
                      refine Cov.q .ro (.lss rfl rfl) rfl ?_
                      refine Cov.region_end ?_
                      refine Cov.seq ?_
                      refine Cov.cond_dec rfl (fun c => absurd c (drop_nil g14127)) (fun _ => ?_)
                      refine Cov.exit rfl ?_
                      refine Cov.prune _ ?_ (Cov.same rfl rfl rfl (hb13910 (G14128, v14132, v14133, v14134, v14135, v14136, v14137) ⟨e14129, B14130, r14138⟩))
                      exact ⟨rfl, rfl, rfl, rfl, rfl, rfl, rfl, rfl, rfl, trivial⟩
                    | cons x14155 xs14156 =>
                      have r14154 : law13_LayoutReads_B4 (law13_LayoutReads_J2 (law13_LayoutReads_L5 x2 x3 x4 u39.2.2.1 xs13312) x2 x4 u39.2.2.1 x13311.2) x4 x13311.2 (law13_LayoutReads_L4 (law13_LayoutReads_J2 (law13_LayoutReads_L5 x2 x3 x4 u39.2.2.1 xs13312) x2 x4 u39.2.2.1 x13311.2) x4 x13311.2 xs14156) x14155 v14132 v14133 v14134 v14135 v14136 v14137 = some r := r14138; clear r14138; unfold law13_LayoutReads_B4 at r14154; try dsimp only at r14154
                      refine Cov.seq ?_
                      refine Cov.region rfl ?_
                      refine Cov.q .ro (.lss rfl rfl) rfl ?_
                      refine Cov.region_end ?_
                      refine Cov.seq ?_
                      refine Cov.cond_dec rfl (fun _ => ?_) (fun c => absurd (drop_lt g14127) c)
                      refine Cov.skip ?_
                      refine Cov.seq ?_
                      refine Cov.block ?_
                      refine Cov.seq ?_
                      refine Cov.region rfl ?_
                      obtain ⟨c14157, p14158, h14159⟩ := OL.get (OL.mono e14129 o13332) (drop_idx g14127)
                      obtain rfl := h14159
                      refine Cov.q .ro (.idxO 0 rfl rfl rfl (drop_idx g14127) sl22 ty3.sz) rfl ?_
                      refine Cov.q .ro (.loadO 0 0 rfl (drop_idx g14127) p14158 rfl (.inl ⟨rfl, rfl⟩) ty3 rfl) rfl ?_
                      refine Cov.q .ro (.assign rfl) rfl ?_
                      refine Cov.region_end ?_
                      refine Cov.seq ?_
                      refine Cov.seq ?_
                      refine Cov.drawL (.q 0 (.q 1 (.q 3 (.q 4 (.e 2 1 (.e 5 1 (.q 6 .nil))))))) [_, _, _, _, _, _] (by kernel_rfl) (by kernel_rfl) (pick_mem [0, 1, 2, 3, 4, 5] rfl) ?_
                      refine Cov.dq (.load_own_a 0 [_, _] rfl rfl ty34 rfl) rfl ?_
                      refine Cov.dq (.move rfl) rfl ?_
                      refine Cov.dq (.load_own_a 0 [_, _] rfl rfl ty34 rfl) rfl ?_
                      refine Cov.dq (.move rfl) rfl ?_
                      obtain ⟨u14160, hu14160, r14161⟩ := bind_some r14154; clear r14154
                      refine Cov.callS (b1 := []) (b2 := [_, _, _, _, _, _]) (s1 := []) [_, _] [] .d1 rfl rfl Try.call27 rfl rfl (layout_Check_c (G := G14128) List.mem_cons_self (SlR.mono e14129 s13318) hu14160) rfl (fun v14163 bo so h14162 => ?_)
                      obtain ⟨rfl, rfl, rfl⟩ := h14162
                      refine Cov.same (bl' := [_, _, _, _, _, _]) (sl' := [_, _]) rfl rfl rfl ?_
                      refine Cov.clsL (HpLe.refl _) (pick_mem [0, 1, 2, 3, 4, 5] rfl) ?_
                      obtain ⟨u14164, hu14164, r14165⟩ := bind_some r14161; clear r14161
                      refine Cov.callS (b1 := []) (b2 := [_, _, _, _, _, _]) (s1 := []) [_, _] [] .d1 rfl rfl Try.call31 rfl rfl (ref13_Check_c (G := G14128) List.mem_cons_self (SlR.mono e14129 s13318) hu14164) rfl (fun v14167 bo so h14166 => ?_)
                      obtain ⟨rfl, rfl, rfl⟩ := h14166
                      refine Cov.same (bl' := [_, _, _, _, _, _]) (sl' := [_, _]) rfl rfl rfl ?_
                      refine Cov.clsL (HpLe.refl _) (pick_mem [0, 1, 2, 3, 4, 5] rfl) ?_
                      refine Cov.dq (.neq rfl rfl) rfl ?_
                      refine Cov.draw_end ?_
                      refine Cov.cond_dec rfl (fun c14168 => ?_) (fun c14168 => ?_)
                      · have r14169 := ifT r14165 c14168; clear r14165
                        refine Cov.seq ?_
                        refine Cov.region rfl ?_
                        refine Cov.q .ro (.assign rfl) rfl ?_
                        refine Cov.region_end ?_
                        refine Cov.prune [(10, _)] ⟨rfl, trivial⟩ ?_
                        cases r14169
                        refine Cov.drop 6 0 [] _ rfl rfl ?_
                        refine Cov.drop 0 2 _ [] rfl rfl ?_
                        refine Cov.retS (c := ⟨8, none⟩) (.inr ⟨_, rfl⟩) [.tmp 10] [_] rfl Try.func8 Try.results8 ⟨RV.tmp rfl, trivial⟩ (fun _ h => List.mem_cons_of_mem _ h) ⟨rfl, rfl, rfl⟩
                      · have r14170 := ifF r14165 c14168; clear r14165
                        refine Cov.skip ?_
                        refine Cov.seq ?_
                        refine Cov.region rfl ?_
                        refine Cov.q .ro (.move rfl) rfl ?_
                        refine Cov.q .ro (.move rfl) rfl ?_
                        obtain ⟨u14171, hu14171, r14172⟩ := bind_some r14170; clear r14170
                        refine Cov.callS (b1 := []) (b2 := [_, _, _, _, _, _]) (s1 := []) [_, _] [] .ro rfl rfl Try.call18 rfl rfl (make_Mod_c (G := G14128) List.mem_cons_self  hu14171) rfl (fun v14174 bo so h14173 => ?_)
                        obtain ⟨rfl, rfl, rfl⟩ := h14173
                        refine Cov.same (bl' := [_, _, _, _, _, _]) (sl' := [_, _]) rfl rfl rfl ?_
                        refine Cov.lit [_, _] [(0, _), (1, _)] .ro sl22 ty3 rfl rfl rfl rfl rfl rfl (fun b14175 hb14175 => ?_)
                        have o14176 : OL (Rep.int .i64) G14128 [.int .i64 x4, .int .i64 u14171] ([x4, u14171] : List Int) := ((OL.cons rfl (Rep.intI .i64 x4) (OL.cons rfl (Rep.intI .i64 u14171) (OL.nil (Rp' := (Rep.int .i64))))) :)
                        refine Cov.reval 147 (n' := ([x4, u14171] : List Int).length) rfl rfl ?_
                        refine Cov.q .ro (.len_sl rfl rfl sl22) rfl ?_
                        refine Cov.q .ro (.move rfl) rfl ?_
                        refine Cov.region_end ?_
                        refine Cov.prune [(133, _), (117, _), (2, _), (3, _), (4, _), (12, _), (14, _), (115, _), (116, _), (19, _), (131, _), (132, _), (21, _), (147, _), (148, _), (149, _)] ⟨rfl, rfl, rfl, rfl, rfl, rfl, rfl, rfl, rfl, rfl, rfl, rfl, rfl, rfl, rfl, rfl, trivial⟩ ?_
                        refine Cov.block ?_
                        refine Cov.loop2 (α := Nat × List Int × Hp) (fun y => [(149, .int .i64 (y.1 : Int))]) [(133, _), (117, _), (2, _), (3, _), (4, _), (12, _), (14, _), (115, _), (116, _), (19, _), (131, _), (132, _), (21, _), (147, _), (148, _)] (fun y => [y.2.2]) (fun y => []) [_, _, _, _, _, _] (fun y => []) [_, _, _] (fun y => HpLe G14128 y.2.2 ∧ Bd w0 S0 Fs y.2.2 ∧ List.drop y.1 ([x4, u14171] : List Int) = y.2.1 ∧ law13_LayoutReads_L3 (law13_LayoutReads_L4 (law13_LayoutReads_J2 (law13_LayoutReads_L5 x2 x3 x4 u39.2.2.1 xs13312) x2 x4 u39.2.2.1 x13311.2) x4 x13311.2 xs14156) x14155 v14132 x13311.2 v14133 v14134 v14135 v14136 v14137 y.2.1  = some r) (fun y => y.2.1.length) (0, ([x4, u14171] : List Int), G14128) ⟨(HpLe.refl _), B14130, rfl, r14172⟩ ⟨rfl, rfl, rfl, rfl, rfl, rfl, rfl, rfl, rfl, rfl, rfl, rfl, rfl, rfl, rfl, rfl, trivial⟩ rfl rfl rfl (fun y hI hb14265 => ?_)
                        obtain ⟨i14257, w14258, G14260⟩ := y
                        obtain ⟨e14261, B14262, g14259, r14264⟩ := hI
                        try dsimp only at e14261 B14262 g14259 r14264
                        refine Cov.prune [(149, .int .i64 (i14257 : Int)), (133, _), (117, _), (2, _), (3, _), (4, _), (12, _), (14, _), (115, _), (116, _), (19, _), (131, _), (132, _), (21, _), (147, _), (148, _)] ⟨rfl, rfl, rfl, rfl, rfl, rfl, rfl, rfl, rfl, rfl, rfl, rfl, rfl, rfl, rfl, rfl, trivial⟩ ?_
                        refine Cov.same (bl' := [_, _, _, _, _, _]) (sl' := [_, _, _]) (Fs' := G14260 :: Fs) rfl rfl rfl ?_
                        cases w14258 with
                        | nil =>
                          rw [law13_LayoutReads_L3] at r14264; try dsimp only at r14264
                          refine Cov.seq ?_
                          refine Cov.region rfl ?_
                          refine Cov.q .ro (.lss rfl rfl) rfl ?_
                          refine Cov.region_end ?_
                          refine Cov.seq ?_
                          refine Cov.cond_dec rfl (fun c => absurd c (drop_nil g14259)) (fun _ => ?_)
                          refine Cov.exit rfl ?_
                          refine Cov.inBlock ?_
                          refine Cov.region rfl ?_
                          refine Cov.q .ro (.addw rfl rfl) rfl ?_
                          refine Cov.q .ro (.move rfl) rfl ?_
                          refine Cov.region_end ?_
                          refine Cov.drop 0 1 _ [_, _] rfl rfl ?_
                          refine Cov.prune _ ?_ (Cov.same rfl rfl rfl (hb14139 ((i14125 + 1), xs14156, G14260, v14132, v14133, v14134, v14135, v14136, v14137) ⟨(HpLe.trans e14129 e14261), B14262, (drop_succ g14127), r14264⟩ (Nat.lt_succ_self _)))
                          exact ⟨(congrArg (fun z => some (Value.int .i64 z)) (idx_wrap (OL.len' o13332) g14127)), rfl, rfl, rfl, rfl, rfl, rfl, rfl, rfl, rfl, rfl, rfl, trivial⟩
                        | cons x14291 xs14292 =>
                          have r14290 : law13_LayoutReads_B3 (law13_LayoutReads_L4 (law13_LayoutReads_J2 (law13_LayoutReads_L5 x2 x3 x4 u39.2.2.1 xs13312) x2 x4 u39.2.2.1 x13311.2) x4 x13311.2 xs14156) x14155 v14132 x13311.2 v14133 v14134 v14135 v14136 v14137 (law13_LayoutReads_L3 (law13_LayoutReads_L4 (law13_LayoutReads_J2 (law13_LayoutReads_L5 x2 x3 x4 u39.2.2.1 xs13312) x2 x4 u39.2.2.1 x13311.2) x4 x13311.2 xs14156) x14155 v14132 x13311.2 v14133 v14134 v14135 v14136 v14137 xs14292) x14291  = some r := r14264; clear r14264; unfold law13_LayoutReads_B3 at r14290; try dsimp only at r14290
                          refine Cov.seq ?_
                          refine Cov.region rfl ?_
                          refine Cov.q .ro (.lss rfl rfl) rfl ?_
                          refine Cov.region_end ?_
                          refine Cov.seq ?_
                          refine Cov.cond_dec rfl (fun _ => ?_) (fun c => absurd (drop_lt g14259) c)
                          refine Cov.skip ?_
                          refine Cov.seq ?_
                          refine Cov.block ?_
                          refine Cov.seq ?_
                          refine Cov.region rfl ?_
                          obtain ⟨c14293, p14294, h14295⟩ := OL.get (OL.mono e14261 o14176) (drop_idx g14259)
                          obtain rfl := h14295
                          refine Cov.q .ro (.idxO 0 rfl rfl rfl (drop_idx g14259) sl22 ty3.sz) rfl ?_
                          refine Cov.q .ro (.loadO 0 0 rfl (drop_idx g14259) p14294 rfl (.inl ⟨rfl, rfl⟩) ty3 rfl) rfl ?_
                          refine Cov.q .ro (.assign rfl) rfl ?_
                          refine Cov.region_end ?_
                          refine Cov.seq ?_
                          refine Cov.region rfl ?_
                          refine Cov.q .ro (.load_own_a 0 [_, _] rfl rfl ty34 rfl) rfl ?_
                          refine Cov.q .ro (.move rfl) rfl ?_
                          refine Cov.q .ro (.move rfl) rfl ?_
                          obtain ⟨u14296, hu14296, r14297⟩ := bind_some r14290; clear r14290
                          refine Cov.callS (b1 := []) (b2 := [_, _, _, _, _, _]) (s1 := []) [_, _, _] [] .ro rfl rfl Try.call32 rfl rfl (layout_Asked_c (G := G14260) List.mem_cons_self (SlR.mono (HpLe.trans e14129 e14261) s13318) hu14296) rfl (fun v14299 bo so h14298 => ?_)
                          obtain ⟨a14301, k14302, cs14303, rfl, rfl, rfl, o14304⟩ := h14298
                          refine Cov.same (bl' := [_, _, _, _, _, _]) (sl' := [_, _, _, _]) rfl rfl rfl ?_
                          refine Cov.q .ro (.move rfl) rfl ?_
                          refine Cov.q .ro (.extract rfl rfl) rfl ?_
                          refine Cov.q .ro (.extract rfl rfl) rfl ?_
                          refine Cov.q .ro (.assign rfl) rfl ?_
                          refine Cov.q .ro (.assign rfl) rfl ?_
                          refine Cov.region_end ?_
                          refine Cov.seq ?_
                          refine Cov.region rfl ?_
                          refine Cov.q .ro (.load_own_a 0 [_, _] rfl rfl ty34 rfl) rfl ?_
                          refine Cov.q .ro (.move rfl) rfl ?_
                          refine Cov.q .ro (.move rfl) rfl ?_
                          obtain ⟨u14305, hu14305, r14306⟩ := bind_some r14297; clear r14297
                          refine Cov.callS (b1 := []) (b2 := [_, _, _, _, _, _]) (s1 := []) [_, _, _] [] .ro rfl rfl Try.call33 rfl rfl (ref13_Asked_c (G := G14260) List.mem_cons_self (SlR.mono (HpLe.trans e14129 e14261) s13318) hu14305) rfl (fun v14308 bo so h14307 => ?_)
                          obtain ⟨a14310, k14311, cs14312, rfl, rfl, rfl, o14313⟩ := h14307
                          refine Cov.same (bl' := [_, _, _, _, _, _]) (sl' := [_, _, _, _, _]) rfl rfl rfl ?_
                          refine Cov.q .ro (.move rfl) rfl ?_
                          refine Cov.q .ro (.extract rfl rfl) rfl ?_
                          refine Cov.q .ro (.extract rfl rfl) rfl ?_
                          refine Cov.q .ro (.assign rfl) rfl ?_
                          refine Cov.q .ro (.assign rfl) rfl ?_
                          refine Cov.region_end ?_
                          refine Cov.prune [(149, _), (133, _), (117, _), (2, _), (3, _), (4, _), (12, _), (14, _), (115, _), (116, _), (19, _), (131, _), (132, _), (21, _), (147, _), (148, _), (24, _), (25, _), (26, _), (27, _)] ⟨rfl, rfl, rfl, rfl, rfl, rfl, rfl, rfl, rfl, rfl, rfl, rfl, rfl, rfl, rfl, rfl, rfl, rfl, rfl, rfl, trivial⟩ ?_
                          refine Cov.seq ?_
                          refine Cov.region rfl ?_
                          refine Cov.q .ro (.move rfl) rfl ?_
                          refine Cov.q .ro (.move rfl) rfl ?_
                          refine Cov.q .ro (.neq rfl rfl) rfl ?_
                          refine Cov.q .ro (.move rfl) rfl ?_
                          refine Cov.freezeR 0 rfl rfl o14313 [_, _, _, _] rfl B14262 (fun G14328 e14329 B14330 s14331 => ?_)
                          refine Cov.freezeR 0 rfl rfl (OL.mono e14329 o14304) [_, _, _] rfl B14330 (fun G14333 e14334 B14335 s14336 => ?_)
                          obtain ⟨u14344, h14345, r14346⟩ := bind_some r14306; clear r14306
                          refine Cov.cutR 5 (β := Unit) (fun y => [(175, .bool u14344)]) [(149, _), (133, _), (117, _), (2, _), (3, _), (4, _), (12, _), (14, _), (115, _), (116, _), (19, _), (131, _), (132, _), (21, _), (147, _), (148, _)] (fun y => G14333 :: Fs) (fun y => []) [_, _, _, _, _, _] (fun y => []) [_, _, _] (fun y => True) ⟨rfl, rfl, rfl, rfl, rfl, rfl, rfl, rfl, rfl, rfl, rfl, rfl, rfl, rfl, rfl, rfl, trivial⟩ [0, 1, 2, 3, 4, 5] rfl [0, 1, 2] rfl ?_ ?_
                          · rintro _ _
                            refine Cov.prune [(175, .bool u14344), (149, _), (133, _), (117, _), (2, _), (3, _), (4, _), (12, _), (14, _), (115, _), (116, _), (19, _), (131, _), (132, _), (21, _), (147, _), (148, _)] ⟨rfl, rfl, rfl, rfl, rfl, rfl, rfl, rfl, rfl, rfl, rfl, rfl, rfl, rfl, rfl, rfl, rfl, trivial⟩ ?_
                            refine Cov.same (bl' := [_, _, _, _, _, _]) (sl' := [_, _, _]) (Fs' := G14333 :: Fs) rfl rfl rfl ?_
                            refine Cov.region_end ?_
                            refine Cov.cond rfl (fun c14349 => ?_) (fun c14349 => ?_)
                            · have r14350 := ifT r14346 c14349; clear r14346
                              refine Cov.seq ?_
                              refine Cov.region rfl ?_
                              refine Cov.q .ro (.assign rfl) rfl ?_
                              refine Cov.region_end ?_
                              refine Cov.prune [(10, _)] ⟨rfl, trivial⟩ ?_
                              cases r14350
                              refine Cov.drop 6 0 [] _ rfl rfl ?_
                              refine Cov.drop 0 3 _ [] rfl rfl ?_
                              refine Cov.retS (c := ⟨8, none⟩) (.inr ⟨_, rfl⟩) [.tmp 10] [_] rfl Try.func8 Try.results8 ⟨RV.tmp rfl, trivial⟩ (fun _ h => List.mem_cons_of_mem _ h) ⟨rfl, rfl, rfl⟩
                            · have r14351 := ifBF r14346 c14349; clear r14346
                              refine Cov.skip ?_
                              refine Cov.inBlock ?_
                              refine Cov.region rfl ?_
                              refine Cov.q .ro (.addw rfl rfl) rfl ?_
                              refine Cov.q .ro (.move rfl) rfl ?_
                              refine Cov.region_end ?_
                              refine Cov.prune _ ?_ (Cov.same rfl rfl rfl (hb14265 ((i14257 + 1), xs14292, G14333) ⟨(HpLe.trans (HpLe.trans e14261 e14329) e14334), B14335, (drop_succ g14259), r14351⟩ (Nat.lt_succ_self _)))
                              exact ⟨(congrArg (fun z => some (Value.int .i64 z)) (idx_wrap (OL.len' o14176) g14259)), rfl, rfl, rfl, rfl, rfl, rfl, rfl, rfl, rfl, rfl, rfl, rfl, rfl, rfl, rfl, trivial⟩
                          · intro hb14343
                            refine Cov.split 170 rfl (fun c14342 => ?_) (fun c14342 => ?_)
                            · have r14352 := ifT h14345 c14342
                              refine Cov.g_off rfl rfl rfl ?_
                              refine Cov.g_off rfl rfl rfl ?_
                              refine Cov.g_off rfl rfl rfl ?_
                              refine Cov.g_off rfl rfl rfl ?_
                              refine Cov.q .ro (.pick_t rfl rfl) rfl ?_
                              refine Cov.prune _ ?_ (Cov.same rfl rfl rfl (hb14343 () trivial))
                              exact ⟨sval r14352, rfl, rfl, rfl, rfl, rfl, rfl, rfl, rfl, rfl, rfl, rfl, rfl, rfl, rfl, rfl, rfl, trivial⟩
                            · have r14353 := ifF h14345 c14342
                              refine Cov.g_on rfl ?_
                              refine Cov.q .ro (.move rfl) rfl ?_
                              refine Cov.g_on rfl ?_
                              refine Cov.q .ro (.move rfl) rfl ?_
                              refine Cov.g_on rfl ?_
                              obtain ⟨u14354, hu14354, r14355⟩ := bind_some r14353; clear r14353
                              refine Cov.callS (b1 := []) (b2 := [_, _, _, _, _, _]) (s1 := []) [_, _] [] .ro rfl rfl Try.call34 rfl rfl (ref04_Same_c (G := G14333) List.mem_cons_self s14336 (SlR.mono e14334 s14331) hu14354) rfl (fun v14357 bo so h14356 => ?_)
                              obtain ⟨rfl, rfl, rfl⟩ := h14356
                              refine Cov.same (bl' := [_, _, _, _, _, _]) (sl' := [_, _, _]) rfl rfl rfl ?_
                              refine Cov.g_on rfl ?_
                              refine Cov.q .ro (.not rfl) rfl ?_
                              refine Cov.q .ro (.pick_f rfl rfl) rfl ?_
                              refine Cov.prune _ ?_ (Cov.same rfl rfl rfl (hb14343 () trivial))
                              exact ⟨sval r14355, rfl, rfl, rfl, rfl, rfl, rfl, rfl, rfl, rfl, rfl, rfl, rfl, rfl, rfl, rfl, rfl, trivial⟩
            · intro hb14358
              refine Cov.cond_dec rfl (fun c14359 => ?_) (fun c14359 => ?_)
              · have r14360 := ifT r4090 c14359; clear r4090
                refine Cov.seq ?_
                refine Cov.region rfl ?_
                refine Cov.q .ro (.move rfl) rfl ?_
                refine Cov.q .ro (.fieldAddr 1 rfl fl34_1 ty32.sz rfl) rfl ?_
                refine Cov.q .ro (.load_own 0 rfl rfl ty32 rfl) rfl ?_
                refine Cov.q .ro (.len_sl rfl rfl sl32) rfl ?_
                obtain ⟨u14361, hu14361, r14362⟩ := bind_some r14360; clear r14360
                refine Cov.pull 3 rfl [_, _, _, _, _] rfl ?_
                refine Cov.callS (b1 := [_]) (b2 := [_, _, _, _]) (s1 := []) [_, _] [] .ro rfl rfl Try.call15 rfl rfl (make_Deck_Next_c (G := G43) List.mem_cons_self s58 hu14361) rfl (fun v14364 bo so h14363 => ?_)
                obtain ⟨a14365, k14366, rfl, rfl, rfl, s14367⟩ := h14363
                refine Cov.same (bl' := [_, _, _, _, _]) (sl' := [_]) rfl rfl rfl ?_
                refine Cov.q .ro (.assign rfl) rfl ?_
                refine Cov.region_end ?_
                refine Cov.seq ?_
                refine Cov.region rfl ?_
                refine Cov.q .ro (.move rfl) rfl ?_
                obtain ⟨u14368, hu14368, r14369⟩ := bind_some r14362; clear r14362
                refine Cov.callS (b1 := [_]) (b2 := [_, _, _, _]) (s1 := []) [_, _] [] .ro rfl rfl Try.call15 rfl rfl (make_Deck_Next_c (G := G43) List.mem_cons_self s14367 hu14368) rfl (fun v14371 bo so h14370 => ?_)
                obtain ⟨a14372, k14373, rfl, rfl, rfl, s14374⟩ := h14370
                refine Cov.same (bl' := [_, _, _, _, _]) (sl' := [_]) rfl rfl rfl ?_
                refine Cov.region_end ?_
                refine Cov.block ?_
                refine Cov.seq ?_
                refine Cov.region rfl ?_
                refine Cov.q .ro (.eql rfl rfl) rfl ?_
                refine Cov.q .ro (.assign rfl) rfl ?_
                refine Cov.region_end ?_
                refine Cov.cond_dec rfl (fun c14375 => ?_) (fun c14375 => ?_)
                · have r14376 := ifT r14369 c14375; clear r14369
                  refine Cov.drawL (.q 0 (.q 1 (.q 2 (.q 6 (.alt (.e 3 1 (.alt (.e 4 1 (.alt (.e 5 1 (.e 7 1 (.q 8 (.e 9 2 (.e 10 2 (.e 11 2 .nil)))))) (.e 7 1 (.e 5 1 (.q 8 (.e 9 2 (.e 10 2 (.e 11 2 .nil)))))))) (.e 7 1 (.e 4 1 (.e 5 1 (.q 8 (.e 9 2 (.e 10 2 (.e 11 2 .nil))))))))) (.e 7 1 (.e 3 1 (.e 4 1 (.e 5 1 (.q 8 (.e 9 2 (.e 10 2 (.e 11 2 .nil))))))))))))) [_, _, _, _] (by kernel_rfl) (by kernel_rfl) (pick_mem [1, 2, 3, 4] rfl) ?_
                  obtain ⟨u14377, hu14377, r14395⟩ := bind_some r14376; clear r14376
                  obtain ⟨u14381, hu14381, r14396⟩ := bind_some r14395; clear r14395
                  obtain ⟨u14387, hu14387, r14397⟩ := bind_some r14396; clear r14396
                  obtain ⟨u14391, hu14391, r14398⟩ := bind_some r14397; clear r14397
                  refine Cov.dq (.fieldAddr 1 rfl fl34_1 ty32.sz rfl) rfl ?_
                  refine Cov.dq (.load_own 0 rfl rfl ty32 rfl) rfl ?_
                  refine Cov.dq (.move rfl) rfl ?_
                  refine Cov.dq (.move rfl) rfl ?_
                  refine Cov.alt ?_ ?_
                  · obtain ⟨c14399, p14400, h14401⟩ := OL.get o4087 hu14377
                    obtain ⟨_, _, rfl, rfl, _, _, rfl, rfl, rfl⟩ := h14401
                    refine Cov.q .d1 (.idxO 0 rfl rfl rfl hu14377 sl32 ty56.sz) rfl ?_
                    refine Cov.clsL (HpLe.refl _) (pick_mem [1, 2, 3, 4] rfl) ?_
                    refine Cov.alt ?_ ?_
                    · refine Cov.q .d1 (.fieldO 0 0 rfl hu14377 rfl (.inl ⟨rfl, rfl⟩) fl56_2 ty3.sz) rfl ?_
                      refine Cov.clsL (HpLe.refl _) (pick_mem [1, 2, 3, 4] rfl) ?_
                      refine Cov.alt ?_ ?_
                      · refine Cov.q .d1 (.loadO 0 2 rfl hu14377 p14400 rfl (.inr rfl) ty3 rfl) rfl ?_
                        refine Cov.clsL (HpLe.refl _) (pick_mem [1, 2, 3, 4] rfl) ?_
                        refine Cov.callS (b1 := [_]) (b2 := [_, _, _, _]) (s1 := []) [_, _] [] .d1 rfl rfl Try.call15 rfl rfl (make_Deck_Next_c (G := G43) List.mem_cons_self s14374 hu14381) rfl (fun v14403 bo so h14402 => ?_)
                        obtain ⟨a14404, k14405, rfl, rfl, rfl, s14406⟩ := h14402
                        refine Cov.same (bl' := [_, _, _, _, _]) (sl' := [_]) rfl rfl rfl ?_
                        refine Cov.clsL (HpLe.refl _) (pick_mem [1, 2, 3, 4] rfl) ?_
                        refine Cov.dq (.addw rfl rfl) rfl ?_
                        obtain ⟨c14407, p14408, h14409⟩ := OL.get o4087 hu14387
                        obtain ⟨_, _, rfl, rfl, _, _, rfl, rfl, rfl⟩ := h14409
                        refine Cov.q .d2 (.idxO 0 rfl rfl rfl hu14387 sl32 ty56.sz) rfl ?_
                        refine Cov.q .d2 (.fieldO 0 0 rfl hu14387 rfl (.inl ⟨rfl, rfl⟩) fl56_2 ty3.sz) rfl ?_
                        refine Cov.storeR 0 2 (Q := (Rep.pair (Rep.int .i64) (Rep.pair (Rep.int .i64) (Rep.int .i64)))) .d2 rfl rfl o4087 hu14391 rfl (.inr rfl) rfl ty3 p14408 ((Rep.pairI (Rep.intI .i64 u14387.1) (Rep.pairI (Rep.intI .i64 u14387.2.1) (Rep.intI .i64 (w64 (u14377.2.2 + u14381.1))))) :) rfl rfl (fun cs14410 hlcs14410 o14411 => ?_)
                        refine Cov.reval 66 hlcs14410 rfl ?_
                        refine Cov.reval 71 hlcs14410 rfl ?_
                        refine Cov.reval 88 hlcs14410 rfl ?_
                        refine Cov.recell 1 [_, .slice a4084 u14391.length k4085] rfl (by rw [hlcs14410]) [_, _, _, _, _] rfl ?_
                        refine Cov.draw_end ?_
                        refine Cov.prune [(16, _), (2, _), (3, _), (4, _), (6, _), (12, _), (15, _), (14, _)] ⟨rfl, rfl, rfl, rfl, rfl, rfl, rfl, rfl, trivial⟩ ?_
                        refine Cov.inBlock ?_
                        refine Cov.pull 4 rfl [_, _, _, _, _] rfl ?_
                        refine Cov.pull 4 rfl [_, _, _, _, _] rfl ?_
                        refine Cov.pull 4 rfl [_, _, _, _, _] rfl ?_
                        refine Cov.pull 3 rfl [_, _, _, _, _] rfl ?_
                        refine Cov.pull 4 rfl [_, _, _, _, _] rfl ?_
                        refine Cov.prune _ ?_ (Cov.same rfl rfl rfl (hb14358 (u14391, a4084, k4085, cs14410, u14381.2.1, a14404, k14405, u14381.2.2) ⟨o14411, s14406, r14398⟩))
                        exact ⟨rfl, rfl, rfl, rfl, rfl, rfl, rfl, rfl, trivial⟩
                      · refine Cov.callS (b1 := [_]) (b2 := [_, _, _, _]) (s1 := []) [_, _] [] .d1 rfl rfl Try.call15 rfl rfl (make_Deck_Next_c (G := G43) List.mem_cons_self s14374 hu14381) rfl (fun v14414 bo so h14413 => ?_)
                        obtain ⟨a14415, k14416, rfl, rfl, rfl, s14417⟩ := h14413
                        refine Cov.same (bl' := [_, _, _, _, _]) (sl' := [_]) rfl rfl rfl ?_
                        refine Cov.clsL (HpLe.refl _) (pick_mem [1, 2, 3, 4] rfl) ?_
                        refine Cov.q .d1 (.loadO 0 2 rfl hu14377 p14400 rfl (.inr rfl) ty3 rfl) rfl ?_
                        refine Cov.clsL (HpLe.refl _) (pick_mem [1, 2, 3, 4] rfl) ?_
                        refine Cov.dq (.addw rfl rfl) rfl ?_
                        obtain ⟨c14418, p14419, h14420⟩ := OL.get o4087 hu14387
                        obtain ⟨_, _, rfl, rfl, _, _, rfl, rfl, rfl⟩ := h14420
                        refine Cov.q .d2 (.idxO 0 rfl rfl rfl hu14387 sl32 ty56.sz) rfl ?_
                        refine Cov.q .d2 (.fieldO 0 0 rfl hu14387 rfl (.inl ⟨rfl, rfl⟩) fl56_2 ty3.sz) rfl ?_
                        refine Cov.storeR 0 2 (Q := (Rep.pair (Rep.int .i64) (Rep.pair (Rep.int .i64) (Rep.int .i64)))) .d2 rfl rfl o4087 hu14391 rfl (.inr rfl) rfl ty3 p14419 ((Rep.pairI (Rep.intI .i64 u14387.1) (Rep.pairI (Rep.intI .i64 u14387.2.1) (Rep.intI .i64 (w64 (u14377.2.2 + u14381.1))))) :) rfl rfl (fun cs14421 hlcs14421 o14422 => ?_)
                        refine Cov.reval 66 hlcs14421 rfl ?_
                        refine Cov.reval 71 hlcs14421 rfl ?_
                        refine Cov.reval 88 hlcs14421 rfl ?_
                        refine Cov.recell 1 [_, .slice a4084 u14391.length k4085] rfl (by rw [hlcs14421]) [_, _, _, _, _] rfl ?_
                        refine Cov.draw_end ?_
                        refine Cov.prune [(16, _), (2, _), (3, _), (4, _), (6, _), (12, _), (15, _), (14, _)] ⟨rfl, rfl, rfl, rfl, rfl, rfl, rfl, rfl, trivial⟩ ?_
                        refine Cov.inBlock ?_
                        refine Cov.pull 4 rfl [_, _, _, _, _] rfl ?_
                        refine Cov.pull 4 rfl [_, _, _, _, _] rfl ?_
                        refine Cov.pull 4 rfl [_, _, _, _, _] rfl ?_
                        refine Cov.pull 3 rfl [_, _, _, _, _] rfl ?_
                        refine Cov.pull 4 rfl [_, _, _, _, _] rfl ?_
                        refine Cov.prune _ ?_ (Cov.same rfl rfl rfl (hb14358 (u14391, a4084, k4085, cs14421, u14381.2.1, a14415, k14416, u14381.2.2) ⟨o14422, s14417, r14398⟩))
                        exact ⟨rfl, rfl, rfl, rfl, rfl, rfl, rfl, rfl, trivial⟩
                    · refine Cov.callS (b1 := [_]) (b2 := [_, _, _, _]) (s1 := []) [_, _] [] .d1 rfl rfl Try.call15 rfl rfl (make_Deck_Next_c (G := G43) List.mem_cons_self s14374 hu14381) rfl (fun v14425 bo so h14424 => ?_)
                      obtain ⟨a14426, k14427, rfl, rfl, rfl, s14428⟩ := h14424
                      refine Cov.same (bl' := [_, _, _, _, _]) (sl' := [_]) rfl rfl rfl ?_
                      refine Cov.clsL (HpLe.refl _) (pick_mem [1, 2, 3, 4] rfl) ?_
                      refine Cov.q .d1 (.fieldO 0 0 rfl hu14377 rfl (.inl ⟨rfl, rfl⟩) fl56_2 ty3.sz) rfl ?_
                      refine Cov.clsL (HpLe.refl _) (pick_mem [1, 2, 3, 4] rfl) ?_
                      refine Cov.q .d1 (.loadO 0 2 rfl hu14377 p14400 rfl (.inr rfl) ty3 rfl) rfl ?_
                      refine Cov.clsL (HpLe.refl _) (pick_mem [1, 2, 3, 4] rfl) ?_
                      refine Cov.dq (.addw rfl rfl) rfl ?_
                      obtain ⟨c14429, p14430, h14431⟩ := OL.get o4087 hu14387
                      obtain ⟨_, _, rfl, rfl, _, _, rfl, rfl, rfl⟩ := h14431
                      refine Cov.q .d2 (.idxO 0 rfl rfl rfl hu14387 sl32 ty56.sz) rfl ?_
                      refine Cov.q .d2 (.fieldO 0 0 rfl hu14387 rfl (.inl ⟨rfl, rfl⟩) fl56_2 ty3.sz) rfl ?_
                      refine Cov.storeR 0 2 (Q := (Rep.pair (Rep.int .i64) (Rep.pair (Rep.int .i64) (Rep.int .i64)))) .d2 rfl rfl o4087 hu14391 rfl (.inr rfl) rfl ty3 p14430 ((Rep.pairI (Rep.intI .i64 u14387.1) (Rep.pairI (Rep.intI .i64 u14387.2.1) (Rep.intI .i64 (w64 (u14377.2.2 + u14381.1))))) :) rfl rfl (fun cs14432 hlcs14432 o14433 => ?_)
                      refine Cov.reval 66 hlcs14432 rfl ?_
                      refine Cov.reval 71 hlcs14432 rfl ?_
                      refine Cov.reval 88 hlcs14432 rfl ?_
                      refine Cov.recell 1 [_, .slice a4084 u14391.length k4085] rfl (by rw [hlcs14432]) [_, _, _, _, _] rfl ?_
                      refine Cov.draw_end ?_
                      refine Cov.prune [(16, _), (2, _), (3, _), (4, _), (6, _), (12, _), (15, _), (14, _)] ⟨rfl, rfl, rfl, rfl, rfl, rfl, rfl, rfl, trivial⟩ ?_
                      refine Cov.inBlock ?_
                      refine Cov.pull 4 rfl [_, _, _, _, _] rfl ?_
                      refine Cov.pull 4 rfl [_, _, _, _, _] rfl ?_
                      refine Cov.pull 4 rfl [_, _, _, _, _] rfl ?_
                      refine Cov.pull 3 rfl [_, _, _, _, _] rfl ?_
                      refine Cov.pull 4 rfl [_, _, _, _, _] rfl ?_
                      refine Cov.prune _ ?_ (Cov.same rfl rfl rfl (hb14358 (u14391, a4084, k4085, cs14432, u14381.2.1, a14426, k14427, u14381.2.2) ⟨o14433, s14428, r14398⟩))
                      exact ⟨rfl, rfl, rfl, rfl, rfl, rfl, rfl, rfl, trivial⟩
                  · refine Cov.callS (b1 := [_]) (b2 := [_, _, _, _]) (s1 := []) [_, _] [] .d1 rfl rfl Try.call15 rfl rfl (make_Deck_Next_c (G := G43) List.mem_cons_self s14374 hu14381) rfl (fun v14436 bo so h14435 => ?_)
                    obtain ⟨a14437, k14438, rfl, rfl, rfl, s14439⟩ := h14435
                    refine Cov.same (bl' := [_, _, _, _, _]) (sl' := [_]) rfl rfl rfl ?_
                    refine Cov.clsL (HpLe.refl _) (pick_mem [1, 2, 3, 4] rfl) ?_
                    obtain ⟨c14440, p14441, h14442⟩ := OL.get o4087 hu14377
                    obtain ⟨_, _, rfl, rfl, _, _, rfl, rfl, rfl⟩ := h14442
                    refine Cov.q .d1 (.idxO 0 rfl rfl rfl hu14377 sl32 ty56.sz) rfl ?_
                    refine Cov.clsL (HpLe.refl _) (pick_mem [1, 2, 3, 4] rfl) ?_
                    refine Cov.q .d1 (.fieldO 0 0 rfl hu14377 rfl (.inl ⟨rfl, rfl⟩) fl56_2 ty3.sz) rfl ?_
                    refine Cov.clsL (HpLe.refl _) (pick_mem [1, 2, 3, 4] rfl) ?_
                    refine Cov.q .d1 (.loadO 0 2 rfl hu14377 p14441 rfl (.inr rfl) ty3 rfl) rfl ?_
                    refine Cov.clsL (HpLe.refl _) (pick_mem [1, 2, 3, 4] rfl) ?_
                    refine Cov.dq (.addw rfl rfl) rfl ?_
                    obtain ⟨c14443, p14444, h14445⟩ := OL.get o4087 hu14387
                    obtain ⟨_, _, rfl, rfl, _, _, rfl, rfl, rfl⟩ := h14445
                    refine Cov.q .d2 (.idxO 0 rfl rfl rfl hu14387 sl32 ty56.sz) rfl ?_
                    refine Cov.q .d2 (.fieldO 0 0 rfl hu14387 rfl (.inl ⟨rfl, rfl⟩) fl56_2 ty3.sz) rfl ?_
                    refine Cov.storeR 0 2 (Q := (Rep.pair (Rep.int .i64) (Rep.pair (Rep.int .i64) (Rep.int .i64)))) .d2 rfl rfl o4087 hu14391 rfl (.inr rfl) rfl ty3 p14444 ((Rep.pairI (Rep.intI .i64 u14387.1) (Rep.pairI (Rep.intI .i64 u14387.2.1) (Rep.intI .i64 (w64 (u14377.2.2 + u14381.1))))) :) rfl rfl (fun cs14446 hlcs14446 o14447 => ?_)
                    refine Cov.reval 66 hlcs14446 rfl ?_
                    refine Cov.reval 71 hlcs14446 rfl ?_
                    refine Cov.reval 88 hlcs14446 rfl ?_
                    refine Cov.recell 1 [_, .slice a4084 u14391.length k4085] rfl (by rw [hlcs14446]) [_, _, _, _, _] rfl ?_
                    refine Cov.draw_end ?_
                    refine Cov.prune [(16, _), (2, _), (3, _), (4, _), (6, _), (12, _), (15, _), (14, _)] ⟨rfl, rfl, rfl, rfl, rfl, rfl, rfl, rfl, trivial⟩ ?_
                    refine Cov.inBlock ?_
                    refine Cov.pull 4 rfl [_, _, _, _, _] rfl ?_
                    refine Cov.pull 4 rfl [_, _, _, _, _] rfl ?_
                    refine Cov.pull 4 rfl [_, _, _, _, _] rfl ?_
                    refine Cov.pull 3 rfl [_, _, _, _, _] rfl ?_
                    refine Cov.pull 4 rfl [_, _, _, _, _] rfl ?_
                    refine Cov.prune _ ?_ (Cov.same rfl rfl rfl (hb14358 (u14391, a4084, k4085, cs14446, u14381.2.1, a14437, k14438, u14381.2.2) ⟨o14447, s14439, r14398⟩))
                    exact ⟨rfl, rfl, rfl, rfl, rfl, rfl, rfl, rfl, trivial⟩
                · have r18409 := ifF r14369 c14375; clear r14369
                  refine Cov.seq ?_
                  refine Cov.region rfl ?_
                  refine Cov.q .ro (.eql rfl rfl) rfl ?_
                  refine Cov.q .ro (.assign rfl) rfl ?_
                  refine Cov.region_end ?_
                  refine Cov.prune [(16, _), (2, _), (3, _), (4, _), (6, _), (11, _), (12, _), (15, _), (14, _), (17, _), (98, _)] ⟨rfl, rfl, rfl, rfl, rfl, rfl, rfl, rfl, rfl, rfl, rfl, trivial⟩ ?_
                  refine Cov.cond_dec rfl (fun c18410 => ?_) (fun c18410 => ?_)
                  · have r18411 := ifT r18409 c18410; clear r18409
                    refine Cov.drawL (.q 0 (.q 1 (.q 2 (.q 6 (.alt (.e 3 1 (.alt (.e 4 1 (.alt (.e 5 1 (.e 7 1 (.q 8 (.q 9 (.e 10 2 (.e 11 2 (.e 12 2 .nil))))))) (.e 7 1 (.q 8 (.e 5 1 (.q 9 (.e 10 2 (.e 11 2 (.e 12 2 .nil))))))))) (.e 7 1 (.q 8 (.e 4 1 (.e 5 1 (.q 9 (.e 10 2 (.e 11 2 (.e 12 2 .nil)))))))))) (.e 7 1 (.q 8 (.e 3 1 (.e 4 1 (.e 5 1 (.q 9 (.e 10 2 (.e 11 2 (.e 12 2 .nil)))))))))))))) [_, _, _, _] (by kernel_rfl) (by kernel_rfl) (pick_mem [1, 2, 3, 4] rfl) ?_
                    obtain ⟨u18412, hu18412, r18430⟩ := bind_some r18411; clear r18411
                    obtain ⟨u18416, hu18416, r18431⟩ := bind_some r18430; clear r18430
                    obtain ⟨u18422, hu18422, r18432⟩ := bind_some r18431; clear r18431
                    obtain ⟨u18426, hu18426, r18433⟩ := bind_some r18432; clear r18432
                    refine Cov.dq (.fieldAddr 1 rfl fl34_1 ty32.sz rfl) rfl ?_
                    refine Cov.dq (.load_own 0 rfl rfl ty32 rfl) rfl ?_
                    refine Cov.dq (.move rfl) rfl ?_
                    refine Cov.dq (.move rfl) rfl ?_
                    refine Cov.alt ?_ ?_
                    · obtain ⟨c18434, p18435, h18436⟩ := OL.get o4087 hu18412
                      obtain ⟨_, _, rfl, rfl, _, _, rfl, rfl, rfl⟩ := h18436
                      refine Cov.q .d1 (.idxO 0 rfl rfl rfl hu18412 sl32 ty56.sz) rfl ?_
                      refine Cov.clsL (HpLe.refl _) (pick_mem [1, 2, 3, 4] rfl) ?_
                      refine Cov.alt ?_ ?_
                      · refine Cov.q .d1 (.fieldO 0 0 rfl hu18412 rfl (.inl ⟨rfl, rfl⟩) fl56_1 ty3.sz) rfl ?_
                        refine Cov.clsL (HpLe.refl _) (pick_mem [1, 2, 3, 4] rfl) ?_
                        refine Cov.alt ?_ ?_
                        · refine Cov.q .d1 (.loadO 0 1 rfl hu18412 p18435 rfl (.inr rfl) ty3 rfl) rfl ?_
                          refine Cov.clsL (HpLe.refl _) (pick_mem [1, 2, 3, 4] rfl) ?_
                          refine Cov.callS (b1 := [_]) (b2 := [_, _, _, _]) (s1 := []) [_, _] [] .d1 rfl rfl Try.call15 rfl rfl (make_Deck_Next_c (G := G43) List.mem_cons_self s14374 hu18416) rfl (fun v18438 bo so h18437 => ?_)
                          obtain ⟨a18439, k18440, rfl, rfl, rfl, s18441⟩ := h18437
                          refine Cov.same (bl' := [_, _, _, _, _]) (sl' := [_]) rfl rfl rfl ?_
                          refine Cov.clsL (HpLe.refl _) (pick_mem [1, 2, 3, 4] rfl) ?_
                          refine Cov.dq (.subw rfl rfl) rfl ?_
                          refine Cov.dq (.addw rfl rfl) rfl ?_
                          obtain ⟨c18442, p18443, h18444⟩ := OL.get o4087 hu18422
                          obtain ⟨_, _, rfl, rfl, _, _, rfl, rfl, rfl⟩ := h18444
                          refine Cov.q .d2 (.idxO 0 rfl rfl rfl hu18422 sl32 ty56.sz) rfl ?_
                          refine Cov.q .d2 (.fieldO 0 0 rfl hu18422 rfl (.inl ⟨rfl, rfl⟩) fl56_1 ty3.sz) rfl ?_
                          refine Cov.storeR 0 1 (Q := (Rep.pair (Rep.int .i64) (Rep.pair (Rep.int .i64) (Rep.int .i64)))) .d2 rfl rfl o4087 hu18426 rfl (.inr rfl) rfl ty3 p18443 ((Rep.pairI (Rep.intI .i64 u18422.1) (Rep.pairI (Rep.intI .i64 (w64 (u18412.2.1 + (w64 (u18416.1 - 1))))) (Rep.intI .i64 u18422.2.2))) :) rfl rfl (fun cs18445 hlcs18445 o18446 => ?_)
                          refine Cov.reval 101 hlcs18445 rfl ?_
                          refine Cov.recell 1 [_, .slice a4084 u18426.length k4085] rfl (by rw [hlcs18445]) [_, _, _, _, _] rfl ?_
                          refine Cov.draw_end ?_
                          refine Cov.prune [(16, _), (2, _), (3, _), (4, _), (6, _), (12, _), (15, _), (14, _)] ⟨rfl, rfl, rfl, rfl, rfl, rfl, rfl, rfl, trivial⟩ ?_
                          refine Cov.inBlock ?_
                          refine Cov.pull 4 rfl [_, _, _, _, _] rfl ?_
                          refine Cov.pull 4 rfl [_, _, _, _, _] rfl ?_
                          refine Cov.pull 4 rfl [_, _, _, _, _] rfl ?_
                          refine Cov.pull 3 rfl [_, _, _, _, _] rfl ?_
                          refine Cov.pull 4 rfl [_, _, _, _, _] rfl ?_
                          refine Cov.prune _ ?_ (Cov.same rfl rfl rfl (hb14358 (u18426, a4084, k4085, cs18445, u18416.2.1, a18439, k18440, u18416.2.2) ⟨o18446, s18441, r18433⟩))
                          exact ⟨rfl, rfl, rfl, rfl, rfl, rfl, rfl, rfl, trivial⟩
                        · refine Cov.callS (b1 := [_]) (b2 := [_, _, _, _]) (s1 := []) [_, _] [] .d1 rfl rfl Try.call15 rfl rfl (make_Deck_Next_c (G := G43) List.mem_cons_self s14374 hu18416) rfl (fun v18449 bo so h18448 => ?_)
                          obtain ⟨a18450, k18451, rfl, rfl, rfl, s18452⟩ := h18448
                          refine Cov.same (bl' := [_, _, _, _, _]) (sl' := [_]) rfl rfl rfl ?_
                          refine Cov.clsL (HpLe.refl _) (pick_mem [1, 2, 3, 4] rfl) ?_
                          refine Cov.dq (.subw rfl rfl) rfl ?_
                          refine Cov.q .d1 (.loadO 0 1 rfl hu18412 p18435 rfl (.inr rfl) ty3 rfl) rfl ?_
                          refine Cov.clsL (HpLe.refl _) (pick_mem [1, 2, 3, 4] rfl) ?_
                          refine Cov.dq (.addw rfl rfl) rfl ?_
                          obtain ⟨c18453, p18454, h18455⟩ := OL.get o4087 hu18422
                          obtain ⟨_, _, rfl, rfl, _, _, rfl, rfl, rfl⟩ := h18455
                          refine Cov.q .d2 (.idxO 0 rfl rfl rfl hu18422 sl32 ty56.sz) rfl ?_
                          refine Cov.q .d2 (.fieldO 0 0 rfl hu18422 rfl (.inl ⟨rfl, rfl⟩) fl56_1 ty3.sz) rfl ?_
                          refine Cov.storeR 0 1 (Q := (Rep.pair (Rep.int .i64) (Rep.pair (Rep.int .i64) (Rep.int .i64)))) .d2 rfl rfl o4087 hu18426 rfl (.inr rfl) rfl ty3 p18454 ((Rep.pairI (Rep.intI .i64 u18422.1) (Rep.pairI (Rep.intI .i64 (w64 (u18412.2.1 + (w64 (u18416.1 - 1))))) (Rep.intI .i64 u18422.2.2))) :) rfl rfl (fun cs18456 hlcs18456 o18457 => ?_)
                          refine Cov.reval 101 hlcs18456 rfl ?_
                          refine Cov.recell 1 [_, .slice a4084 u18426.length k4085] rfl (by rw [hlcs18456]) [_, _, _, _, _] rfl ?_
                          refine Cov.draw_end ?_
                          refine Cov.prune [(16, _), (2, _), (3, _), (4, _), (6, _), (12, _), (15, _), (14, _)] ⟨rfl, rfl, rfl, rfl, rfl, rfl, rfl, rfl, trivial⟩ ?_
                          refine Cov.inBlock ?_
                          refine Cov.pull 4 rfl [_, _, _, _, _] rfl ?_
                          refine Cov.pull 4 rfl [_, _, _, _, _] rfl ?_
                          refine Cov.pull 4 rfl [_, _, _, _, _] rfl ?_
                          refine Cov.pull 3 rfl [_, _, _, _, _] rfl ?_
                          refine Cov.pull 4 rfl [_, _, _, _, _] rfl ?_
                          refine Cov.prune _ ?_ (Cov.same rfl rfl rfl (hb14358 (u18426, a4084, k4085, cs18456, u18416.2.1, a18450, k18451, u18416.2.2) ⟨o18457, s18452, r18433⟩))
                          exact ⟨rfl, rfl, rfl, rfl, rfl, rfl, rfl, rfl, trivial⟩
                      · refine Cov.callS (b1 := [_]) (b2 := [_, _, _, _]) (s1 := []) [_, _] [] .d1 rfl rfl Try.call15 rfl rfl (make_Deck_Next_c (G := G43) List.mem_cons_self s14374 hu18416) rfl (fun v18460 bo so h18459 => ?_)
                        obtain ⟨a18461, k18462, rfl, rfl, rfl, s18463⟩ := h18459
                        refine Cov.same (bl' := [_, _, _, _, _]) (sl' := [_]) rfl rfl rfl ?_
                        refine Cov.clsL (HpLe.refl _) (pick_mem [1, 2, 3, 4] rfl) ?_
                        refine Cov.dq (.subw rfl rfl) rfl ?_
                        refine Cov.q .d1 (.fieldO 0 0 rfl hu18412 rfl (.inl ⟨rfl, rfl⟩) fl56_1 ty3.sz) rfl ?_
                        refine Cov.clsL (HpLe.refl _) (pick_mem [1, 2, 3, 4] rfl) ?_
                        refine Cov.q .d1 (.loadO 0 1 rfl hu18412 p18435 rfl (.inr rfl) ty3 rfl) rfl ?_
                        refine Cov.clsL (HpLe.refl _) (pick_mem [1, 2, 3, 4] rfl) ?_
                        refine Cov.dq (.addw rfl rfl) rfl ?_
                        obtain ⟨c18464, p18465, h18466⟩ := OL.get o4087 hu18422
                        obtain ⟨_, _, rfl, rfl, _, _, rfl, rfl, rfl⟩ := h18466
                        refine Cov.q .d2 (.idxO 0 rfl rfl rfl hu18422 sl32 ty56.sz) rfl ?_
                        refine Cov.q .d2 (.fieldO 0 0 rfl hu18422 rfl (.inl ⟨rfl, rfl⟩) fl56_1 ty3.sz) rfl ?_
                        refine Cov.storeR 0 1 (Q := (Rep.pair (Rep.int .i64) (Rep.pair (Rep.int .i64) (Rep.int .i64)))) .d2 rfl rfl o4087 hu18426 rfl (.inr rfl) rfl ty3 p18465 ((Rep.pairI (Rep.intI .i64 u18422.1) (Rep.pairI (Rep.intI .i64 (w64 (u18412.2.1 + (w64 (u18416.1 - 1))))) (Rep.intI .i64 u18422.2.2))) :) rfl rfl (fun cs18467 hlcs18467 o18468 => ?_)
                        refine Cov.reval 101 hlcs18467 rfl ?_
                        refine Cov.recell 1 [_, .slice a4084 u18426.length k4085] rfl (by rw [hlcs18467]) [_, _, _, _, _] rfl ?_
                        refine Cov.draw_end ?_
                        refine Cov.prune [(16, _), (2, _), (3, _), (4, _), (6, _), (12, _), (15, _), (14, _)] ⟨rfl, rfl, rfl, rfl, rfl, rfl, rfl, rfl, trivial⟩ ?_
                        refine Cov.inBlock ?_
                        refine Cov.pull 4 rfl [_, _, _, _, _] rfl ?_
                        refine Cov.pull 4 rfl [_, _, _, _, _] rfl ?_
                        refine Cov.pull 4 rfl [_, _, _, _, _] rfl ?_
                        refine Cov.pull 3 rfl [_, _, _, _, _] rfl ?_
                        refine Cov.pull 4 rfl [_, _, _, _, _] rfl ?_
                        refine Cov.prune _ ?_ (Cov.same rfl rfl rfl (hb14358 (u18426, a4084, k4085, cs18467, u18416.2.1, a18461, k18462, u18416.2.2) ⟨o18468, s18463, r18433⟩))
                        exact ⟨rfl, rfl, rfl, rfl, rfl, rfl, rfl, rfl, trivial⟩
                    · refine Cov.callS (b1 := [_]) (b2 := [_, _, _, _]) (s1 := []) [_, _] [] .d1 rfl rfl Try.call15 rfl rfl (make_Deck_Next_c (G := G43) List.mem_cons_self s14374 hu18416) rfl (fun v18471 bo so h18470 => ?_)
                      obtain ⟨a18472, k18473, rfl, rfl, rfl, s18474⟩ := h18470
                      refine Cov.same (bl' := [_, _, _, _, _]) (sl' := [_]) rfl rfl rfl ?_
                      refine Cov.clsL (HpLe.refl _) (pick_mem [1, 2, 3, 4] rfl) ?_
                      refine Cov.dq (.subw rfl rfl) rfl ?_
                      obtain ⟨c18475, p18476, h18477⟩ := OL.get o4087 hu18412
                      obtain ⟨_, _, rfl, rfl, _, _, rfl, rfl, rfl⟩ := h18477
                      refine Cov.q .d1 (.idxO 0 rfl rfl rfl hu18412 sl32 ty56.sz) rfl ?_
                      refine Cov.clsL (HpLe.refl _) (pick_mem [1, 2, 3, 4] rfl) ?_
                      refine Cov.q .d1 (.fieldO 0 0 rfl hu18412 rfl (.inl ⟨rfl, rfl⟩) fl56_1 ty3.sz) rfl ?_
                      refine Cov.clsL (HpLe.refl _) (pick_mem [1, 2, 3, 4] rfl) ?_
                      refine Cov.q .d1 (.loadO 0 1 rfl hu18412 p18476 rfl (.inr rfl) ty3 rfl) rfl ?_
                      refine Cov.clsL (HpLe.refl _) (pick_mem [1, 2, 3, 4] rfl) ?_
                      refine Cov.dq (.addw rfl rfl) rfl ?_
                      obtain ⟨c18478, p18479, h18480⟩ := OL.get o4087 hu18422
                      obtain ⟨_, _, rfl, rfl, _, _, rfl, rfl, rfl⟩ := h18480
                      refine Cov.q .d2 (.idxO 0 rfl rfl rfl hu18422 sl32 ty56.sz) rfl ?_
                      refine Cov.q .d2 (.fieldO 0 0 rfl hu18422 rfl (.inl ⟨rfl, rfl⟩) fl56_1 ty3.sz) rfl ?_
                      refine Cov.storeR 0 1 (Q := (Rep.pair (Rep.int .i64) (Rep.pair (Rep.int .i64) (Rep.int .i64)))) .d2 rfl rfl o4087 hu18426 rfl (.inr rfl) rfl ty3 p18479 ((Rep.pairI (Rep.intI .i64 u18422.1) (Rep.pairI (Rep.intI .i64 (w64 (u18412.2.1 + (w64 (u18416.1 - 1))))) (Rep.intI .i64 u18422.2.2))) :) rfl rfl (fun cs18481 hlcs18481 o18482 => ?_)
                      refine Cov.reval 101 hlcs18481 rfl ?_
                      refine Cov.recell 1 [_, .slice a4084 u18426.length k4085] rfl (by rw [hlcs18481]) [_, _, _, _, _] rfl ?_
                      refine Cov.draw_end ?_
                      refine Cov.prune [(16, _), (2, _), (3, _), (4, _), (6, _), (12, _), (15, _), (14, _)] ⟨rfl, rfl, rfl, rfl, rfl, rfl, rfl, rfl, trivial⟩ ?_
                      refine Cov.inBlock ?_
                      refine Cov.pull 4 rfl [_, _, _, _, _] rfl ?_
                      refine Cov.pull 4 rfl [_, _, _, _, _] rfl ?_
                      refine Cov.pull 4 rfl [_, _, _, _, _] rfl ?_
                      refine Cov.pull 3 rfl [_, _, _, _, _] rfl ?_
                      refine Cov.pull 4 rfl [_, _, _, _, _] rfl ?_
                      refine Cov.prune _ ?_ (Cov.same rfl rfl rfl (hb14358 (u18426, a4084, k4085, cs18481, u18416.2.1, a18472, k18473, u18416.2.2) ⟨o18482, s18474, r18433⟩))
                      exact ⟨rfl, rfl, rfl, rfl, rfl, rfl, rfl, rfl, trivial⟩
                  · have r22444 := ifF r18409 c18410; clear r18409
                    refine Cov.region rfl ?_
                    refine Cov.q .ro (.fieldAddr 1 rfl fl34_1 ty32.sz rfl) rfl ?_
                    refine Cov.q .ro (.load_own 1 rfl rfl ty32 rfl) rfl ?_
                    refine Cov.q .ro (.move rfl) rfl ?_
                    obtain ⟨u22445, hu22445, r22446⟩ := bind_some r22444; clear r22444
                    obtain ⟨c22447, p22448, h22449⟩ := OL.get o4087 hu22445
                    obtain ⟨_, _, rfl, rfl, _, _, rfl, rfl, rfl⟩ := h22449
                    refine Cov.q .ro (.idxO 0 rfl rfl rfl hu22445 sl32 ty56.sz) rfl ?_
                    refine Cov.q .ro (.fieldO 0 0 rfl hu22445 rfl (.inl ⟨rfl, rfl⟩) fl56_0 ty3.sz) rfl ?_
                    refine Cov.q .ro (.loadO 0 0 rfl hu22445 p22448 rfl (.inr rfl) ty3 rfl) rfl ?_
                    refine Cov.q .ro (.addw rfl rfl) rfl ?_
                    obtain ⟨u22450, hu22450, r22451⟩ := bind_some r22446; clear r22446
                    obtain ⟨c22452, p22453, h22454⟩ := OL.get o4087 hu22450
                    obtain ⟨_, _, rfl, rfl, _, _, rfl, rfl, rfl⟩ := h22454
                    refine Cov.q .ro (.idxO 0 rfl rfl rfl hu22450 sl32 ty56.sz) rfl ?_
                    refine Cov.q .ro (.fieldO 0 0 rfl hu22450 rfl (.inl ⟨rfl, rfl⟩) fl56_0 ty3.sz) rfl ?_
                    obtain ⟨u22455, hu22455, r22456⟩ := bind_some r22451; clear r22451
                    refine Cov.storeR 0 0 (Q := (Rep.pair (Rep.int .i64) (Rep.pair (Rep.int .i64) (Rep.int .i64)))) .ro rfl rfl o4087 hu22455 rfl (.inr rfl) rfl ty3 p22453 ((Rep.pairI (Rep.intI .i64 (w64 (u22445.1 + 1))) (Rep.pairI (Rep.intI .i64 u22450.2.1) (Rep.intI .i64 u22450.2.2))) :) rfl rfl (fun cs22457 hlcs22457 o22458 => ?_)
                    refine Cov.reval 77 hlcs22457 rfl ?_
                    refine Cov.recell 1 [_, .slice a4084 u22455.length k4085] rfl (by rw [hlcs22457]) [_, _, _, _, _] rfl ?_
                    refine Cov.region_end ?_
                    refine Cov.inBlock ?_
                    refine Cov.pull 4 rfl [_, _, _, _, _] rfl ?_
                    refine Cov.pull 4 rfl [_, _, _, _, _] rfl ?_
                    refine Cov.pull 4 rfl [_, _, _, _, _] rfl ?_
                    refine Cov.pull 3 rfl [_, _, _, _, _] rfl ?_
                    refine Cov.pull 4 rfl [_, _, _, _, _] rfl ?_
                    refine Cov.prune _ ?_ (Cov.same rfl rfl rfl (hb14358 (u22455, a4084, k4085, cs22457, u14368.2.1, a14372, k14373, u14368.2.2) ⟨o22458, s14374, r22456⟩))
                    exact ⟨rfl, rfl, rfl, rfl, rfl, rfl, rfl, rfl, trivial⟩
              · have r22460 := ifF r4090 c14359; clear r4090
                refine Cov.skip ?_
                refine Cov.pull 4 rfl [_, _, _, _, _] rfl ?_
                refine Cov.pull 3 rfl [_, _, _, _, _] rfl ?_
                refine Cov.pull 3 rfl [_, _, _, _, _] rfl ?_
                refine Cov.pull 4 rfl [_, _, _, _, _] rfl ?_
                refine Cov.pull 4 rfl [_, _, _, _, _] rfl ?_
                refine Cov.prune _ ?_ (Cov.same rfl rfl rfl (hb14358 (v4083, a4084, k4085, cs4086, u39.2.2.2.2.1, a56, k57, u39.2.2.2.2.2) ⟨o4087, s58, r22460⟩))
                exact ⟨rfl, rfl, rfl, rfl, rfl, rfl, rfl, rfl, trivial⟩
          · intro hb22461
            refine Cov.drawL (.q 0 (.q 1 (.q 2 (.q 3 (.alt (.e 4 1 (.q 5 (.e 6 1 (.e 7 2 .nil)))) (.e 6 1 (.e 4 1 (.q 5 (.e 7 2 .nil))))))))) [_, _, _, _] (by kernel_rfl) (by kernel_rfl) (pick_mem [0, 1, 2, 3] rfl) ?_
            obtain ⟨u22467, hu22467, r22470⟩ := bind_some r40; clear r40
            refine Cov.dq (.fieldAddr 0 rfl fl34_0 ty3.sz rfl) rfl ?_
            refine Cov.dq (.load_own 0 rfl rfl ty3 rfl) rfl ?_
            refine Cov.dq (.fieldAddr 1 rfl fl34_1 ty32.sz rfl) rfl ?_
            refine Cov.dq (.load_own 0 rfl rfl ty32 rfl) rfl ?_
            refine Cov.alt ?_ ?_
            · refine Cov.own_nil 56 3 ?_
              refine Cov.appR (Q := (Rep.pair (Rep.int .i64) (Rep.pair (Rep.int .i64) (Rep.int .i64)))) 0 .d1 sl32 ty56 rfl rfl rfl rfl rfl (OL.nil (Rp' := (Rep.pair (Rep.int .i64) (Rep.pair (Rep.int .i64) (Rep.int .i64))))) rfl rfl s55 rfl List.mem_cons_self hu22467 rfl (fun a22472 k22473 cs22474 o22475 => ?_)
              refine Cov.clsL (HpLe.refl _) (pick_mem [0, 1, 2, 3] rfl) ?_
              refine Cov.dq (.build [_, _] [(0, _), (1, _)] ty34 pl34 rfl rfl) rfl ?_
              refine Cov.alloc .d1 ty34 rfl (fun b22477 hb22477 => ?_)
              refine Cov.clsL (HpLe.refl _) (pick_mem [1, 2, 3, 4] rfl) ?_
              refine Cov.store 0 [_, _] [_, _, _, _, _] .d2 rfl rfl rfl ty34 rfl rfl rfl rfl ?_
              refine Cov.draw_end ?_
              refine Cov.prune [(2, _), (3, _), (4, _), (6, _), (11, _), (12, _), (15, _), (14, _), (16, _)] ⟨rfl, rfl, rfl, rfl, rfl, rfl, rfl, rfl, rfl, trivial⟩ ?_
              refine Cov.prune _ ?_ (Cov.same rfl rfl rfl (hb22461 (b22477, u39.2.2.2.1.1, u22467, a22472, k22473, cs22474) ⟨o22475, r22470⟩))
              exact ⟨rfl, rfl, rfl, rfl, rfl, rfl, rfl, rfl, rfl, trivial⟩
            · refine Cov.alloc .d1 ty34 rfl (fun b22478 hb22478 => ?_)
              refine Cov.clsL (HpLe.refl _) (pick_mem [1, 2, 3, 4] rfl) ?_
              refine Cov.own_nil 56 3 ?_
              refine Cov.appR (Q := (Rep.pair (Rep.int .i64) (Rep.pair (Rep.int .i64) (Rep.int .i64)))) 0 .d1 sl32 ty56 rfl rfl rfl rfl rfl (OL.nil (Rp' := (Rep.pair (Rep.int .i64) (Rep.pair (Rep.int .i64) (Rep.int .i64))))) rfl rfl s55 rfl List.mem_cons_self hu22467 rfl (fun a22480 k22481 cs22482 o22483 => ?_)
              refine Cov.clsL (HpLe.refl _) (pick_mem [1, 2, 3, 4] rfl) ?_
              refine Cov.dq (.build [_, _] [(0, _), (1, _)] ty34 pl34 rfl rfl) rfl ?_
              refine Cov.store 0 [_, _] [_, _, _, _, _] .d2 rfl rfl rfl ty34 rfl rfl rfl rfl ?_
              refine Cov.draw_end ?_
              refine Cov.prune [(2, _), (3, _), (4, _), (6, _), (11, _), (12, _), (15, _), (14, _), (16, _)] ⟨rfl, rfl, rfl, rfl, rfl, rfl, rfl, rfl, rfl, trivial⟩ ?_
              refine Cov.prune _ ?_ (Cov.same rfl rfl rfl (hb22461 (b22478, u39.2.2.2.1.1, u22467, a22480, k22481, cs22482) ⟨o22483, r22470⟩))
              exact ⟨rfl, rfl, rfl, rfl, rfl, rfl, rfl, rfl, rfl, trivial⟩
      · intro hb22
        refine Cov.split 45 rfl (fun c21 => ?_) (fun c21 => ?_)
        · have r26481 := ifT h24 c21
          refine Cov.g_off rfl rfl rfl ?_
          refine Cov.g_off rfl rfl rfl ?_
          refine Cov.g_off rfl rfl rfl ?_
          refine Cov.q .ro (.pick_t rfl rfl) rfl ?_
          refine Cov.prune _ ?_ (Cov.same rfl rfl rfl (hb22 () trivial))
          exact ⟨sval r26481, rfl, rfl, rfl, rfl, rfl, trivial⟩
        · have r26482 := ifF h24 c21
          refine Cov.g_on rfl ?_
          refine Cov.q .ro (.move rfl) rfl ?_
          refine Cov.g_on rfl ?_
          obtain ⟨u26483, hu26483, r26484⟩ := bind_some r26482; clear r26482
          refine Cov.callS (b1 := []) (b2 := [_]) (s1 := []) [_] [] .ro rfl rfl Try.call12 rfl rfl (law13_small_c (G := G) List.mem_cons_self s2 hu26483) rfl (fun v26486 bo so h26485 => ?_)
          obtain ⟨rfl, rfl, rfl⟩ := h26485
          refine Cov.same (bl' := [_]) (sl' := []) rfl rfl rfl ?_
          refine Cov.g_on rfl ?_
          refine Cov.q .ro (.not rfl) rfl ?_
          refine Cov.q .ro (.pick_f rfl rfl) rfl ?_
          refine Cov.prune _ ?_ (Cov.same rfl rfl rfl (hb22 () trivial))
          exact ⟨sval r26484, rfl, rfl, rfl, rfl, rfl, trivial⟩
    · intro hb14
      refine Cov.split_b 39 rfl (fun c13 => ?_) (fun c13 => ?_)
      · refine Cov.g_off rfl rfl rfl ?_
        refine Cov.g_off rfl rfl rfl ?_
        refine Cov.g_off rfl rfl rfl ?_
        refine Cov.g_off rfl rfl rfl ?_
        refine Cov.q .ro (.pick_t rfl rfl) rfl ?_
        refine Cov.prune _ ?_ (Cov.same rfl rfl rfl (hb14 () trivial))
        exact ⟨dor_t c13, rfl, rfl, rfl, rfl, rfl, trivial⟩
      · refine Cov.g_on rfl ?_
        refine Cov.q .ro (.fieldAddr 1 rfl fl34_1 ty32.sz rfl) rfl ?_
        refine Cov.g_on rfl ?_
        refine Cov.q .ro (.load_own 0 rfl rfl ty32 rfl) rfl ?_
        refine Cov.g_on rfl ?_
        refine Cov.q .ro (.len_sl rfl rfl sl32) rfl ?_
        refine Cov.g_on rfl ?_
        refine Cov.q .ro (.gtr rfl rfl) rfl ?_
        refine Cov.q .ro (.pick_f rfl rfl) rfl ?_
        refine Cov.prune _ ?_ (Cov.same rfl rfl rfl (hb14 () trivial))
        exact ⟨dor_f (bne_of c13), rfl, rfl, rfl, rfl, rfl, trivial⟩

end Go.Proofs.Ythgmcgldmahgeaa
