/- The walks. Printed by wip/lift/drive.py. -/
import Derived.Test.YthgmcgldmahgeaaW3
namespace Go.Proofs.Ythgmcgldmahgeaa
open Go.RowKit
set_option linter.unusedSimpArgs false
set_option linter.unusedVariables false
set_option synthInstance.maxSize 2000
set_option synthInstance.maxHeartbeats 400000

set_option maxHeartbeats 4000000 in
set_option maxRecDepth 100000 in
theorem law13_LayoutDigits_c {Fs : List Hp} {G : Hp} {a0 : Option Addr} {k0 : Nat} {x0 : List Int} {x1 : Int} {r : Bool} (hG : G ∈ Fs) (s0 : SlR (Rep.int .i64) G a0 k0 x0) (h : law13_LayoutDigits x0 x1 = some r) : RetS Try.prog 7 #[.slice a0 x0.length k0, .int .u8 x1] Fs [] [] (fun v bo so => v = .bool r ∧ bo = [] ∧ so = []) := by
  unfold law13_LayoutDigits at h
  try dsimp only at h
  refine RetS.of (vs := [_, _]) Try.func7 rfl Try.ntmps7 [(0, _), (1, _)] ⟨rfl, rfl, trivial⟩ rfl hG fun w0 S0 hS0 B0 => ?_
  refine Cov.seq ?_
  refine Cov.region rfl ?_
  refine Cov.q .ro (.assign rfl) rfl ?_
  refine Cov.region_end ?_
  refine Cov.seq ?_
  refine Cov.seq ?_
  refine Cov.region rfl ?_
  obtain ⟨u1, hu1, r2⟩ := bind_some h; clear h
  refine Cov.callS (b1 := []) (b2 := []) (s1 := []) [] [] .ro rfl rfl Try.call10 rfl rfl (law13_sane_c (G := G) List.mem_cons_self  hu1) rfl (fun v4 bo so h3 => ?_)
  obtain ⟨rfl, rfl, rfl⟩ := h3
  refine Cov.same (bl' := []) (sl' := []) rfl rfl rfl ?_
  refine Cov.q .ro (.not rfl) rfl ?_
  refine Cov.region_end ?_
  refine Cov.cond rfl (fun c5 => ?_) (fun c5 => ?_)
  · have r6 := ifT r2 c5; clear r2
    refine Cov.seq ?_
    refine Cov.region rfl ?_
    refine Cov.q .ro (.assign rfl) rfl ?_
    refine Cov.region_end ?_
    cases r6
    refine Cov.retS (c := ⟨7, none⟩) (.inr ⟨_, rfl⟩) [.tmp 4] [_] rfl Try.func7 Try.results7 ⟨RV.tmp rfl, trivial⟩ (fun _ h => List.mem_cons_of_mem _ h) ⟨rfl, rfl, rfl⟩
  · have r7 := ifBF r2 c5; clear r2
    refine Cov.skip ?_
    refine Cov.seq ?_
    refine Cov.seq ?_
    refine Cov.region rfl ?_
    refine Cov.q .ro (.move rfl) rfl ?_
    obtain ⟨u8, hu8, r9⟩ := bind_some r7; clear r7
    refine Cov.callS (b1 := []) (b2 := []) (s1 := []) [_] [] .ro rfl rfl Try.call11 rfl rfl (make_Few_c (G := G) List.mem_cons_self s0 hu8) rfl (fun v11 bo so h10 => ?_)
    obtain ⟨rfl, rfl, rfl⟩ := h10
    refine Cov.same (bl' := []) (sl' := []) rfl rfl rfl ?_
    refine Cov.q .ro (.not rfl) rfl ?_
    refine Cov.region_end ?_
    refine Cov.cond rfl (fun c12 => ?_) (fun c12 => ?_)
    · have r13 := ifT r9 c12; clear r9
      refine Cov.seq ?_
      refine Cov.region rfl ?_
      refine Cov.q .ro (.assign rfl) rfl ?_
      refine Cov.region_end ?_
      cases r13
      refine Cov.retS (c := ⟨7, none⟩) (.inr ⟨_, rfl⟩) [.tmp 4] [_] rfl Try.func7 Try.results7 ⟨RV.tmp rfl, trivial⟩ (fun _ h => List.mem_cons_of_mem _ h) ⟨rfl, rfl, rfl⟩
    · have r14 := ifBF r9 c12; clear r9
      refine Cov.skip ?_
      refine Cov.seq ?_
      refine Cov.region rfl ?_
      refine Cov.q .ro (.move rfl) rfl ?_
      obtain ⟨u15, hu15, r16⟩ := bind_some r14; clear r14
      refine Cov.callS (b1 := []) (b2 := []) (s1 := []) [_] [] .ro rfl rfl Try.call13 rfl rfl (make_New_c (G := G) List.mem_cons_self s0 hu15) rfl (fun v18 bo so h17 => ?_)
      obtain ⟨a20, k21, b19, rfl, rfl, rfl, s22⟩ := h17
      refine Cov.same (bl' := [_]) (sl' := []) rfl rfl rfl ?_
      obtain ⟨u23, hu23, r24⟩ := bind_some r16; clear r16
      refine Cov.callS (b1 := [_]) (b2 := []) (s1 := []) [_] [] .ro rfl rfl Try.call25 rfl rfl (make_Field_c (G := G) List.mem_cons_self s22 hu23) rfl (fun v26 bo so h25 => ?_)
      obtain ⟨a27, k28, rfl, rfl, rfl, s29⟩ := h25
      refine Cov.same (bl' := [_]) (sl' := []) rfl rfl rfl ?_
      refine Cov.alloc .ro ty24 rfl (fun b30 hb30 => ?_)
      refine Cov.store 0 [_] [_, _] .ro rfl rfl rfl ty24 rfl rfl rfl rfl ?_
      refine Cov.region_end ?_
      refine Cov.seq ?_
      refine Cov.region rfl ?_
      refine Cov.q .ro (.load_own_a 0 [_] rfl rfl ty24 rfl) rfl ?_
      obtain ⟨u31, hu31, r32⟩ := bind_some r24; clear r24
      refine Cov.callS (b1 := []) (b2 := [_, _]) (s1 := []) [_] [] .ro rfl rfl Try.call16 rfl rfl (layout_Digits_c (G := G) List.mem_cons_self  hu31) rfl (fun v34 bo so h33 => ?_)
      obtain ⟨rfl, rfl, rfl⟩ := h33
      refine Cov.same (bl' := [_, _]) (sl' := []) rfl rfl rfl ?_
      refine Cov.q .ro (.move rfl) rfl ?_
      refine Cov.q .ro (.extract rfl rfl) rfl ?_
      refine Cov.q .ro (.extract rfl rfl) rfl ?_
      refine Cov.q .ro (.assign rfl) rfl ?_
      refine Cov.q .ro (.assign rfl) rfl ?_
      refine Cov.region_end ?_
      refine Cov.prune [(1, _), (5, _), (6, _), (7, _)] ⟨rfl, rfl, rfl, rfl, trivial⟩ ?_
      refine Cov.seq ?_
      refine Cov.region rfl ?_
      refine Cov.q .ro (.assign rfl) rfl ?_
      refine Cov.q .ro (.assign rfl) rfl ?_
      refine Cov.region_end ?_
      refine Cov.seq ?_
      refine Cov.seq ?_
      refine Cov.region rfl ?_
      refine Cov.q .ro (.assign rfl) rfl ?_
      refine Cov.region_end ?_
      refine Cov.cutB (β := Int × Int × Int × Int) (fun y => [(8, .int .i64 y.1), (9, .int .i64 y.2.1)]) [(1, _), (5, _), (6, _), (7, _)] (fun y => G :: Fs) (fun y => [(b30, .cells #[.int .i64 y.2.2.1] 24 (0, 0)), (b19, .cells #[.slice a27 u23.2.1.length k28, .int .i64 y.2.2.2] 69 (0, 0))]) [] (fun y => []) [] (fun y => (law13_LayoutDigits_J3 x1 u31.1 u31.2) y.1 y.2.1 y.2.2.1 y.2.2.2 = some r) ⟨rfl, rfl, rfl, rfl, trivial⟩ [] rfl [] rfl ?_ ?_
      · intro y hI
        obtain ⟨v70, v71, v72, v73⟩ := y
        have r75 := hI; clear hI
        try dsimp only at r75
        refine Cov.prune [(8, .int .i64 v70), (9, .int .i64 v71), (1, _), (5, _), (6, _), (7, _)] ⟨rfl, rfl, rfl, rfl, rfl, rfl, trivial⟩ ?_
        refine Cov.same (bl' := [(b30, .cells #[.int .i64 v72] 24 (0, 0)), (b19, .cells #[.slice a27 u23.2.1.length k28, .int .i64 v73] 69 (0, 0))]) (sl' := []) (Fs' := G :: Fs) rfl rfl rfl ?_
        unfold law13_LayoutDigits_J3 at r75
        try dsimp only at r75
        refine Cov.seq ?_
        refine Cov.region rfl ?_
        refine Cov.q .ro (.load_own_a 0 [_] rfl rfl ty24 rfl) rfl ?_
        refine Cov.q .ro (.move rfl) rfl ?_
        refine Cov.q .ro (.move rfl) rfl ?_
        refine Cov.lit [_] [(0, _)] .ro sl61 ty5 rfl rfl rfl rfl rfl rfl (fun b80 hb80 => ?_)
        have o81 : OL (Rep.int .u8) G [.int .u8 x1] ([x1] : List Int) := ((OL.cons rfl (Rep.intI .u8 x1) (OL.nil (Rp' := (Rep.int .u8)))) :)
        refine Cov.reval 47 (n' := ([x1] : List Int).length) rfl rfl ?_
        refine Cov.freezeR 0 rfl rfl o81 [] rfl B0 (fun G83 e84 B85 s86 => ?_)
        refine Cov.q .ro (.b2s s86 List.mem_cons_self rfl Try.underlying61 Try.underlying5 Try.underlying9) rfl ?_
        refine Cov.lit [_] [(0, _)] .ro sl25 ty9 rfl rfl rfl rfl rfl rfl (fun b88 hb88 => ?_)
        have o89 : OL Rep.str G83 [.string (ofB ([x1] : List Int))] ([(ofB ([x1] : List Int))] : List ByteArray) := ((OL.cons rfl (Rep.strI (ofB ([x1] : List Int))) (OL.nil (Rp' := Rep.str))) :)
        refine Cov.reval 49 (n' := ([(ofB ([x1] : List Int))] : List ByteArray).length) rfl rfl ?_
        refine Cov.freezeR 0 rfl rfl o89 [] rfl B85 (fun G91 e92 B93 s94 => ?_)
        obtain ⟨u96, hu96, r97⟩ := bind_some r75; clear r75
        refine Cov.callW (b1 := []) (b2 := [_, _]) (s1 := []) [_, _, _] [] .ro rfl rfl Try.call19 rfl rfl (layout_Encode_c (G := G91) List.mem_cons_self s94 hu96) rfl B93 (fun v99 bo so G100 e101 B102 h98 => ?_)
        obtain ⟨a104, k105, a107, k108, rfl, rfl, rfl, s106, s109⟩ := h98
        refine Cov.same (bl' := [_, _]) (sl' := []) rfl rfl rfl ?_
        refine Cov.q .ro (.move rfl) rfl ?_
        refine Cov.q .ro (.extract rfl rfl) rfl ?_
        refine Cov.q .ro (.extract rfl rfl) rfl ?_
        refine Cov.q .ro (.extract rfl rfl) rfl ?_
        refine Cov.alloc .ro ty34 rfl (fun b110 hb110 => ?_)
        refine Cov.q .ro (.assign rfl) rfl ?_
        refine Cov.store 0 [_, _] [_, _, _] .ro rfl rfl rfl ty34 rfl rfl rfl rfl ?_
        refine Cov.q .ro (.assign rfl) rfl ?_
        refine Cov.region_end ?_
        refine Cov.seq ?_
        refine Cov.seq ?_
        refine Cov.region rfl ?_
        refine Cov.q .ro (.move rfl) rfl ?_
        refine Cov.q .ro (.neq rfl rfl) rfl ?_
        refine Cov.q .ro (.move rfl) rfl ?_
        refine Cov.cutR 3 (β := Unit) (fun y => [(59, .bool (decide ((u31.2 ≠ 0) ∨ (u96.2.2 ≠ 0))))]) [(8, _), (9, _), (1, _), (5, _), (6, _), (12, _), (11, _)] (fun y => G100 :: Fs) (fun y => []) [_, _, _] (fun y => []) [] (fun y => True) ⟨rfl, rfl, rfl, rfl, rfl, rfl, rfl, trivial⟩ [0, 1, 2] rfl [] rfl ?_ ?_
        · rintro _ _
          refine Cov.prune [(59, .bool (decide ((u31.2 ≠ 0) ∨ (u96.2.2 ≠ 0)))), (8, _), (9, _), (1, _), (5, _), (6, _), (12, _), (11, _)] ⟨rfl, rfl, rfl, rfl, rfl, rfl, rfl, rfl, trivial⟩ ?_
          refine Cov.same (bl' := [_, _, _]) (sl' := []) (Fs' := G100 :: Fs) rfl rfl rfl ?_
          refine Cov.q .ro (.move rfl) rfl ?_
          refine Cov.cutR 3 (β := Unit) (fun y => [(63, .bool (decide (((u31.2 ≠ 0) ∨ (u96.2.2 ≠ 0)) ∨ (u31.1 < 1))))]) [(8, _), (9, _), (1, _), (5, _), (6, _), (12, _), (11, _)] (fun y => G100 :: Fs) (fun y => []) [_, _, _] (fun y => []) [] (fun y => True) ⟨rfl, rfl, rfl, rfl, rfl, rfl, rfl, trivial⟩ [0, 1, 2] rfl [] rfl ?_ ?_
          · rintro _ _
            refine Cov.prune [(63, .bool (decide (((u31.2 ≠ 0) ∨ (u96.2.2 ≠ 0)) ∨ (u31.1 < 1)))), (8, _), (9, _), (1, _), (5, _), (6, _), (12, _), (11, _)] ⟨rfl, rfl, rfl, rfl, rfl, rfl, rfl, rfl, trivial⟩ ?_
            refine Cov.same (bl' := [_, _, _]) (sl' := []) (Fs' := G100 :: Fs) rfl rfl rfl ?_
            refine Cov.q .ro (.move rfl) rfl ?_
            refine Cov.cutR 3 (β := Unit) (fun y => [(67, .bool (decide ((((u31.2 ≠ 0) ∨ (u96.2.2 ≠ 0)) ∨ (u31.1 < 1)) ∨ (8 < u31.1))))]) [(8, _), (9, _), (1, _), (5, _), (6, _), (12, _), (11, _)] (fun y => G100 :: Fs) (fun y => []) [_, _, _] (fun y => []) [] (fun y => True) ⟨rfl, rfl, rfl, rfl, rfl, rfl, rfl, trivial⟩ [0, 1, 2] rfl [] rfl ?_ ?_
            · rintro _ _
              refine Cov.prune [(67, .bool (decide ((((u31.2 ≠ 0) ∨ (u96.2.2 ≠ 0)) ∨ (u31.1 < 1)) ∨ (8 < u31.1)))), (8, _), (9, _), (1, _), (5, _), (6, _), (12, _), (11, _)] ⟨rfl, rfl, rfl, rfl, rfl, rfl, rfl, rfl, trivial⟩ ?_
              refine Cov.same (bl' := [_, _, _]) (sl' := []) (Fs' := G100 :: Fs) rfl rfl rfl ?_
              refine Cov.q .ro (.move rfl) rfl ?_
              refine Cov.cutR 3 (β := Unit) (fun y => [(71, .bool (decide (((((u31.2 ≠ 0) ∨ (u96.2.2 ≠ 0)) ∨ (u31.1 < 1)) ∨ (8 < u31.1)) ∨ (v70 < 256))))]) [(9, _), (1, _), (5, _), (6, _), (12, _), (11, _)] (fun y => G100 :: Fs) (fun y => []) [_, _, _] (fun y => []) [] (fun y => True) ⟨rfl, rfl, rfl, rfl, rfl, rfl, trivial⟩ [0, 1, 2] rfl [] rfl ?_ ?_
              · rintro _ _
                refine Cov.prune [(71, .bool (decide (((((u31.2 ≠ 0) ∨ (u96.2.2 ≠ 0)) ∨ (u31.1 < 1)) ∨ (8 < u31.1)) ∨ (v70 < 256)))), (9, _), (1, _), (5, _), (6, _), (12, _), (11, _)] ⟨rfl, rfl, rfl, rfl, rfl, rfl, rfl, trivial⟩ ?_
                refine Cov.same (bl' := [_, _, _]) (sl' := []) (Fs' := G100 :: Fs) rfl rfl rfl ?_
                refine Cov.q .ro (.move rfl) rfl ?_
                refine Cov.cutR 3 (β := Unit) (fun y => [(75, .bool (decide ((((((u31.2 ≠ 0) ∨ (u96.2.2 ≠ 0)) ∨ (u31.1 < 1)) ∨ (8 < u31.1)) ∨ (v70 < 256)) ∨ (256 ≤ v71))))]) [(1, _), (5, _), (6, _), (12, _), (11, _)] (fun y => G100 :: Fs) (fun y => []) [_, _, _] (fun y => []) [] (fun y => True) ⟨rfl, rfl, rfl, rfl, rfl, trivial⟩ [0, 1, 2] rfl [] rfl ?_ ?_
                · rintro _ _
                  refine Cov.prune [(75, .bool (decide ((((((u31.2 ≠ 0) ∨ (u96.2.2 ≠ 0)) ∨ (u31.1 < 1)) ∨ (8 < u31.1)) ∨ (v70 < 256)) ∨ (256 ≤ v71)))), (1, _), (5, _), (6, _), (12, _), (11, _)] ⟨rfl, rfl, rfl, rfl, rfl, rfl, trivial⟩ ?_
                  refine Cov.same (bl' := [_, _, _]) (sl' := []) (Fs' := G100 :: Fs) rfl rfl rfl ?_
                  refine Cov.q .ro (.move rfl) rfl ?_
                  refine Cov.cutR 4 (β := Unit) (fun y => [(80, .bool (decide (((((((u31.2 ≠ 0) ∨ (u96.2.2 ≠ 0)) ∨ (u31.1 < 1)) ∨ (8 < u31.1)) ∨ (v70 < 256)) ∨ (256 ≤ v71)) ∨ ((u96.1.length : Int) ≠ 1))))]) [(1, _), (5, _), (6, _), (12, _), (11, _)] (fun y => G100 :: Fs) (fun y => []) [_, _, _] (fun y => []) [] (fun y => True) ⟨rfl, rfl, rfl, rfl, rfl, trivial⟩ [0, 1, 2] rfl [] rfl ?_ ?_
                  · rintro _ _
                    refine Cov.prune [(80, .bool (decide (((((((u31.2 ≠ 0) ∨ (u96.2.2 ≠ 0)) ∨ (u31.1 < 1)) ∨ (8 < u31.1)) ∨ (v70 < 256)) ∨ (256 ≤ v71)) ∨ ((u96.1.length : Int) ≠ 1)))), (1, _), (5, _), (6, _), (12, _), (11, _)] ⟨rfl, rfl, rfl, rfl, rfl, rfl, trivial⟩ ?_
                    refine Cov.same (bl' := [_, _, _]) (sl' := []) (Fs' := G100 :: Fs) rfl rfl rfl ?_
                    refine Cov.q .ro (.move rfl) rfl ?_
                    refine Cov.cutR 5 (β := Unit) (fun y => [(86, .bool (decide ((((((((u31.2 ≠ 0) ∨ (u96.2.2 ≠ 0)) ∨ (u31.1 < 1)) ∨ (8 < u31.1)) ∨ (v70 < 256)) ∨ (256 ≤ v71)) ∨ ((u96.1.length : Int) ≠ 1)) ∨ ((u96.2.1.2.length : Int) ≠ 1))))]) [(1, _), (5, _), (6, _), (11, _)] (fun y => G100 :: Fs) (fun y => []) [_, _, _] (fun y => []) [] (fun y => True) ⟨rfl, rfl, rfl, rfl, trivial⟩ [0, 1, 2] rfl [] rfl ?_ ?_
                    · rintro _ _
                      refine Cov.prune [(86, .bool (decide ((((((((u31.2 ≠ 0) ∨ (u96.2.2 ≠ 0)) ∨ (u31.1 < 1)) ∨ (8 < u31.1)) ∨ (v70 < 256)) ∨ (256 ≤ v71)) ∨ ((u96.1.length : Int) ≠ 1)) ∨ ((u96.2.1.2.length : Int) ≠ 1)))), (1, _), (5, _), (6, _), (11, _)] ⟨rfl, rfl, rfl, rfl, rfl, trivial⟩ ?_
                      refine Cov.same (bl' := [_, _, _]) (sl' := []) (Fs' := G100 :: Fs) rfl rfl rfl ?_
                      refine Cov.q .ro (.move rfl) rfl ?_
                      obtain ⟨u149, h150, r151⟩ := bind_some r97; clear r97
                      refine Cov.cutR 7 (β := Unit) (fun y => [(94, .bool u149)]) [(1, _), (5, _), (6, _), (11, _)] (fun y => G100 :: Fs) (fun y => []) [_, _, _] (fun y => []) [] (fun y => True) ⟨rfl, rfl, rfl, rfl, trivial⟩ [0, 1, 2] rfl [] rfl ?_ ?_
                      · rintro _ _
                        refine Cov.prune [(94, .bool u149), (1, _), (5, _), (6, _), (11, _)] ⟨rfl, rfl, rfl, rfl, rfl, trivial⟩ ?_
                        refine Cov.same (bl' := [_, _, _]) (sl' := []) (Fs' := G100 :: Fs) rfl rfl rfl ?_
                        refine Cov.region_end ?_
                        refine Cov.cond rfl (fun c154 => ?_) (fun c154 => ?_)
                        · have r155 := ifT r151 c154; clear r151
                          refine Cov.seq ?_
                          refine Cov.region rfl ?_
                          refine Cov.q .ro (.assign rfl) rfl ?_
                          refine Cov.region_end ?_
                          cases r155
                          refine Cov.drop 3 0 [] _ rfl rfl ?_
                          refine Cov.retS (c := ⟨7, none⟩) (.inr ⟨_, rfl⟩) [.tmp 4] [_] rfl Try.func7 Try.results7 ⟨RV.tmp rfl, trivial⟩ (fun _ h => List.mem_cons_of_mem _ h) ⟨rfl, rfl, rfl⟩
                        · have r156 := ifBF r151 c154; clear r151
                          refine Cov.skip ?_
                          refine Cov.seq ?_
                          refine Cov.region rfl ?_
                          refine Cov.q .ro (.assign rfl) rfl ?_
                          refine Cov.region_end ?_
                          refine Cov.seq ?_
                          refine Cov.seq ?_
                          refine Cov.region rfl ?_
                          refine Cov.q .ro (.move rfl) rfl ?_
                          refine Cov.q .ro (.subw rfl rfl) rfl ?_
                          refine Cov.q .ro (.assign rfl) rfl ?_
                          refine Cov.region_end ?_
                          refine Cov.cutB (β := Int × Int × Int × Int) (fun y => [(14, .int .i64 y.1)]) [(1, _)] (fun y => G100 :: Fs) (fun y => [(b110, .cells #[.int .i64 y.2.1, .slice a107 u96.2.1.2.length k108] 34 (0, 0)), (b30, .cells #[.int .i64 y.2.2.1] 24 (0, 0)), (b19, .cells #[.slice a27 u23.2.1.length k28, .int .i64 y.2.2.2] 69 (0, 0))]) [] (fun y => []) [] (fun y => (law13_LayoutDigits_J1 x1) y.1 y.2.1 y.2.2.1 y.2.2.2 = some r) ⟨rfl, trivial⟩ [] rfl [] rfl ?_ ?_
                          · intro y hI
                            obtain ⟨v210, v211, v212, v213⟩ := y
                            have r215 := hI; clear hI
                            try dsimp only at r215
                            refine Cov.prune [(14, .int .i64 v210), (1, _)] ⟨rfl, rfl, trivial⟩ ?_
                            refine Cov.same (bl' := [(b110, .cells #[.int .i64 v211, .slice a107 u96.2.1.2.length k108] 34 (0, 0)), (b30, .cells #[.int .i64 v212] 24 (0, 0)), (b19, .cells #[.slice a27 u23.2.1.length k28, .int .i64 v213] 69 (0, 0))]) (sl' := []) (Fs' := G100 :: Fs) rfl rfl rfl ?_
                            unfold law13_LayoutDigits_J1 at r215
                            try dsimp only at r215
                            refine Cov.seq ?_
                            refine Cov.region rfl ?_
                            refine Cov.q .ro (.move rfl) rfl ?_
                            refine Cov.q .ro (.move rfl) rfl ?_
                            refine Cov.q .ro (.convw Try.underlying5 Try.underlying3 rfl) rfl ?_
                            refine Cov.q .ro (.eql rfl rfl) rfl ?_
                            refine Cov.q .ro (.assign rfl) rfl ?_
                            refine Cov.region_end ?_
                            cases r215
                            refine Cov.drop 3 0 [] _ rfl rfl ?_
                            refine Cov.retS (c := ⟨7, none⟩) (.inr ⟨_, rfl⟩) [.tmp 4] [_] rfl Try.func7 Try.results7 ⟨RV.tmp rfl, trivial⟩ (fun _ h => List.mem_cons_of_mem _ h) ⟨rfl, rfl, rfl⟩
                          · intro hb219
                            refine Cov.block ?_
                            refine Cov.loop2 (α := Nat × Int × Int) (fun y => [(14, .int .i64 y.2.1), (15, .int .i64 y.2.2)]) [(1, _), (5, _), (11, _)] (fun y => []) (fun y => []) [_, _, _] (fun y => []) [] (fun y => law13_LayoutDigits_L2 (law13_LayoutDigits_J1 x1) u96.1 u96.2.1.1 v72 v73 y.1 y.2.1 y.2.2 = some r) (fun y => y.1) (big, 0, (w64 (u31.1 - 1))) r156 ⟨rfl, rfl, rfl, rfl, rfl, trivial⟩ rfl rfl rfl (fun y hI hb247 => ?_)
                            obtain ⟨n242, v244, v245⟩ := y
                            have r246 := hI; clear hI
                            try dsimp only at r246
                            refine Cov.prune [(14, .int .i64 v244), (15, .int .i64 v245), (1, _), (5, _), (11, _)] ⟨rfl, rfl, rfl, rfl, rfl, trivial⟩ ?_
                            refine Cov.same (bl' := [_, _, _]) (sl' := []) (Fs' := G100 :: Fs) rfl rfl rfl ?_
                            obtain ⟨m256, rfl⟩ : ∃ m, n242 = m + 1 := by cases n242 with | zero => exact absurd (show (none : Option _) = some _ from r246) (by simp) | succ m => exact ⟨m, rfl⟩
                            have r255 : law13_LayoutDigits_B2 (law13_LayoutDigits_J1 x1) u96.1 u96.2.1.1 v72 v73 (law13_LayoutDigits_L2 (law13_LayoutDigits_J1 x1) u96.1 u96.2.1.1 v72 v73 m256) v244 v245 = some r := r246; clear r246; unfold law13_LayoutDigits_B2 at r255; try dsimp only at r255
                            refine Cov.seq ?_
                            refine Cov.seq ?_
                            refine Cov.region rfl ?_
                            refine Cov.q .ro (.move rfl) rfl ?_
                            refine Cov.q .ro (.geq rfl rfl) rfl ?_
                            refine Cov.region_end ?_
                            refine Cov.cond_dec rfl (fun c257 => ?_) (fun c257 => ?_)
                            · have r258 := ifT r255 c257; clear r255
                              refine Cov.skip ?_
                              refine Cov.seq ?_
                              refine Cov.block ?_
                              refine Cov.drawL (.q 0 (.q 1 (.q 2 (.q 3 (.q 4 (.q 5 (.q 6 (.q 7 (.q 8 (.q 9 (.q 10 (.q 11 .nil)))))))))))) [_, _, _] (by kernel_rfl) (by kernel_rfl) (pick_mem [0, 1, 2] rfl) ?_
                              refine Cov.dq (.move rfl) rfl ?_
                              refine Cov.dq (.fieldAddr 0 rfl fl24_0 ty3.sz rfl) rfl ?_
                              refine Cov.dq (.load_own 1 rfl rfl ty3 rfl) rfl ?_
                              refine Cov.dq (.mulw rfl rfl) rfl ?_
                              refine Cov.dq (.move rfl) rfl ?_
                              obtain ⟨u259, hu259, r260⟩ := bind_some r258; clear r258
                              obtain ⟨c261, p262, h263⟩ := SlR.get s106 hu259
                              obtain ⟨a264, k265, rfl, s266⟩ := h263
                              refine Cov.dq (.idxR s106 rfl rfl hu259 sl26 ty22.sz) rfl ?_
                              refine Cov.dq (.load_rp p262 List.mem_cons_self rfl ty22 rfl) rfl ?_
                              refine Cov.dq (.move rfl) rfl ?_
                              obtain ⟨u267, hu267, r268⟩ := bind_some r260; clear r260
                              obtain ⟨c269, p270, h271⟩ := SlR.get s266 hu267
                              obtain rfl := h271
                              refine Cov.dq (.idxR s266 rfl rfl hu267 sl22 ty3.sz) rfl ?_
                              refine Cov.dq (.load_rp p270 List.mem_cons_self rfl ty3 rfl) rfl ?_
                              refine Cov.dq (.addw rfl rfl) rfl ?_
                              refine Cov.dq (.assign rfl) rfl ?_
                              refine Cov.draw_end ?_
                              refine Cov.prune [(14, _), (15, _), (1, _), (5, _), (11, _)] ⟨rfl, rfl, rfl, rfl, rfl, trivial⟩ ?_
                              refine Cov.inBlock ?_
                              refine Cov.region rfl ?_
                              refine Cov.q .ro (.move rfl) rfl ?_
                              refine Cov.q .ro (.subw rfl rfl) rfl ?_
                              refine Cov.q .ro (.assign rfl) rfl ?_
                              refine Cov.region_end ?_
                              refine Cov.prune _ ?_ (Cov.same rfl rfl rfl (hb247 (m256, (w64 ((w64 (v244 * v72)) + u267)), (w64 (v245 - 1))) r268 (Nat.lt_succ_self _)))
                              exact ⟨rfl, rfl, rfl, rfl, rfl, trivial⟩
                            · have r272 := ifF r255 c257; clear r255
                              refine Cov.exit rfl ?_
                              refine Cov.prune _ ?_ (Cov.same rfl rfl rfl (hb219 (v244, u96.2.1.1, v72, v73) r272))
                              exact ⟨rfl, rfl, trivial⟩
                      · intro hb148
                        refine Cov.split 87 rfl (fun c147 => ?_) (fun c147 => ?_)
                        · have r273 := ifT h150 c147
                          refine Cov.g_off rfl rfl rfl ?_
                          refine Cov.g_off rfl rfl rfl ?_
                          refine Cov.g_off rfl rfl rfl ?_
                          refine Cov.g_off rfl rfl rfl ?_
                          refine Cov.g_off rfl rfl rfl ?_
                          refine Cov.g_off rfl rfl rfl ?_
                          refine Cov.q .ro (.pick_t rfl rfl) rfl ?_
                          refine Cov.prune _ ?_ (Cov.same rfl rfl rfl (hb148 () trivial))
                          exact ⟨sval r273, rfl, rfl, rfl, rfl, trivial⟩
                        · have r274 := ifF h150 c147
                          refine Cov.g_on rfl ?_
                          refine Cov.q .ro (.move rfl) rfl ?_
                          refine Cov.g_on rfl ?_
                          obtain ⟨u275, hu275, r276⟩ := bind_some r274; clear r274
                          obtain ⟨c277, p278, h279⟩ := SlR.get s106 hu275
                          obtain ⟨a280, k281, rfl, s282⟩ := h279
                          refine Cov.q .ro (.idxR s106 rfl rfl hu275 sl26 ty22.sz) rfl ?_
                          refine Cov.g_on rfl ?_
                          refine Cov.q .ro (.load_rp p278 List.mem_cons_self rfl ty22 rfl) rfl ?_
                          refine Cov.g_on rfl ?_
                          refine Cov.q .ro (.len_sl rfl rfl sl22) rfl ?_
                          refine Cov.g_on rfl ?_
                          refine Cov.q .ro (.move rfl) rfl ?_
                          refine Cov.g_on rfl ?_
                          refine Cov.q .ro (.neq rfl rfl) rfl ?_
                          refine Cov.q .ro (.pick_f rfl rfl) rfl ?_
                          refine Cov.prune _ ?_ (Cov.same rfl rfl rfl (hb148 () trivial))
                          exact ⟨sval r276, rfl, rfl, rfl, rfl, trivial⟩
                    · intro hb136
                      refine Cov.split 81 rfl (fun c135 => ?_) (fun c135 => ?_)
                      · refine Cov.g_off rfl rfl rfl ?_
                        refine Cov.g_off rfl rfl rfl ?_
                        refine Cov.g_off rfl rfl rfl ?_
                        refine Cov.g_off rfl rfl rfl ?_
                        refine Cov.q .ro (.pick_t rfl rfl) rfl ?_
                        refine Cov.prune _ ?_ (Cov.same rfl rfl rfl (hb136 () trivial))
                        exact ⟨dor_t c135, rfl, rfl, rfl, rfl, trivial⟩
                      · refine Cov.g_on rfl ?_
                        refine Cov.q .ro (.fieldAddr 1 rfl fl34_1 ty32.sz rfl) rfl ?_
                        refine Cov.g_on rfl ?_
                        refine Cov.q .ro (.load_own 0 rfl rfl ty32 rfl) rfl ?_
                        refine Cov.g_on rfl ?_
                        refine Cov.q .ro (.len_sl rfl rfl sl32) rfl ?_
                        refine Cov.g_on rfl ?_
                        refine Cov.q .ro (.neq rfl rfl) rfl ?_
                        refine Cov.q .ro (.pick_f rfl rfl) rfl ?_
                        refine Cov.prune _ ?_ (Cov.same rfl rfl rfl (hb136 () trivial))
                        exact ⟨dor_f c135, rfl, rfl, rfl, rfl, trivial⟩
                  · intro hb132
                    refine Cov.split 76 rfl (fun c131 => ?_) (fun c131 => ?_)
                    · refine Cov.g_off rfl rfl rfl ?_
                      refine Cov.g_off rfl rfl rfl ?_
                      refine Cov.g_off rfl rfl rfl ?_
                      refine Cov.q .ro (.pick_t rfl rfl) rfl ?_
                      refine Cov.prune _ ?_ (Cov.same rfl rfl rfl (hb132 () trivial))
                      exact ⟨dor_t c131, rfl, rfl, rfl, rfl, rfl, trivial⟩
                    · refine Cov.g_on rfl ?_
                      refine Cov.q .ro (.move rfl) rfl ?_
                      refine Cov.g_on rfl ?_
                      refine Cov.q .ro (.len_sl rfl rfl sl26) rfl ?_
                      refine Cov.g_on rfl ?_
                      refine Cov.q .ro (.neq rfl rfl) rfl ?_
                      refine Cov.q .ro (.pick_f rfl rfl) rfl ?_
                      refine Cov.prune _ ?_ (Cov.same rfl rfl rfl (hb132 () trivial))
                      exact ⟨dor_f c131, rfl, rfl, rfl, rfl, rfl, trivial⟩
                · intro hb128
                  refine Cov.split 72 rfl (fun c127 => ?_) (fun c127 => ?_)
                  · refine Cov.g_off rfl rfl rfl ?_
                    refine Cov.g_off rfl rfl rfl ?_
                    refine Cov.q .ro (.pick_t rfl rfl) rfl ?_
                    refine Cov.prune _ ?_ (Cov.same rfl rfl rfl (hb128 () trivial))
                    exact ⟨dor_t c127, rfl, rfl, rfl, rfl, rfl, trivial⟩
                  · refine Cov.g_on rfl ?_
                    refine Cov.q .ro (.move rfl) rfl ?_
                    refine Cov.g_on rfl ?_
                    refine Cov.q .ro (.geq rfl rfl) rfl ?_
                    refine Cov.q .ro (.pick_f rfl rfl) rfl ?_
                    refine Cov.prune _ ?_ (Cov.same rfl rfl rfl (hb128 () trivial))
                    exact ⟨dor_f c127, rfl, rfl, rfl, rfl, rfl, trivial⟩
              · intro hb124
                refine Cov.split 68 rfl (fun c123 => ?_) (fun c123 => ?_)
                · refine Cov.g_off rfl rfl rfl ?_
                  refine Cov.g_off rfl rfl rfl ?_
                  refine Cov.q .ro (.pick_t rfl rfl) rfl ?_
                  refine Cov.prune _ ?_ (Cov.same rfl rfl rfl (hb124 () trivial))
                  exact ⟨dor_t c123, rfl, rfl, rfl, rfl, rfl, rfl, trivial⟩
                · refine Cov.g_on rfl ?_
                  refine Cov.q .ro (.move rfl) rfl ?_
                  refine Cov.g_on rfl ?_
                  refine Cov.q .ro (.lss rfl rfl) rfl ?_
                  refine Cov.q .ro (.pick_f rfl rfl) rfl ?_
                  refine Cov.prune _ ?_ (Cov.same rfl rfl rfl (hb124 () trivial))
                  exact ⟨dor_f c123, rfl, rfl, rfl, rfl, rfl, rfl, trivial⟩
            · intro hb120
              refine Cov.split 64 rfl (fun c119 => ?_) (fun c119 => ?_)
              · refine Cov.g_off rfl rfl rfl ?_
                refine Cov.g_off rfl rfl rfl ?_
                refine Cov.q .ro (.pick_t rfl rfl) rfl ?_
                refine Cov.prune _ ?_ (Cov.same rfl rfl rfl (hb120 () trivial))
                exact ⟨dor_t c119, rfl, rfl, rfl, rfl, rfl, rfl, rfl, trivial⟩
              · refine Cov.g_on rfl ?_
                refine Cov.q .ro (.move rfl) rfl ?_
                refine Cov.g_on rfl ?_
                refine Cov.q .ro (.gtr rfl rfl) rfl ?_
                refine Cov.q .ro (.pick_f rfl rfl) rfl ?_
                refine Cov.prune _ ?_ (Cov.same rfl rfl rfl (hb120 () trivial))
                exact ⟨dor_f c119, rfl, rfl, rfl, rfl, rfl, rfl, rfl, trivial⟩
          · intro hb116
            refine Cov.split 60 rfl (fun c115 => ?_) (fun c115 => ?_)
            · refine Cov.g_off rfl rfl rfl ?_
              refine Cov.g_off rfl rfl rfl ?_
              refine Cov.q .ro (.pick_t rfl rfl) rfl ?_
              refine Cov.prune _ ?_ (Cov.same rfl rfl rfl (hb116 () trivial))
              exact ⟨dor_t c115, rfl, rfl, rfl, rfl, rfl, rfl, rfl, trivial⟩
            · refine Cov.g_on rfl ?_
              refine Cov.q .ro (.move rfl) rfl ?_
              refine Cov.g_on rfl ?_
              refine Cov.q .ro (.lss rfl rfl) rfl ?_
              refine Cov.q .ro (.pick_f rfl rfl) rfl ?_
              refine Cov.prune _ ?_ (Cov.same rfl rfl rfl (hb116 () trivial))
              exact ⟨dor_f c115, rfl, rfl, rfl, rfl, rfl, rfl, rfl, trivial⟩
        · intro hb112
          refine Cov.split 56 rfl (fun c111 => ?_) (fun c111 => ?_)
          · refine Cov.g_off rfl rfl rfl ?_
            refine Cov.g_off rfl rfl rfl ?_
            refine Cov.q .ro (.pick_t rfl rfl) rfl ?_
            refine Cov.prune _ ?_ (Cov.same rfl rfl rfl (hb112 () trivial))
            exact ⟨dor_t c111, rfl, rfl, rfl, rfl, rfl, rfl, rfl, trivial⟩
          · refine Cov.g_on rfl ?_
            refine Cov.q .ro (.move rfl) rfl ?_
            refine Cov.g_on rfl ?_
            refine Cov.q .ro (.neq rfl rfl) rfl ?_
            refine Cov.q .ro (.pick_f rfl rfl) rfl ?_
            refine Cov.prune _ ?_ (Cov.same rfl rfl rfl (hb112 () trivial))
            exact ⟨dor_f c111, rfl, rfl, rfl, rfl, rfl, rfl, rfl, trivial⟩
      · intro hb283
        refine Cov.block ?_
        refine Cov.loop2 (α := Nat × Int × Int × Int) (fun y => [(8, .int .i64 y.2.1), (9, .int .i64 y.2.2.1), (10, .int .i64 y.2.2.2)]) [(1, _), (5, _), (6, _), (7, _)] (fun y => []) (fun y => []) [_, _] (fun y => []) [] (fun y => law13_LayoutDigits_L4 (law13_LayoutDigits_J3 x1 u31.1 u31.2) u31.1 u23.1 u23.2.2 y.1 y.2.1 y.2.2.1 y.2.2.2 = some r) (fun y => y.1) (big, 1, 1, 0) r32 ⟨rfl, rfl, rfl, rfl, rfl, rfl, rfl, trivial⟩ rfl rfl rfl (fun y hI hb303 => ?_)
        obtain ⟨n297, v299, v300, v301⟩ := y
        have r302 := hI; clear hI
        try dsimp only at r302
        refine Cov.prune [(8, .int .i64 v299), (9, .int .i64 v300), (10, .int .i64 v301), (1, _), (5, _), (6, _), (7, _)] ⟨rfl, rfl, rfl, rfl, rfl, rfl, rfl, trivial⟩ ?_
        refine Cov.same (bl' := [_, _]) (sl' := []) (Fs' := G :: Fs) rfl rfl rfl ?_
        obtain ⟨m311, rfl⟩ : ∃ m, n297 = m + 1 := by cases n297 with | zero => exact absurd (show (none : Option _) = some _ from r302) (by simp) | succ m => exact ⟨m, rfl⟩
        have r310 : law13_LayoutDigits_B4 (law13_LayoutDigits_J3 x1 u31.1 u31.2) u31.1 u23.1 u23.2.2 (law13_LayoutDigits_L4 (law13_LayoutDigits_J3 x1 u31.1 u31.2) u31.1 u23.1 u23.2.2 m311) v299 v300 v301 = some r := r302; clear r302; unfold law13_LayoutDigits_B4 at r310; try dsimp only at r310
        refine Cov.seq ?_
        refine Cov.seq ?_
        refine Cov.region rfl ?_
        refine Cov.q .ro (.move rfl) rfl ?_
        refine Cov.q .ro (.move rfl) rfl ?_
        refine Cov.q .ro (.lss rfl rfl) rfl ?_
        refine Cov.q .ro (.move rfl) rfl ?_
        refine Cov.cutR 3 (β := Unit) (fun y => [(35, .bool (decide ((v301 < u31.1) ∧ (v301 < 9))))]) [(8, _), (9, _), (10, _), (1, _), (5, _), (6, _), (7, _)] (fun y => G :: Fs) (fun y => []) [_, _] (fun y => []) [] (fun y => True) ⟨rfl, rfl, rfl, rfl, rfl, rfl, rfl, trivial⟩ [0, 1] rfl [] rfl ?_ ?_
        · rintro _ _
          refine Cov.prune [(35, .bool (decide ((v301 < u31.1) ∧ (v301 < 9)))), (8, _), (9, _), (10, _), (1, _), (5, _), (6, _), (7, _)] ⟨rfl, rfl, rfl, rfl, rfl, rfl, rfl, rfl, trivial⟩ ?_
          refine Cov.same (bl' := [_, _]) (sl' := []) (Fs' := G :: Fs) rfl rfl rfl ?_
          refine Cov.region_end ?_
          refine Cov.cond_dec rfl (fun c316 => ?_) (fun c316 => ?_)
          · have r317 := ifT r310 c316; clear r310
            refine Cov.skip ?_
            refine Cov.seq ?_
            refine Cov.block ?_
            refine Cov.seq ?_
            refine Cov.region rfl ?_
            refine Cov.q .ro (.move rfl) rfl ?_
            refine Cov.q .ro (.assign rfl) rfl ?_
            refine Cov.region_end ?_
            refine Cov.region rfl ?_
            refine Cov.q .ro (.move rfl) rfl ?_
            refine Cov.q .ro (.fieldAddr 0 rfl fl24_0 ty3.sz rfl) rfl ?_
            refine Cov.q .ro (.load_own 0 rfl rfl ty3 rfl) rfl ?_
            refine Cov.q .ro (.mulw rfl rfl) rfl ?_
            refine Cov.q .ro (.assign rfl) rfl ?_
            refine Cov.region_end ?_
            refine Cov.inBlock ?_
            refine Cov.region rfl ?_
            refine Cov.q .ro (.move rfl) rfl ?_
            refine Cov.q .ro (.addw rfl rfl) rfl ?_
            refine Cov.q .ro (.assign rfl) rfl ?_
            refine Cov.region_end ?_
            refine Cov.prune _ ?_ (Cov.same rfl rfl rfl (hb303 (m311, (w64 (v299 * u23.1)), v299, (w64 (v301 + 1))) r317 (Nat.lt_succ_self _)))
            exact ⟨rfl, rfl, rfl, rfl, rfl, rfl, rfl, trivial⟩
          · have r318 := ifF r310 c316; clear r310
            refine Cov.exit rfl ?_
            refine Cov.prune _ ?_ (Cov.same rfl rfl rfl (hb283 (v299, v300, u23.1, u23.2.2) r318))
            exact ⟨rfl, rfl, rfl, rfl, rfl, rfl, trivial⟩
        · intro hb313
          refine Cov.split 32 rfl (fun c312 => ?_) (fun c312 => ?_)
          · refine Cov.g_on rfl ?_
            refine Cov.q .ro (.move rfl) rfl ?_
            refine Cov.g_on rfl ?_
            refine Cov.q .ro (.lss rfl rfl) rfl ?_
            refine Cov.q .ro (.pick_t rfl rfl) rfl ?_
            refine Cov.prune _ ?_ (Cov.same rfl rfl rfl (hb313 () trivial))
            exact ⟨dand_t c312, rfl, rfl, rfl, rfl, rfl, rfl, rfl, trivial⟩
          · refine Cov.g_off rfl rfl rfl ?_
            refine Cov.g_off rfl rfl rfl ?_
            refine Cov.q .ro (.pick_f rfl rfl) rfl ?_
            refine Cov.prune _ ?_ (Cov.same rfl rfl rfl (hb313 () trivial))
            exact ⟨dand_f c312, rfl, rfl, rfl, rfl, rfl, rfl, rfl, trivial⟩

end Go.Proofs.Ythgmcgldmahgeaa
