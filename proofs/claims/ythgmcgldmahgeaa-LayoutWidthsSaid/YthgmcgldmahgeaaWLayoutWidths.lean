/- The walks. Printed by wip/lift/drive.py. -/
import Derived.Test.YthgmcgldmahgeaaW3
namespace Go.Proofs.Ythgmcgldmahgeaa
open Go.RowKit
set_option linter.unusedSimpArgs false
set_option linter.unusedVariables false
set_option synthInstance.maxSize 2000
set_option synthInstance.maxHeartbeats 400000

set_option maxHeartbeats 4000000 in
set_option maxRecDepth 100000 in
theorem law13_LayoutWidths_c {Fs : List Hp} {G : Hp} {a0 : Option Addr} {k0 : Nat} {x0 : List Int} {x1 : Int} {x2 : Int} {r : Bool} (hG : G ∈ Fs) (s0 : SlR (Rep.int .i64) G a0 k0 x0) (h : law13_LayoutWidths x0 x1 x2 = some r) : RetS Try.prog 5 #[.slice a0 x0.length k0, .int .u8 x1, .int .u8 x2] Fs [] [] (fun v bo so => v = .bool r ∧ bo = [] ∧ so = []) := by
  unfold law13_LayoutWidths at h
  try dsimp only at h
  refine RetS.of (vs := [_, _, _]) Try.func5 rfl Try.ntmps5 [(0, _), (1, _), (2, _)] ⟨rfl, rfl, rfl, trivial⟩ rfl hG fun w0 S0 hS0 B0 => ?_
  refine Cov.seq ?_
  refine Cov.region rfl ?_
  refine Cov.q .ro (.assign rfl) rfl ?_
  refine Cov.region_end ?_
  refine Cov.seq ?_
  refine Cov.seq ?_
  refine Cov.region rfl ?_
  obtain ⟨u1, hu1, r2⟩ := bind_some h; clear h
  refine Cov.callS (b1 := []) (b2 := []) (s1 := []) [] [] .ro rfl rfl Try.call10 rfl rfl (law13_sane_c (G := G) List.mem_cons_self  hu1) rfl (fun v4 bo so h3 => ?_)
  obtain ⟨rfl, rfl, rfl⟩ := h3
  refine Cov.same (bl' := []) (sl' := []) rfl rfl rfl ?_
  refine Cov.q .ro (.not rfl) rfl ?_
  refine Cov.region_end ?_
  refine Cov.cond rfl (fun c5 => ?_) (fun c5 => ?_)
  · have r6 := ifT r2 c5; clear r2
    refine Cov.seq ?_
    refine Cov.region rfl ?_
    refine Cov.q .ro (.assign rfl) rfl ?_
    refine Cov.region_end ?_
    cases r6
    refine Cov.retS (c := ⟨5, none⟩) (.inr ⟨_, rfl⟩) [.tmp 6] [_] rfl Try.func5 Try.results5 ⟨RV.tmp rfl, trivial⟩ (fun _ h => List.mem_cons_of_mem _ h) ⟨rfl, rfl, rfl⟩
  · have r7 := ifBF r2 c5; clear r2
    refine Cov.skip ?_
    refine Cov.seq ?_
    refine Cov.seq ?_
    refine Cov.region rfl ?_
    refine Cov.q .ro (.move rfl) rfl ?_
    obtain ⟨u8, hu8, r9⟩ := bind_some r7; clear r7
    refine Cov.callS (b1 := []) (b2 := []) (s1 := []) [_] [] .ro rfl rfl Try.call11 rfl rfl (make_Few_c (G := G) List.mem_cons_self s0 hu8) rfl (fun v11 bo so h10 => ?_)
    obtain ⟨rfl, rfl, rfl⟩ := h10
    refine Cov.same (bl' := []) (sl' := []) rfl rfl rfl ?_
    refine Cov.q .ro (.not rfl) rfl ?_
    refine Cov.region_end ?_
    refine Cov.cond rfl (fun c12 => ?_) (fun c12 => ?_)
    · have r13 := ifT r9 c12; clear r9
      refine Cov.seq ?_
      refine Cov.region rfl ?_
      refine Cov.q .ro (.assign rfl) rfl ?_
      refine Cov.region_end ?_
      cases r13
      refine Cov.retS (c := ⟨5, none⟩) (.inr ⟨_, rfl⟩) [.tmp 6] [_] rfl Try.func5 Try.results5 ⟨RV.tmp rfl, trivial⟩ (fun _ h => List.mem_cons_of_mem _ h) ⟨rfl, rfl, rfl⟩
    · have r14 := ifBF r9 c12; clear r9
      refine Cov.skip ?_
      refine Cov.seq ?_
      refine Cov.region rfl ?_
      refine Cov.q .ro (.move rfl) rfl ?_
      obtain ⟨u15, hu15, r16⟩ := bind_some r14; clear r14
      refine Cov.callS (b1 := []) (b2 := []) (s1 := []) [_] [] .ro rfl rfl Try.call13 rfl rfl (make_New_c (G := G) List.mem_cons_self s0 hu15) rfl (fun v18 bo so h17 => ?_)
      obtain ⟨a20, k21, b19, rfl, rfl, rfl, s22⟩ := h17
      refine Cov.same (bl' := [_]) (sl' := []) rfl rfl rfl ?_
      refine Cov.q .ro (.assign rfl) rfl ?_
      refine Cov.region_end ?_
      refine Cov.seq ?_
      refine Cov.region rfl ?_
      refine Cov.q .ro (.move rfl) rfl ?_
      obtain ⟨u23, hu23, r24⟩ := bind_some r16; clear r16
      refine Cov.callS (b1 := [_]) (b2 := []) (s1 := []) [_] [] .ro rfl rfl Try.call25 rfl rfl (make_Field_c (G := G) List.mem_cons_self s22 hu23) rfl (fun v26 bo so h25 => ?_)
      obtain ⟨a27, k28, rfl, rfl, rfl, s29⟩ := h25
      refine Cov.same (bl' := [_]) (sl' := []) rfl rfl rfl ?_
      refine Cov.q .ro (.move rfl) rfl ?_
      obtain ⟨u30, hu30, r31⟩ := bind_some r24; clear r24
      refine Cov.callW (b1 := [_]) (b2 := []) (s1 := []) [_] [] .ro rfl rfl Try.call26 rfl rfl (make_Records_c (G := G) List.mem_cons_self s29 hu30) rfl B0 (fun v33 bo so G34 e35 B36 h32 => ?_)
      obtain ⟨a43, k44, a39, k40, cs41, rfl, rfl, rfl, s45, o42⟩ := h32
      refine Cov.same (bl' := [_]) (sl' := [_]) rfl rfl rfl ?_
      refine Cov.alloc .ro ty24 rfl (fun b46 hb46 => ?_)
      refine Cov.store 0 [_] [_, _] .ro rfl rfl rfl ty24 rfl rfl rfl rfl ?_
      refine Cov.q .ro (.assign rfl) rfl ?_
      refine Cov.region_end ?_
      refine Cov.prune [(1, _), (2, _), (8, _), (9, _)] ⟨rfl, rfl, rfl, rfl, trivial⟩ ?_
      refine Cov.seq ?_
      refine Cov.region rfl ?_
      refine Cov.q .ro (.move rfl) rfl ?_
      refine Cov.q .ro (.remt rfl rfl (by decide)) rfl ?_
      refine Cov.q .ro (.convw Try.underlying5 Try.underlying3 rfl) rfl ?_
      refine Cov.q .ro (.addw rfl rfl) rfl ?_
      refine Cov.q .ro (.move rfl) rfl ?_
      refine Cov.q .ro (.remt rfl rfl (by decide)) rfl ?_
      refine Cov.q .ro (.convw Try.underlying5 Try.underlying3 rfl) rfl ?_
      refine Cov.q .ro (.addw rfl rfl) rfl ?_
      refine Cov.q .ro (.move rfl) rfl ?_
      refine Cov.q .ro (.remt rfl rfl (by decide)) rfl ?_
      refine Cov.q .ro (.convw Try.underlying5 Try.underlying3 rfl) rfl ?_
      refine Cov.q .ro (.addw rfl rfl) rfl ?_
      refine Cov.q .ro (.assign rfl) rfl ?_
      refine Cov.q .ro (.assign rfl) rfl ?_
      refine Cov.region_end ?_
      refine Cov.prune [(8, _), (9, _), (10, _), (11, _)] ⟨rfl, rfl, rfl, rfl, trivial⟩ ?_
      refine Cov.seq ?_
      refine Cov.region rfl ?_
      refine Cov.q .ro (.load_own_a 0 [_] rfl rfl ty24 rfl) rfl ?_
      refine Cov.q .ro (.move rfl) rfl ?_
      refine Cov.q .ro (.move rfl) rfl ?_
      refine Cov.freezeR 0 rfl rfl o42 [] rfl B36 (fun G47 e48 B49 s50 => ?_)
      obtain ⟨u52, hu52, r53⟩ := bind_some r31; clear r31
      refine Cov.callW (b1 := []) (b2 := [_, _]) (s1 := []) [_, _, _] [] .ro rfl rfl Try.call19 rfl rfl (layout_Encode_c (G := G47) List.mem_cons_self s50 hu52) rfl B49 (fun v55 bo so G56 e57 B58 h54 => ?_)
      obtain ⟨a60, k61, a63, k64, rfl, rfl, rfl, s62, s65⟩ := h54
      refine Cov.same (bl' := [_, _]) (sl' := []) rfl rfl rfl ?_
      refine Cov.q .ro (.move rfl) rfl ?_
      refine Cov.q .ro (.extract rfl rfl) rfl ?_
      refine Cov.q .ro (.extract rfl rfl) rfl ?_
      refine Cov.q .ro (.extract rfl rfl) rfl ?_
      refine Cov.alloc .ro ty34 rfl (fun b66 hb66 => ?_)
      refine Cov.q .ro (.assign rfl) rfl ?_
      refine Cov.store 0 [_, _] [_, _, _] .ro rfl rfl rfl ty34 rfl rfl rfl rfl ?_
      refine Cov.q .ro (.assign rfl) rfl ?_
      refine Cov.region_end ?_
      refine Cov.seq ?_
      refine Cov.region rfl ?_
      refine Cov.q .ro (.load_own_a 1 [_] rfl rfl ty24 rfl) rfl ?_
      refine Cov.q .ro (.move rfl) rfl ?_
      refine Cov.q .ro (.move rfl) rfl ?_
      obtain ⟨u67, hu67, r68⟩ := bind_some r53; clear r53
      refine Cov.callW (b1 := []) (b2 := [_, _, _]) (s1 := []) [_, _, _] [] .ro rfl rfl Try.call19 rfl rfl (layout_Encode_c (G := G56) List.mem_cons_self (SlR.mono e57 s50) hu67) rfl B58 (fun v70 bo so G71 e72 B73 h69 => ?_)
      obtain ⟨a75, k76, a78, k79, rfl, rfl, rfl, s77, s80⟩ := h69
      refine Cov.same (bl' := [_, _, _]) (sl' := []) rfl rfl rfl ?_
      refine Cov.q .ro (.move rfl) rfl ?_
      refine Cov.q .ro (.extract rfl rfl) rfl ?_
      refine Cov.q .ro (.extract rfl rfl) rfl ?_
      refine Cov.q .ro (.extract rfl rfl) rfl ?_
      refine Cov.alloc .ro ty34 rfl (fun b81 hb81 => ?_)
      refine Cov.q .ro (.assign rfl) rfl ?_
      refine Cov.store 0 [_, _] [_, _, _, _] .ro rfl rfl rfl ty34 rfl rfl rfl rfl ?_
      refine Cov.q .ro (.assign rfl) rfl ?_
      refine Cov.region_end ?_
      refine Cov.prune [(8, _), (9, _), (10, _), (13, _), (14, _), (16, _), (17, _)] ⟨rfl, rfl, rfl, rfl, rfl, rfl, rfl, trivial⟩ ?_
      refine Cov.seq ?_
      refine Cov.region rfl ?_
      refine Cov.q .ro (.build [_] [(0, _)] ty24 pl24 rfl rfl) rfl ?_
      refine Cov.q .ro (.move rfl) rfl ?_
      refine Cov.q .ro (.move rfl) rfl ?_
      obtain ⟨u82, hu82, r83⟩ := bind_some r68; clear r68
      refine Cov.callW (b1 := []) (b2 := [_, _, _, _]) (s1 := []) [_, _, _] [] .ro rfl rfl Try.call19 rfl rfl (layout_Encode_c (G := G71) List.mem_cons_self (SlR.mono (HpLe.trans e57 e72) s50) hu82) rfl B73 (fun v85 bo so G86 e87 B88 h84 => ?_)
      obtain ⟨a90, k91, a93, k94, rfl, rfl, rfl, s92, s95⟩ := h84
      refine Cov.same (bl' := [_, _, _, _]) (sl' := []) rfl rfl rfl ?_
      refine Cov.q .ro (.move rfl) rfl ?_
      refine Cov.q .ro (.extract rfl rfl) rfl ?_
      refine Cov.q .ro (.extract rfl rfl) rfl ?_
      refine Cov.q .ro (.extract rfl rfl) rfl ?_
      refine Cov.alloc .ro ty34 rfl (fun b96 hb96 => ?_)
      refine Cov.q .ro (.assign rfl) rfl ?_
      refine Cov.store 0 [_, _] [_, _, _, _, _] .ro rfl rfl rfl ty34 rfl rfl rfl rfl ?_
      refine Cov.q .ro (.assign rfl) rfl ?_
      refine Cov.region_end ?_
      refine Cov.seq ?_
      refine Cov.region rfl ?_
      refine Cov.q .ro (.load_own_a 3 [_] rfl rfl ty24 rfl) rfl ?_
      obtain ⟨u97, hu97, r98⟩ := bind_some r83; clear r83
      refine Cov.callS (b1 := []) (b2 := [_, _, _, _, _]) (s1 := []) [_] [] .ro rfl rfl Try.call16 rfl rfl (layout_Digits_c (G := G86) List.mem_cons_self  hu97) rfl (fun v100 bo so h99 => ?_)
      obtain ⟨rfl, rfl, rfl⟩ := h99
      refine Cov.same (bl' := [_, _, _, _, _]) (sl' := []) rfl rfl rfl ?_
      refine Cov.q .ro (.move rfl) rfl ?_
      refine Cov.q .ro (.extract rfl rfl) rfl ?_
      refine Cov.q .ro (.extract rfl rfl) rfl ?_
      refine Cov.q .ro (.assign rfl) rfl ?_
      refine Cov.q .ro (.assign rfl) rfl ?_
      refine Cov.region_end ?_
      refine Cov.prune [(9, _), (10, _), (13, _), (14, _), (16, _), (17, _), (19, _), (20, _), (21, _), (22, _)] ⟨rfl, rfl, rfl, rfl, rfl, rfl, rfl, rfl, rfl, rfl, trivial⟩ ?_
      refine Cov.seq ?_
      refine Cov.seq ?_
      refine Cov.region rfl ?_
      refine Cov.q .ro (.move rfl) rfl ?_
      refine Cov.q .ro (.neq rfl rfl) rfl ?_
      refine Cov.q .ro (.move rfl) rfl ?_
      refine Cov.cutR 3 (β := Unit) (fun y => [(82, .bool (decide ((u52.2.2 ≠ 0) ∨ (u67.2.2 ≠ 0))))]) [(9, _), (10, _), (13, _), (16, _), (19, _), (20, _), (21, _), (22, _)] (fun y => G86 :: Fs) (fun y => []) [_, _, _, _, _] (fun y => []) [] (fun y => True) ⟨rfl, rfl, rfl, rfl, rfl, rfl, rfl, rfl, trivial⟩ [0, 1, 2, 3, 4] rfl [] rfl ?_ ?_
      · rintro _ _
        refine Cov.prune [(82, .bool (decide ((u52.2.2 ≠ 0) ∨ (u67.2.2 ≠ 0)))), (9, _), (10, _), (13, _), (16, _), (19, _), (20, _), (21, _), (22, _)] ⟨rfl, rfl, rfl, rfl, rfl, rfl, rfl, rfl, rfl, trivial⟩ ?_
        refine Cov.same (bl' := [_, _, _, _, _]) (sl' := []) (Fs' := G86 :: Fs) rfl rfl rfl ?_
        refine Cov.q .ro (.move rfl) rfl ?_
        refine Cov.cutR 3 (β := Unit) (fun y => [(86, .bool (decide (((u52.2.2 ≠ 0) ∨ (u67.2.2 ≠ 0)) ∨ (u82.2.2 ≠ 0))))]) [(9, _), (10, _), (13, _), (16, _), (19, _), (21, _), (22, _)] (fun y => G86 :: Fs) (fun y => []) [_, _, _, _, _] (fun y => []) [] (fun y => True) ⟨rfl, rfl, rfl, rfl, rfl, rfl, rfl, trivial⟩ [0, 1, 2, 3, 4] rfl [] rfl ?_ ?_
        · rintro _ _
          refine Cov.prune [(86, .bool (decide (((u52.2.2 ≠ 0) ∨ (u67.2.2 ≠ 0)) ∨ (u82.2.2 ≠ 0)))), (9, _), (10, _), (13, _), (16, _), (19, _), (21, _), (22, _)] ⟨rfl, rfl, rfl, rfl, rfl, rfl, rfl, rfl, trivial⟩ ?_
          refine Cov.same (bl' := [_, _, _, _, _]) (sl' := []) (Fs' := G86 :: Fs) rfl rfl rfl ?_
          refine Cov.q .ro (.move rfl) rfl ?_
          refine Cov.cutR 3 (β := Unit) (fun y => [(90, .bool (decide ((((u52.2.2 ≠ 0) ∨ (u67.2.2 ≠ 0)) ∨ (u82.2.2 ≠ 0)) ∨ (u97.2 ≠ 0))))]) [(9, _), (10, _), (13, _), (16, _), (19, _), (21, _)] (fun y => G86 :: Fs) (fun y => []) [_, _, _, _, _] (fun y => []) [] (fun y => True) ⟨rfl, rfl, rfl, rfl, rfl, rfl, trivial⟩ [0, 1, 2, 3, 4] rfl [] rfl ?_ ?_
          · rintro _ _
            refine Cov.prune [(90, .bool (decide ((((u52.2.2 ≠ 0) ∨ (u67.2.2 ≠ 0)) ∨ (u82.2.2 ≠ 0)) ∨ (u97.2 ≠ 0)))), (9, _), (10, _), (13, _), (16, _), (19, _), (21, _)] ⟨rfl, rfl, rfl, rfl, rfl, rfl, rfl, trivial⟩ ?_
            refine Cov.same (bl' := [_, _, _, _, _]) (sl' := []) (Fs' := G86 :: Fs) rfl rfl rfl ?_
            refine Cov.q .ro (.move rfl) rfl ?_
            refine Cov.cutR 7 (β := Unit) (fun y => [(98, .bool (decide (((((u52.2.2 ≠ 0) ∨ (u67.2.2 ≠ 0)) ∨ (u82.2.2 ≠ 0)) ∨ (u97.2 ≠ 0)) ∨ ((u52.2.1.2.length : Int) ≠ (u30.1.length : Int)))))]) [(9, _), (10, _), (13, _), (16, _), (19, _), (21, _)] (fun y => G86 :: Fs) (fun y => []) [_, _, _, _, _] (fun y => []) [] (fun y => True) ⟨rfl, rfl, rfl, rfl, rfl, rfl, trivial⟩ [0, 1, 2, 3, 4] rfl [] rfl ?_ ?_
            · rintro _ _
              refine Cov.prune [(98, .bool (decide (((((u52.2.2 ≠ 0) ∨ (u67.2.2 ≠ 0)) ∨ (u82.2.2 ≠ 0)) ∨ (u97.2 ≠ 0)) ∨ ((u52.2.1.2.length : Int) ≠ (u30.1.length : Int))))), (9, _), (10, _), (13, _), (16, _), (19, _), (21, _)] ⟨rfl, rfl, rfl, rfl, rfl, rfl, rfl, trivial⟩ ?_
              refine Cov.same (bl' := [_, _, _, _, _]) (sl' := []) (Fs' := G86 :: Fs) rfl rfl rfl ?_
              refine Cov.q .ro (.move rfl) rfl ?_
              refine Cov.cutR 7 (β := Unit) (fun y => [(106, .bool (decide ((((((u52.2.2 ≠ 0) ∨ (u67.2.2 ≠ 0)) ∨ (u82.2.2 ≠ 0)) ∨ (u97.2 ≠ 0)) ∨ ((u52.2.1.2.length : Int) ≠ (u30.1.length : Int))) ∨ ((u67.2.1.2.length : Int) ≠ (u30.1.length : Int)))))]) [(9, _), (10, _), (13, _), (16, _), (19, _), (21, _)] (fun y => G86 :: Fs) (fun y => []) [_, _, _, _, _] (fun y => []) [] (fun y => True) ⟨rfl, rfl, rfl, rfl, rfl, rfl, trivial⟩ [0, 1, 2, 3, 4] rfl [] rfl ?_ ?_
              · rintro _ _
                refine Cov.prune [(106, .bool (decide ((((((u52.2.2 ≠ 0) ∨ (u67.2.2 ≠ 0)) ∨ (u82.2.2 ≠ 0)) ∨ (u97.2 ≠ 0)) ∨ ((u52.2.1.2.length : Int) ≠ (u30.1.length : Int))) ∨ ((u67.2.1.2.length : Int) ≠ (u30.1.length : Int))))), (9, _), (10, _), (13, _), (16, _), (19, _), (21, _)] ⟨rfl, rfl, rfl, rfl, rfl, rfl, rfl, trivial⟩ ?_
                refine Cov.same (bl' := [_, _, _, _, _]) (sl' := []) (Fs' := G86 :: Fs) rfl rfl rfl ?_
                refine Cov.q .ro (.move rfl) rfl ?_
                refine Cov.cutR 7 (β := Unit) (fun y => [(114, .bool (decide (((((((u52.2.2 ≠ 0) ∨ (u67.2.2 ≠ 0)) ∨ (u82.2.2 ≠ 0)) ∨ (u97.2 ≠ 0)) ∨ ((u52.2.1.2.length : Int) ≠ (u30.1.length : Int))) ∨ ((u67.2.1.2.length : Int) ≠ (u30.1.length : Int))) ∨ ((u82.2.1.2.length : Int) ≠ (u30.1.length : Int)))))]) [(9, _), (10, _), (13, _), (16, _), (19, _), (21, _)] (fun y => G86 :: Fs) (fun y => []) [_, _, _, _, _] (fun y => []) [] (fun y => True) ⟨rfl, rfl, rfl, rfl, rfl, rfl, trivial⟩ [0, 1, 2, 3, 4] rfl [] rfl ?_ ?_
                · rintro _ _
                  refine Cov.prune [(114, .bool (decide (((((((u52.2.2 ≠ 0) ∨ (u67.2.2 ≠ 0)) ∨ (u82.2.2 ≠ 0)) ∨ (u97.2 ≠ 0)) ∨ ((u52.2.1.2.length : Int) ≠ (u30.1.length : Int))) ∨ ((u67.2.1.2.length : Int) ≠ (u30.1.length : Int))) ∨ ((u82.2.1.2.length : Int) ≠ (u30.1.length : Int))))), (9, _), (10, _), (13, _), (16, _), (19, _), (21, _)] ⟨rfl, rfl, rfl, rfl, rfl, rfl, rfl, trivial⟩ ?_
                  refine Cov.same (bl' := [_, _, _, _, _]) (sl' := []) (Fs' := G86 :: Fs) rfl rfl rfl ?_
                  refine Cov.region_end ?_
                  refine Cov.cond_dec rfl (fun c125 => ?_) (fun c125 => ?_)
                  · have r126 := ifT r98 c125; clear r98
                    refine Cov.seq ?_
                    refine Cov.region rfl ?_
                    refine Cov.q .ro (.assign rfl) rfl ?_
                    refine Cov.region_end ?_
                    cases r126
                    refine Cov.drop 5 0 [] _ rfl rfl ?_
                    refine Cov.retS (c := ⟨5, none⟩) (.inr ⟨_, rfl⟩) [.tmp 6] [_] rfl Try.func5 Try.results5 ⟨RV.tmp rfl, trivial⟩ (fun _ h => List.mem_cons_of_mem _ h) ⟨rfl, rfl, rfl⟩
                  · have r127 := ifF r98 c125; clear r98
                    refine Cov.skip ?_
                    refine Cov.seq ?_
                    refine Cov.seq ?_
                    refine Cov.region rfl ?_
                    refine Cov.q .ro (.move rfl) rfl ?_
                    refine Cov.q .ro (.len_sl rfl rfl sl25) rfl ?_
                    refine Cov.q .ro (.move rfl) rfl ?_
                    refine Cov.region_end ?_
                    refine Cov.block ?_
                    refine Cov.loop2 (α := Nat × List ByteArray) (fun y => [(117, .int .i64 (y.1 : Int))]) [(10, _), (13, _), (16, _), (19, _), (21, _), (115, _), (116, _)] (fun y => []) (fun y => []) [_, _, _, _, _] (fun y => []) [] (fun y => List.drop y.1 u30.1 = y.2 ∧ law13_LayoutWidths_L1 (w64 (1 + (w64 (Int.tmod x1 30)))) u97.1 u82.2.1.2 u67.2.1.2 u52.2.1.2 y.2 y.1  = some r) (fun y => y.2.length) (0, u30.1) ⟨rfl, r127⟩ ⟨rfl, rfl, rfl, rfl, rfl, rfl, rfl, rfl, trivial⟩ rfl rfl rfl (fun y hI hb228 => ?_)
                    obtain ⟨i224, w225⟩ := y
                    obtain ⟨g226, r227⟩ := hI
                    try dsimp only at g226 r227
                    refine Cov.prune [(117, .int .i64 (i224 : Int)), (10, _), (13, _), (16, _), (19, _), (21, _), (115, _), (116, _)] ⟨rfl, rfl, rfl, rfl, rfl, rfl, rfl, rfl, trivial⟩ ?_
                    refine Cov.same (bl' := [_, _, _, _, _]) (sl' := []) (Fs' := G86 :: Fs) rfl rfl rfl ?_
                    cases w225 with
                    | nil =>
                      rw [law13_LayoutWidths_L1] at r227; try dsimp only at r227
                      refine Cov.seq ?_
                      refine Cov.region rfl ?_
                      refine Cov.q .ro (.lss rfl rfl) rfl ?_
                      refine Cov.region_end ?_
                      refine Cov.seq ?_
                      refine Cov.cond_dec rfl (fun c => absurd c (drop_nil g226)) (fun _ => ?_)
                      refine Cov.exit rfl ?_
                      refine Cov.seq ?_
                      refine Cov.region rfl ?_
                      refine Cov.q .ro (.assign rfl) rfl ?_
                      refine Cov.region_end ?_
                      cases r227
                      refine Cov.drop 5 0 [] _ rfl rfl ?_
                      refine Cov.retS (c := ⟨5, none⟩) (.inr ⟨_, rfl⟩) [.tmp 6] [_] rfl Try.func5 Try.results5 ⟨RV.tmp rfl, trivial⟩ (fun _ h => List.mem_cons_of_mem _ h) ⟨rfl, rfl, rfl⟩
                    | cons x243 xs244 =>
                      have r242 : law13_LayoutWidths_B1 (w64 (1 + (w64 (Int.tmod x1 30)))) u97.1 u82.2.1.2 u67.2.1.2 u52.2.1.2 (law13_LayoutWidths_L1 (w64 (1 + (w64 (Int.tmod x1 30)))) u97.1 u82.2.1.2 u67.2.1.2 u52.2.1.2 xs244 (i224 + 1)) x243 i224  = some r := r227; clear r227; unfold law13_LayoutWidths_B1 at r242; try dsimp only at r242
                      refine Cov.seq ?_
                      refine Cov.region rfl ?_
                      refine Cov.q .ro (.lss rfl rfl) rfl ?_
                      refine Cov.region_end ?_
                      refine Cov.seq ?_
                      refine Cov.cond_dec rfl (fun _ => ?_) (fun c => absurd (drop_lt g226) c)
                      refine Cov.skip ?_
                      refine Cov.seq ?_
                      refine Cov.block ?_
                      refine Cov.seq ?_
                      refine Cov.region rfl ?_
                      refine Cov.q .ro (.move rfl) rfl ?_
                      obtain ⟨c245, p246, h247⟩ := SlR.get (SlR.mono (HpLe.trans (HpLe.trans e57 e72) e87) s50) (drop_idx g226)
                      obtain rfl := h247
                      refine Cov.q .ro (.idxR (SlR.mono (HpLe.trans (HpLe.trans e57 e72) e87) s50) rfl rfl (drop_idx g226) sl25 ty9.sz) rfl ?_
                      refine Cov.q .ro (.load_rp p246 List.mem_cons_self rfl ty9 rfl) rfl ?_
                      refine Cov.q .ro (.assign rfl) rfl ?_
                      refine Cov.q .ro (.assign rfl) rfl ?_
                      refine Cov.region_end ?_
                      refine Cov.seq ?_
                      refine Cov.drawL (.q 0 (.q 1 (.q 2 (.q 3 (.q 4 (.q 5 (.q 6 (.q 7 (.q 8 (.q 9 (.q 10 (.q 11 (.q 12 (.q 13 (.q 14 (.q 15 (.q 16 (.q 17 (.q 18 (.q 19 (.q 20 (.q 21 (.q 22 (.q 23 (.q 24 (.q 25 (.q 26 (.q 27 (.q 28 (.q 29 (.q 30 (.q 31 (.q 32 (.q 33 (.q 34 (.q 35 (.q 36 (.q 37 (.q 38 (.q 39 (.q 40 (.q 41 (.q 42 (.q 43 (.q 44 (.q 45 (.q 46 (.q 47 (.q 48 (.q 49 (.q 50 (.q 51 (.q 52 (.q 53 (.q 54 (.q 55 (.q 56 (.q 57 (.q 58 (.q 59 .nil)))))))))))))))))))))))))))))))))))))))))))))))))))))))))))) [_, _, _, _, _] (by kernel_rfl) (by kernel_rfl) (pick_mem [0, 1, 2, 3, 4] rfl) ?_
                      refine Cov.dq (.fieldAddr 1 rfl fl34_1 ty32.sz rfl) rfl ?_
                      refine Cov.dq (.load_own 1 rfl rfl ty32 rfl) rfl ?_
                      refine Cov.dq (.move rfl) rfl ?_
                      obtain ⟨u248, hu248, r249⟩ := bind_some r242; clear r242
                      obtain ⟨c250, p251, h252⟩ := SlR.get (SlR.mono e87 s80) hu248
                      obtain ⟨_, _, rfl, rfl, _, _, rfl, rfl, rfl⟩ := h252
                      refine Cov.dq (.idxR (SlR.mono e87 s80) rfl rfl hu248 sl32 ty56.sz) rfl ?_
                      refine Cov.dq (.fieldAddr_rp p251 rfl fl56_1 ty3.sz) rfl ?_
                      refine Cov.dq (.load_rp (p251.add _) List.mem_cons_self rfl ty3 rfl) rfl ?_
                      refine Cov.dq (.fieldAddr 1 rfl fl34_1 ty32.sz rfl) rfl ?_
                      refine Cov.dq (.load_own 2 rfl rfl ty32 rfl) rfl ?_
                      refine Cov.dq (.move rfl) rfl ?_
                      obtain ⟨u253, hu253, r254⟩ := bind_some r249; clear r249
                      obtain ⟨c255, p256, h257⟩ := SlR.get (SlR.mono (HpLe.trans e72 e87) s65) hu253
                      obtain ⟨_, _, rfl, rfl, _, _, rfl, rfl, rfl⟩ := h257
                      refine Cov.dq (.idxR (SlR.mono (HpLe.trans e72 e87) s65) rfl rfl hu253 sl32 ty56.sz) rfl ?_
                      refine Cov.dq (.fieldAddr_rp p256 rfl fl56_1 ty3.sz) rfl ?_
                      refine Cov.dq (.load_rp (p256.add _) List.mem_cons_self rfl ty3 rfl) rfl ?_
                      refine Cov.dq (.gtr rfl rfl) rfl ?_
                      refine Cov.dq (.move rfl) rfl ?_
                      obtain ⟨u270, h271, r272⟩ := bind_some r254; clear r254
                      refine Cov.cutD 14 (β := Unit) (fun y => [(149, .bool u270)]) [(117, _), (10, _), (13, _), (16, _), (19, _), (21, _), (115, _), (116, _), (23, _), (24, _)] (fun y => G86 :: Fs) (fun y => []) [_, _, _, _, _] (fun y => []) [] (fun y => True) ⟨rfl, rfl, rfl, rfl, rfl, rfl, rfl, rfl, rfl, rfl, trivial⟩ [0, 1, 2, 3, 4] rfl [] rfl ?_ ?_
                      · rintro _ _
                        refine Cov.prune [(149, .bool u270), (117, _), (10, _), (13, _), (16, _), (19, _), (21, _), (115, _), (116, _), (23, _), (24, _)] ⟨rfl, rfl, rfl, rfl, rfl, rfl, rfl, rfl, rfl, rfl, rfl, trivial⟩ ?_
                        refine Cov.same (bl' := [_, _, _, _, _]) (sl' := []) (Fs' := G86 :: Fs) rfl rfl rfl ?_
                        refine Cov.dq (.move rfl) rfl ?_
                        obtain ⟨u282, h283, r284⟩ := bind_some r272; clear r272
                        refine Cov.cutD 16 (β := Unit) (fun y => [(166, .bool u282)]) [(117, _), (10, _), (13, _), (16, _), (19, _), (21, _), (115, _), (116, _), (23, _), (24, _)] (fun y => G86 :: Fs) (fun y => []) [_, _, _, _, _] (fun y => []) [] (fun y => True) ⟨rfl, rfl, rfl, rfl, rfl, rfl, rfl, rfl, rfl, rfl, trivial⟩ [0, 1, 2, 3, 4] rfl [] rfl ?_ ?_
                        · rintro _ _
                          refine Cov.prune [(166, .bool u282), (117, _), (10, _), (13, _), (16, _), (19, _), (21, _), (115, _), (116, _), (23, _), (24, _)] ⟨rfl, rfl, rfl, rfl, rfl, rfl, rfl, rfl, rfl, rfl, rfl, trivial⟩ ?_
                          refine Cov.same (bl' := [_, _, _, _, _]) (sl' := []) (Fs' := G86 :: Fs) rfl rfl rfl ?_
                          refine Cov.dq (.move rfl) rfl ?_
                          obtain ⟨u294, h295, r296⟩ := bind_some r284; clear r284
                          refine Cov.cutD 14 (β := Unit) (fun y => [(181, .bool u294)]) [(117, _), (10, _), (13, _), (16, _), (19, _), (21, _), (115, _), (116, _)] (fun y => G86 :: Fs) (fun y => []) [_, _, _, _, _] (fun y => []) [] (fun y => True) ⟨rfl, rfl, rfl, rfl, rfl, rfl, rfl, rfl, trivial⟩ [0, 1, 2, 3, 4] rfl [] rfl ?_ ?_
                          · rintro _ _
                            refine Cov.prune [(181, .bool u294), (117, _), (10, _), (13, _), (16, _), (19, _), (21, _), (115, _), (116, _)] ⟨rfl, rfl, rfl, rfl, rfl, rfl, rfl, rfl, rfl, trivial⟩ ?_
                            refine Cov.same (bl' := [_, _, _, _, _]) (sl' := []) (Fs' := G86 :: Fs) rfl rfl rfl ?_
                            refine Cov.draw_end ?_
                            refine Cov.cond rfl (fun c299 => ?_) (fun c299 => ?_)
                            · have r300 := ifT r296 c299; clear r296
                              refine Cov.seq ?_
                              refine Cov.region rfl ?_
                              refine Cov.q .ro (.assign rfl) rfl ?_
                              refine Cov.region_end ?_
                              cases r300
                              refine Cov.drop 5 0 [] _ rfl rfl ?_
                              refine Cov.retS (c := ⟨5, none⟩) (.inr ⟨_, rfl⟩) [.tmp 6] [_] rfl Try.func5 Try.results5 ⟨RV.tmp rfl, trivial⟩ (fun _ h => List.mem_cons_of_mem _ h) ⟨rfl, rfl, rfl⟩
                            · have r301 := ifBF r296 c299; clear r296
                              refine Cov.skip ?_
                              refine Cov.inBlock ?_
                              refine Cov.region rfl ?_
                              refine Cov.q .ro (.addw rfl rfl) rfl ?_
                              refine Cov.q .ro (.move rfl) rfl ?_
                              refine Cov.region_end ?_
                              refine Cov.prune _ ?_ (Cov.same rfl rfl rfl (hb228 ((i224 + 1), xs244) ⟨(drop_succ g226), r301⟩ (Nat.lt_succ_self _)))
                              exact ⟨(congrArg (fun z => some (Value.int .i64 z)) (idx_wrap (SlR.len (SlR.mono (HpLe.trans (HpLe.trans e57 e72) e87) s50)) g226)), rfl, rfl, rfl, rfl, rfl, rfl, rfl, trivial⟩
                          · intro hb293
                            refine Cov.split_b 167 rfl (fun c292 => ?_) (fun c292 => ?_)
                            · have r302 := ifT h295 c292
                              refine Cov.dgq_off rfl rfl rfl ?_
                              refine Cov.dgq_off rfl rfl rfl ?_
                              refine Cov.dgq_off rfl rfl rfl ?_
                              refine Cov.dgq_off rfl rfl rfl ?_
                              refine Cov.dgq_off rfl rfl rfl ?_
                              refine Cov.dgq_off rfl rfl rfl ?_
                              refine Cov.dgq_off rfl rfl rfl ?_
                              refine Cov.dgq_off rfl rfl rfl ?_
                              refine Cov.dgq_off rfl rfl rfl ?_
                              refine Cov.dgq_off rfl rfl rfl ?_
                              refine Cov.dgq_off rfl rfl rfl ?_
                              refine Cov.dgq_off rfl rfl rfl ?_
                              refine Cov.dgq_off rfl rfl rfl ?_
                              refine Cov.dq (.pick_t rfl rfl) rfl ?_
                              refine Cov.prune _ ?_ (Cov.same rfl rfl rfl (hb293 () trivial))
                              exact ⟨sval r302, rfl, rfl, rfl, rfl, rfl, rfl, rfl, rfl, trivial⟩
                            · have r303 := ifBF h295 c292
                              refine Cov.dgq_on rfl ?_
                              refine Cov.dq (.fieldAddr 1 rfl fl34_1 ty32.sz rfl) rfl ?_
                              refine Cov.dgq_on rfl ?_
                              refine Cov.dq (.load_own 2 rfl rfl ty32 rfl) rfl ?_
                              refine Cov.dgq_on rfl ?_
                              refine Cov.dq (.move rfl) rfl ?_
                              refine Cov.dgq_on rfl ?_
                              obtain ⟨u304, hu304, r305⟩ := bind_some r303; clear r303
                              obtain ⟨c306, p307, h308⟩ := SlR.get (SlR.mono (HpLe.trans e72 e87) s65) hu304
                              obtain ⟨_, _, rfl, rfl, _, _, rfl, rfl, rfl⟩ := h308
                              refine Cov.dq (.idxR (SlR.mono (HpLe.trans e72 e87) s65) rfl rfl hu304 sl32 ty56.sz) rfl ?_
                              refine Cov.dgq_on rfl ?_
                              refine Cov.dq (.fieldAddr_rp p307 rfl fl56_1 ty3.sz) rfl ?_
                              refine Cov.dgq_on rfl ?_
                              refine Cov.dq (.load_rp (p307.add _) List.mem_cons_self rfl ty3 rfl) rfl ?_
                              refine Cov.dgq_on rfl ?_
                              refine Cov.dq (.move rfl) rfl ?_
                              refine Cov.dgq_on rfl ?_
                              refine Cov.dq (.mulw rfl rfl) rfl ?_
                              refine Cov.dgq_on rfl ?_
                              refine Cov.dq (.move rfl) rfl ?_
                              refine Cov.dgq_on rfl ?_
                              refine Cov.dq (.move rfl) rfl ?_
                              refine Cov.dgq_on rfl ?_
                              refine Cov.dq (.len_s rfl Try.underlying9) rfl ?_
                              refine Cov.dgq_on rfl ?_
                              refine Cov.dq (.mulw rfl rfl) rfl ?_
                              refine Cov.dgq_on rfl ?_
                              refine Cov.dq (.lss rfl rfl) rfl ?_
                              refine Cov.dq (.pick_f rfl rfl) rfl ?_
                              refine Cov.prune _ ?_ (Cov.same rfl rfl rfl (hb293 () trivial))
                              exact ⟨sval r305, rfl, rfl, rfl, rfl, rfl, rfl, rfl, rfl, trivial⟩
                        · intro hb281
                          refine Cov.split_b 150 rfl (fun c280 => ?_) (fun c280 => ?_)
                          · have r309 := ifT h283 c280
                            refine Cov.dgq_off rfl rfl rfl ?_
                            refine Cov.dgq_off rfl rfl rfl ?_
                            refine Cov.dgq_off rfl rfl rfl ?_
                            refine Cov.dgq_off rfl rfl rfl ?_
                            refine Cov.dgq_off rfl rfl rfl ?_
                            refine Cov.dgq_off rfl rfl rfl ?_
                            refine Cov.dgq_off rfl rfl rfl ?_
                            refine Cov.dgq_off rfl rfl rfl ?_
                            refine Cov.dgq_off rfl rfl rfl ?_
                            refine Cov.dgq_off rfl rfl rfl ?_
                            refine Cov.dgq_off rfl rfl rfl ?_
                            refine Cov.dgq_off rfl rfl rfl ?_
                            refine Cov.dgq_off rfl rfl rfl ?_
                            refine Cov.dgq_off rfl rfl rfl ?_
                            refine Cov.dgq_off rfl rfl rfl ?_
                            refine Cov.dq (.pick_t rfl rfl) rfl ?_
                            refine Cov.prune _ ?_ (Cov.same rfl rfl rfl (hb281 () trivial))
                            exact ⟨sval r309, rfl, rfl, rfl, rfl, rfl, rfl, rfl, rfl, rfl, rfl, trivial⟩
                          · have r310 := ifBF h283 c280
                            refine Cov.dgq_on rfl ?_
                            refine Cov.dq (.fieldAddr 1 rfl fl34_1 ty32.sz rfl) rfl ?_
                            refine Cov.dgq_on rfl ?_
                            refine Cov.dq (.load_own 2 rfl rfl ty32 rfl) rfl ?_
                            refine Cov.dgq_on rfl ?_
                            refine Cov.dq (.move rfl) rfl ?_
                            refine Cov.dgq_on rfl ?_
                            obtain ⟨u311, hu311, r312⟩ := bind_some r310; clear r310
                            obtain ⟨c313, p314, h315⟩ := SlR.get (SlR.mono (HpLe.trans e72 e87) s65) hu311
                            obtain ⟨_, _, rfl, rfl, _, _, rfl, rfl, rfl⟩ := h315
                            refine Cov.dq (.idxR (SlR.mono (HpLe.trans e72 e87) s65) rfl rfl hu311 sl32 ty56.sz) rfl ?_
                            refine Cov.dgq_on rfl ?_
                            refine Cov.dq (.fieldAddr_rp p314 rfl fl56_1 ty3.sz) rfl ?_
                            refine Cov.dgq_on rfl ?_
                            refine Cov.dq (.load_rp (p314.add _) List.mem_cons_self rfl ty3 rfl) rfl ?_
                            refine Cov.dgq_on rfl ?_
                            refine Cov.dq (.subw rfl rfl) rfl ?_
                            refine Cov.dgq_on rfl ?_
                            refine Cov.dq (.move rfl) rfl ?_
                            refine Cov.dgq_on rfl ?_
                            refine Cov.dq (.mulw rfl rfl) rfl ?_
                            refine Cov.dgq_on rfl ?_
                            refine Cov.dq (.move rfl) rfl ?_
                            refine Cov.dgq_on rfl ?_
                            refine Cov.dq (.move rfl) rfl ?_
                            refine Cov.dgq_on rfl ?_
                            refine Cov.dq (.len_s rfl Try.underlying9) rfl ?_
                            refine Cov.dgq_on rfl ?_
                            refine Cov.dq (.mulw rfl rfl) rfl ?_
                            refine Cov.dgq_on rfl ?_
                            refine Cov.dq (.max2 rfl rfl) rfl ?_
                            refine Cov.dgq_on rfl ?_
                            refine Cov.dq (.geq rfl rfl) rfl ?_
                            refine Cov.dq (.pick_f rfl rfl) rfl ?_
                            refine Cov.prune _ ?_ (Cov.same rfl rfl rfl (hb281 () trivial))
                            exact ⟨sval r312, rfl, rfl, rfl, rfl, rfl, rfl, rfl, rfl, rfl, rfl, trivial⟩
                      · intro hb269
                        refine Cov.split 135 rfl (fun c268 => ?_) (fun c268 => ?_)
                        · have r316 := ifT h271 c268
                          refine Cov.dgq_off rfl rfl rfl ?_
                          refine Cov.dgq_off rfl rfl rfl ?_
                          refine Cov.dgq_off rfl rfl rfl ?_
                          refine Cov.dgq_off rfl rfl rfl ?_
                          refine Cov.dgq_off rfl rfl rfl ?_
                          refine Cov.dgq_off rfl rfl rfl ?_
                          refine Cov.dgq_off rfl rfl rfl ?_
                          refine Cov.dgq_off rfl rfl rfl ?_
                          refine Cov.dgq_off rfl rfl rfl ?_
                          refine Cov.dgq_off rfl rfl rfl ?_
                          refine Cov.dgq_off rfl rfl rfl ?_
                          refine Cov.dgq_off rfl rfl rfl ?_
                          refine Cov.dgq_off rfl rfl rfl ?_
                          refine Cov.dq (.pick_t rfl rfl) rfl ?_
                          refine Cov.prune _ ?_ (Cov.same rfl rfl rfl (hb269 () trivial))
                          exact ⟨sval r316, rfl, rfl, rfl, rfl, rfl, rfl, rfl, rfl, rfl, rfl, trivial⟩
                        · have r317 := ifF h271 c268
                          refine Cov.dgq_on rfl ?_
                          refine Cov.dq (.fieldAddr 1 rfl fl34_1 ty32.sz rfl) rfl ?_
                          refine Cov.dgq_on rfl ?_
                          refine Cov.dq (.load_own 0 rfl rfl ty32 rfl) rfl ?_
                          refine Cov.dgq_on rfl ?_
                          refine Cov.dq (.move rfl) rfl ?_
                          refine Cov.dgq_on rfl ?_
                          obtain ⟨u318, hu318, r319⟩ := bind_some r317; clear r317
                          obtain ⟨c320, p321, h322⟩ := SlR.get s95 hu318
                          obtain ⟨_, _, rfl, rfl, _, _, rfl, rfl, rfl⟩ := h322
                          refine Cov.dq (.idxR s95 rfl rfl hu318 sl32 ty56.sz) rfl ?_
                          refine Cov.dgq_on rfl ?_
                          refine Cov.dq (.fieldAddr_rp p321 rfl fl56_1 ty3.sz) rfl ?_
                          refine Cov.dgq_on rfl ?_
                          refine Cov.dq (.load_rp (p321.add _) List.mem_cons_self rfl ty3 rfl) rfl ?_
                          refine Cov.dgq_on rfl ?_
                          refine Cov.dq (.fieldAddr 1 rfl fl34_1 ty32.sz rfl) rfl ?_
                          refine Cov.dgq_on rfl ?_
                          refine Cov.dq (.load_own 2 rfl rfl ty32 rfl) rfl ?_
                          refine Cov.dgq_on rfl ?_
                          refine Cov.dq (.move rfl) rfl ?_
                          refine Cov.dgq_on rfl ?_
                          obtain ⟨u323, hu323, r324⟩ := bind_some r319; clear r319
                          obtain ⟨c325, p326, h327⟩ := SlR.get (SlR.mono (HpLe.trans e72 e87) s65) hu323
                          obtain ⟨_, _, rfl, rfl, _, _, rfl, rfl, rfl⟩ := h327
                          refine Cov.dq (.idxR (SlR.mono (HpLe.trans e72 e87) s65) rfl rfl hu323 sl32 ty56.sz) rfl ?_
                          refine Cov.dgq_on rfl ?_
                          refine Cov.dq (.fieldAddr_rp p326 rfl fl56_1 ty3.sz) rfl ?_
                          refine Cov.dgq_on rfl ?_
                          refine Cov.dq (.load_rp (p326.add _) List.mem_cons_self rfl ty3 rfl) rfl ?_
                          refine Cov.dgq_on rfl ?_
                          refine Cov.dq (.gtr rfl rfl) rfl ?_
                          refine Cov.dq (.pick_f rfl rfl) rfl ?_
                          refine Cov.prune _ ?_ (Cov.same rfl rfl rfl (hb269 () trivial))
                          exact ⟨sval r324, rfl, rfl, rfl, rfl, rfl, rfl, rfl, rfl, rfl, rfl, trivial⟩
                · intro hb122
                  refine Cov.split 107 rfl (fun c121 => ?_) (fun c121 => ?_)
                  · refine Cov.g_off rfl rfl rfl ?_
                    refine Cov.g_off rfl rfl rfl ?_
                    refine Cov.g_off rfl rfl rfl ?_
                    refine Cov.g_off rfl rfl rfl ?_
                    refine Cov.g_off rfl rfl rfl ?_
                    refine Cov.g_off rfl rfl rfl ?_
                    refine Cov.q .ro (.pick_t rfl rfl) rfl ?_
                    refine Cov.prune _ ?_ (Cov.same rfl rfl rfl (hb122 () trivial))
                    exact ⟨dor_t c121, rfl, rfl, rfl, rfl, rfl, rfl, trivial⟩
                  · refine Cov.g_on rfl ?_
                    refine Cov.q .ro (.fieldAddr 1 rfl fl34_1 ty32.sz rfl) rfl ?_
                    refine Cov.g_on rfl ?_
                    refine Cov.q .ro (.load_own 0 rfl rfl ty32 rfl) rfl ?_
                    refine Cov.g_on rfl ?_
                    refine Cov.q .ro (.len_sl rfl rfl sl32) rfl ?_
                    refine Cov.g_on rfl ?_
                    refine Cov.q .ro (.move rfl) rfl ?_
                    refine Cov.g_on rfl ?_
                    refine Cov.q .ro (.len_sl rfl rfl sl25) rfl ?_
                    refine Cov.g_on rfl ?_
                    refine Cov.q .ro (.neq rfl rfl) rfl ?_
                    refine Cov.q .ro (.pick_f rfl rfl) rfl ?_
                    refine Cov.prune _ ?_ (Cov.same rfl rfl rfl (hb122 () trivial))
                    exact ⟨dor_f c121, rfl, rfl, rfl, rfl, rfl, rfl, trivial⟩
              · intro hb118
                refine Cov.split 99 rfl (fun c117 => ?_) (fun c117 => ?_)
                · refine Cov.g_off rfl rfl rfl ?_
                  refine Cov.g_off rfl rfl rfl ?_
                  refine Cov.g_off rfl rfl rfl ?_
                  refine Cov.g_off rfl rfl rfl ?_
                  refine Cov.g_off rfl rfl rfl ?_
                  refine Cov.g_off rfl rfl rfl ?_
                  refine Cov.q .ro (.pick_t rfl rfl) rfl ?_
                  refine Cov.prune _ ?_ (Cov.same rfl rfl rfl (hb118 () trivial))
                  exact ⟨dor_t c117, rfl, rfl, rfl, rfl, rfl, rfl, trivial⟩
                · refine Cov.g_on rfl ?_
                  refine Cov.q .ro (.fieldAddr 1 rfl fl34_1 ty32.sz rfl) rfl ?_
                  refine Cov.g_on rfl ?_
                  refine Cov.q .ro (.load_own 1 rfl rfl ty32 rfl) rfl ?_
                  refine Cov.g_on rfl ?_
                  refine Cov.q .ro (.len_sl rfl rfl sl32) rfl ?_
                  refine Cov.g_on rfl ?_
                  refine Cov.q .ro (.move rfl) rfl ?_
                  refine Cov.g_on rfl ?_
                  refine Cov.q .ro (.len_sl rfl rfl sl25) rfl ?_
                  refine Cov.g_on rfl ?_
                  refine Cov.q .ro (.neq rfl rfl) rfl ?_
                  refine Cov.q .ro (.pick_f rfl rfl) rfl ?_
                  refine Cov.prune _ ?_ (Cov.same rfl rfl rfl (hb118 () trivial))
                  exact ⟨dor_f c117, rfl, rfl, rfl, rfl, rfl, rfl, trivial⟩
            · intro hb114
              refine Cov.split 91 rfl (fun c113 => ?_) (fun c113 => ?_)
              · refine Cov.g_off rfl rfl rfl ?_
                refine Cov.g_off rfl rfl rfl ?_
                refine Cov.g_off rfl rfl rfl ?_
                refine Cov.g_off rfl rfl rfl ?_
                refine Cov.g_off rfl rfl rfl ?_
                refine Cov.g_off rfl rfl rfl ?_
                refine Cov.q .ro (.pick_t rfl rfl) rfl ?_
                refine Cov.prune _ ?_ (Cov.same rfl rfl rfl (hb114 () trivial))
                exact ⟨dor_t c113, rfl, rfl, rfl, rfl, rfl, rfl, trivial⟩
              · refine Cov.g_on rfl ?_
                refine Cov.q .ro (.fieldAddr 1 rfl fl34_1 ty32.sz rfl) rfl ?_
                refine Cov.g_on rfl ?_
                refine Cov.q .ro (.load_own 2 rfl rfl ty32 rfl) rfl ?_
                refine Cov.g_on rfl ?_
                refine Cov.q .ro (.len_sl rfl rfl sl32) rfl ?_
                refine Cov.g_on rfl ?_
                refine Cov.q .ro (.move rfl) rfl ?_
                refine Cov.g_on rfl ?_
                refine Cov.q .ro (.len_sl rfl rfl sl25) rfl ?_
                refine Cov.g_on rfl ?_
                refine Cov.q .ro (.neq rfl rfl) rfl ?_
                refine Cov.q .ro (.pick_f rfl rfl) rfl ?_
                refine Cov.prune _ ?_ (Cov.same rfl rfl rfl (hb114 () trivial))
                exact ⟨dor_f c113, rfl, rfl, rfl, rfl, rfl, rfl, trivial⟩
          · intro hb110
            refine Cov.split 87 rfl (fun c109 => ?_) (fun c109 => ?_)
            · refine Cov.g_off rfl rfl rfl ?_
              refine Cov.g_off rfl rfl rfl ?_
              refine Cov.q .ro (.pick_t rfl rfl) rfl ?_
              refine Cov.prune _ ?_ (Cov.same rfl rfl rfl (hb110 () trivial))
              exact ⟨dor_t c109, rfl, rfl, rfl, rfl, rfl, rfl, trivial⟩
            · refine Cov.g_on rfl ?_
              refine Cov.q .ro (.move rfl) rfl ?_
              refine Cov.g_on rfl ?_
              refine Cov.q .ro (.neq rfl rfl) rfl ?_
              refine Cov.q .ro (.pick_f rfl rfl) rfl ?_
              refine Cov.prune _ ?_ (Cov.same rfl rfl rfl (hb110 () trivial))
              exact ⟨dor_f c109, rfl, rfl, rfl, rfl, rfl, rfl, trivial⟩
        · intro hb106
          refine Cov.split 83 rfl (fun c105 => ?_) (fun c105 => ?_)
          · refine Cov.g_off rfl rfl rfl ?_
            refine Cov.g_off rfl rfl rfl ?_
            refine Cov.q .ro (.pick_t rfl rfl) rfl ?_
            refine Cov.prune _ ?_ (Cov.same rfl rfl rfl (hb106 () trivial))
            exact ⟨dor_t c105, rfl, rfl, rfl, rfl, rfl, rfl, rfl, trivial⟩
          · refine Cov.g_on rfl ?_
            refine Cov.q .ro (.move rfl) rfl ?_
            refine Cov.g_on rfl ?_
            refine Cov.q .ro (.neq rfl rfl) rfl ?_
            refine Cov.q .ro (.pick_f rfl rfl) rfl ?_
            refine Cov.prune _ ?_ (Cov.same rfl rfl rfl (hb106 () trivial))
            exact ⟨dor_f c105, rfl, rfl, rfl, rfl, rfl, rfl, rfl, trivial⟩
      · intro hb102
        refine Cov.split 79 rfl (fun c101 => ?_) (fun c101 => ?_)
        · refine Cov.g_off rfl rfl rfl ?_
          refine Cov.g_off rfl rfl rfl ?_
          refine Cov.q .ro (.pick_t rfl rfl) rfl ?_
          refine Cov.prune _ ?_ (Cov.same rfl rfl rfl (hb102 () trivial))
          exact ⟨dor_t c101, rfl, rfl, rfl, rfl, rfl, rfl, rfl, rfl, trivial⟩
        · refine Cov.g_on rfl ?_
          refine Cov.q .ro (.move rfl) rfl ?_
          refine Cov.g_on rfl ?_
          refine Cov.q .ro (.neq rfl rfl) rfl ?_
          refine Cov.q .ro (.pick_f rfl rfl) rfl ?_
          refine Cov.prune _ ?_ (Cov.same rfl rfl rfl (hb102 () trivial))
          exact ⟨dor_f c101, rfl, rfl, rfl, rfl, rfl, rfl, rfl, rfl, trivial⟩

end Go.Proofs.Ythgmcgldmahgeaa
