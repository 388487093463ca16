/- The walks. Printed by wip/lift/drive.py. -/
import Derived.Test.YtdchjmophffphaaW2
namespace Go.Proofs.Ytdchjmophffphaa
open Go.RowKit
set_option linter.unusedSimpArgs false
set_option linter.unusedVariables false

set_option maxHeartbeats 4000000 in
theorem law21_FenceDoes_c {Fs : List Hp} {G : Hp} {a0 : Option Addr} {k0 : Nat} {x0 : List Int} {x1_0 : Int} {a1_1 : Option Addr} {k1_1 : Nat} {x1_1 : List ByteArray} {x2 : ByteArray} {x3 : Int} {x4 : Int} {x5 : Int} {a6 : Option Addr} {k6 : Nat} {x6 : List ByteArray} {r : Bool} (hG : G ∈ Fs) (s0 : SlR (Rep.int .i64) G a0 k0 x0) (s1_1 : SlR Rep.str G a1_1 k1_1 x1_1) (s6 : SlR Rep.str G a6 k6 x6) (h : law21_FenceDoes x0 (x1_0, x1_1) x2 x3 x4 x5 x6 = some r) : RetS Try.prog 6 #[.slice a0 x0.length k0, .agg #[.int .i64 x1_0, .slice a1_1 x1_1.length k1_1], .string x2, .int .i64 x3, .int .i64 x4, .int .i64 x5, .slice a6 x6.length k6] Fs [] [] (fun v bo so => v = .bool r ∧ bo = [] ∧ so = []) := by
  unfold law21_FenceDoes at h
  try dsimp only at h
  refine RetS.of (vs := [_, _, _, _, _, _, _]) Try.func6 rfl Try.ntmps6 [(0, _), (1, _), (2, _), (3, _), (4, _), (5, _), (6, _)] ⟨rfl, rfl, rfl, rfl, rfl, rfl, rfl, trivial⟩ rfl hG fun w0 S0 hS0 B0 => ?_
  refine Cov.seq ?_
  refine Cov.region rfl ?_
  refine Cov.box [_, _] .ro rfl rfl rfl (fun b1 hb1 => ?_)
  refine Cov.q .ro (.assign rfl) rfl ?_
  refine Cov.region_end ?_
  refine Cov.seq ?_
  refine Cov.seq ?_
  refine Cov.region rfl ?_
  obtain ⟨u2, hu2, r3⟩ := bind_some h; clear h
  refine Cov.callS (b1 := []) (b2 := [_]) (s1 := []) [] [] .ro rfl rfl Try.call8 rfl rfl (law21_sane_c (G := G) List.mem_cons_self  hu2) rfl (fun v5 bo so h4 => ?_)
  obtain ⟨rfl, rfl, rfl⟩ := h4
  refine Cov.same (bl' := [_]) (sl' := []) rfl rfl rfl ?_
  refine Cov.q .ro (.not rfl) rfl ?_
  refine Cov.region_end ?_
  refine Cov.cond rfl (fun c6 => ?_) (fun c6 => ?_)
  · have r7 := ifT r3 c6; clear r3
    refine Cov.seq ?_
    refine Cov.region rfl ?_
    refine Cov.q .ro (.assign rfl) rfl ?_
    refine Cov.region_end ?_
    cases r7
    refine Cov.drop 1 0 [] _ rfl rfl ?_
    refine Cov.retS (c := ⟨6, none⟩) (.inr ⟨_, rfl⟩) [.tmp 14] [_] rfl Try.func6 Try.results6 ⟨RV.tmp rfl, trivial⟩ (fun _ h => List.mem_cons_of_mem _ h) ⟨rfl, rfl, rfl⟩
  · have r8 := ifBF r3 c6; clear r3
    refine Cov.skip ?_
    refine Cov.seq ?_
    refine Cov.seq ?_
    refine Cov.region rfl ?_
    refine Cov.q .ro (.move rfl) rfl ?_
    obtain ⟨u9, hu9, r10⟩ := bind_some r8; clear r8
    refine Cov.callS (b1 := []) (b2 := [_]) (s1 := []) [_] [] .ro rfl rfl Try.call9 rfl rfl (make_Few_c (G := G) List.mem_cons_self s0 hu9) rfl (fun v12 bo so h11 => ?_)
    obtain ⟨rfl, rfl, rfl⟩ := h11
    refine Cov.same (bl' := [_]) (sl' := []) rfl rfl rfl ?_
    refine Cov.q .ro (.not rfl) rfl ?_
    refine Cov.q .ro (.move rfl) rfl ?_
    refine Cov.cutR 5 (β := Unit) (fun y => [(67, .bool (decide (((!u9) = true) ∨ (300 < (x1_1.length : Int)))))]) [(0, _), (2, _), (3, _), (4, _), (5, _), (6, _), (8, _)] (fun y => G :: Fs) (fun y => []) [_] (fun y => []) [] (fun y => True) ⟨rfl, rfl, rfl, rfl, rfl, rfl, rfl, trivial⟩ [0] rfl [] rfl ?_ ?_
    · rintro _ _
      refine Cov.prune [(67, .bool (decide (((!u9) = true) ∨ (300 < (x1_1.length : Int))))), (0, _), (2, _), (3, _), (4, _), (5, _), (6, _), (8, _)] ⟨rfl, rfl, rfl, rfl, rfl, rfl, rfl, rfl, trivial⟩ ?_
      refine Cov.same (bl' := [_]) (sl' := []) (Fs' := G :: Fs) rfl rfl rfl ?_
      refine Cov.q .ro (.move rfl) rfl ?_
      refine Cov.cutR 4 (β := Unit) (fun y => [(72, .bool (decide ((((!u9) = true) ∨ (300 < (x1_1.length : Int))) ∨ (60 < (x6.length : Int)))))]) [(0, _), (2, _), (3, _), (4, _), (5, _), (6, _), (8, _)] (fun y => G :: Fs) (fun y => []) [_] (fun y => []) [] (fun y => True) ⟨rfl, rfl, rfl, rfl, rfl, rfl, rfl, trivial⟩ [0] rfl [] rfl ?_ ?_
      · rintro _ _
        refine Cov.prune [(72, .bool (decide ((((!u9) = true) ∨ (300 < (x1_1.length : Int))) ∨ (60 < (x6.length : Int))))), (0, _), (2, _), (3, _), (4, _), (5, _), (6, _), (8, _)] ⟨rfl, rfl, rfl, rfl, rfl, rfl, rfl, rfl, trivial⟩ ?_
        refine Cov.same (bl' := [_]) (sl' := []) (Fs' := G :: Fs) rfl rfl rfl ?_
        refine Cov.q .ro (.move rfl) rfl ?_
        refine Cov.cutR 4 (β := Unit) (fun y => [(77, .bool (decide (((((!u9) = true) ∨ (300 < (x1_1.length : Int))) ∨ (60 < (x6.length : Int))) ∨ (200 < (x2.size : Int)))))]) [(0, _), (2, _), (3, _), (4, _), (5, _), (6, _), (8, _)] (fun y => G :: Fs) (fun y => []) [_] (fun y => []) [] (fun y => True) ⟨rfl, rfl, rfl, rfl, rfl, rfl, rfl, trivial⟩ [0] rfl [] rfl ?_ ?_
        · rintro _ _
          refine Cov.prune [(77, .bool (decide (((((!u9) = true) ∨ (300 < (x1_1.length : Int))) ∨ (60 < (x6.length : Int))) ∨ (200 < (x2.size : Int))))), (0, _), (2, _), (3, _), (4, _), (5, _), (6, _), (8, _)] ⟨rfl, rfl, rfl, rfl, rfl, rfl, rfl, rfl, trivial⟩ ?_
          refine Cov.same (bl' := [_]) (sl' := []) (Fs' := G :: Fs) rfl rfl rfl ?_
          refine Cov.region_end ?_
          refine Cov.cond_dec rfl (fun c25 => ?_) (fun c25 => ?_)
          · have r26 := ifT r10 c25; clear r10
            refine Cov.seq ?_
            refine Cov.region rfl ?_
            refine Cov.q .ro (.assign rfl) rfl ?_
            refine Cov.region_end ?_
            cases r26
            refine Cov.drop 1 0 [] _ rfl rfl ?_
            refine Cov.retS (c := ⟨6, none⟩) (.inr ⟨_, rfl⟩) [.tmp 14] [_] rfl Try.func6 Try.results6 ⟨RV.tmp rfl, trivial⟩ (fun _ h => List.mem_cons_of_mem _ h) ⟨rfl, rfl, rfl⟩
          · have r27 := ifF r10 c25; clear r10
            refine Cov.skip ?_
            refine Cov.seq ?_
            refine Cov.region rfl ?_
            refine Cov.q .ro (.move rfl) rfl ?_
            obtain ⟨u28, hu28, r29⟩ := bind_some r27; clear r27
            refine Cov.callS (b1 := []) (b2 := [_]) (s1 := []) [_] [] .ro rfl rfl Try.call10 rfl rfl (make_New_c (G := G) List.mem_cons_self s0 hu28) rfl (fun v31 bo so h30 => ?_)
            obtain ⟨a33, k34, b32, rfl, rfl, rfl, s35⟩ := h30
            refine Cov.same (bl' := [_, _]) (sl' := []) rfl rfl rfl ?_
            refine Cov.q .ro (.assign rfl) rfl ?_
            refine Cov.region_end ?_
            refine Cov.seq ?_
            refine Cov.region rfl ?_
            refine Cov.q .ro (.move rfl) rfl ?_
            obtain ⟨u36, hu36, r37⟩ := bind_some r29; clear r29
            refine Cov.callW (b1 := [_]) (b2 := [_]) (s1 := []) [_] [] .ro rfl rfl Try.call11 rfl rfl (make_Fence_c (G := G) List.mem_cons_self s35 hu36) rfl B0 (fun v39 bo so G40 e41 B42 h38 => ?_)
            obtain ⟨a44, k45, a47, k48, rfl, rfl, rfl, s46, s49⟩ := h38
            refine Cov.same (bl' := [_, _]) (sl' := []) rfl rfl rfl ?_
            refine Cov.alloc .ro ty29 rfl (fun b50 hb50 => ?_)
            refine Cov.store 0 [_, _] [_, _, _] .ro rfl rfl rfl ty29 rfl rfl rfl rfl ?_
            refine Cov.region_end ?_
            refine Cov.seq ?_
            refine Cov.region rfl ?_
            refine Cov.q .ro (.fieldAddr 1 rfl fl29_1 ty27.sz rfl) rfl ?_
            refine Cov.q .ro (.load_own 0 rfl rfl ty27 rfl) rfl ?_
            refine Cov.q .ro (.fieldAddr 1 rfl fl29_1 ty27.sz rfl) rfl ?_
            refine Cov.q .ro (.load_own 0 rfl rfl ty27 rfl) rfl ?_
            refine Cov.q .ro (.len_sl rfl rfl sl27) rfl ?_
            refine Cov.q .ro (.fieldAddr 0 rfl fl29_0 ty3.sz rfl) rfl ?_
            refine Cov.q .ro (.load_own 0 rfl rfl ty3 rfl) rfl ?_
            refine Cov.q .ro (.min2 rfl rfl) rfl ?_
            obtain ⟨u51, hu51, r52⟩ := bind_some r37; clear r37
            obtain ⟨a53, k54, h55, s56⟩ := SlR.sub s46 hu51
            refine Cov.q .ro (.sliceR s46 rfl hu51 sl27 ty9.sz (fun _ => .no) (fun h => .yes' rfl h) h55) rfl ?_
            refine Cov.q .ro (.assign rfl) rfl ?_
            refine Cov.region_end ?_
            refine Cov.prune [(2, _), (3, _), (4, _), (5, _), (6, _), (8, _), (15, _), (16, _), (17, _)] ⟨rfl, rfl, rfl, rfl, rfl, rfl, rfl, rfl, rfl, trivial⟩ ?_
            refine Cov.seq ?_
            refine Cov.seq ?_
            refine Cov.region rfl ?_
            refine Cov.q .ro (.load_own_a 2 [_, _] rfl rfl ty29 rfl) rfl ?_
            refine Cov.q .ro (.load_own_a 0 [_, _] rfl rfl ty29 rfl) rfl ?_
            refine Cov.lit [_, _, _, _] [(0, _), (1, _)] .ro sl43 ty29 rfl rfl rfl rfl rfl rfl (fun b57 hb57 => ?_)
            have o58 : OL (Rep.pair (Rep.int .i64) (Rep.sl Rep.str)) G40 [.int .i64 x1_0, .slice a1_1 x1_1.length k1_1, .int .i64 u36.1.1, .slice a44 u36.1.2.length k45] ([(x1_0, x1_1), u36.1] : List (Int × (List ByteArray))) := ((OL.cons rfl (Rep.pairI (Rep.intI .i64 x1_0) (Rep.slI (SlR.mono e41 s1_1))) (OL.cons rfl (Rep.pairI (Rep.intI .i64 u36.1.1) (Rep.slI s46)) (OL.nil (Rp' := (Rep.pair (Rep.int .i64) (Rep.sl Rep.str)))))) :)
            refine Cov.reval 93 (n' := ([(x1_0, x1_1), u36.1] : List (Int × (List ByteArray))).length) rfl rfl ?_
            refine Cov.q .ro (.len_sl rfl rfl sl43) rfl ?_
            refine Cov.q .ro (.move rfl) rfl ?_
            refine Cov.region_end ?_
            refine Cov.cutB (β := Hp × Int × List Int × Option Addr × Nat × Int × Int) (fun y => []) [(3, _), (5, _)] (fun y => y.1 :: Fs) (fun y => [(b50, .cells #[.int .i64 y.2.1, .slice a44 u36.1.2.length k45] 29 (0, 0)), (b32, .cells #[.slice y.2.2.2.1 y.2.2.1.length y.2.2.2.2.1, .int .i64 y.2.2.2.2.2.1] 55 (0, 0)), (b1, .cells #[.int .i64 y.2.2.2.2.2.2, .slice a1_1 x1_1.length k1_1] 29 (0, 0))]) [] (fun y => []) [_] (fun y => HpLe G40 y.1 ∧ Bd w0 S0 Fs y.1 ∧ SlR (Rep.int .i64) y.1 y.2.2.2.1 y.2.2.2.2.1 y.2.2.1 ∧ (law21_FenceDoes_J2 x3 x5) y.2.1 y.2.2.1 y.2.2.2.2.2.1 y.2.2.2.2.2.2 = some r) ⟨rfl, rfl, trivial⟩ [] rfl [0] rfl ?_ ?_
            · intro y hI
              obtain ⟨G3570, v3574, v3575, a3576, k3577, v3579, v3580⟩ := y
              obtain ⟨e3571, B3572, s3578, r3582⟩ := hI
              try dsimp only at e3571 B3572 s3578 r3582
              refine Cov.prune [(3, _), (5, _)] ⟨rfl, rfl, trivial⟩ ?_
              refine Cov.same (bl' := [(b50, .cells #[.int .i64 v3574, .slice a44 u36.1.2.length k45] 29 (0, 0)), (b32, .cells #[.slice a3576 v3575.length k3577, .int .i64 v3579] 55 (0, 0)), (b1, .cells #[.int .i64 v3580, .slice a1_1 x1_1.length k1_1] 29 (0, 0))]) (sl' := [_]) (Fs' := G3570 :: Fs) rfl rfl rfl ?_
              unfold law21_FenceDoes_J2 at r3582
              try dsimp only at r3582
              refine Cov.seq ?_
              refine Cov.seq ?_
              refine Cov.region rfl ?_
              refine Cov.q .ro (.move rfl) rfl ?_
              refine Cov.q .ro (.move rfl) rfl ?_
              refine Cov.q .ro (.build_a [_, _] [(0, _), (1, _)] ty49 ar49 ty3.sz rfl rfl) rfl ?_
              refine Cov.q .ro (.move rfl) rfl ?_
              obtain ⟨u3588, hu3588, r3589⟩ := bind_some r3582; clear r3582
              refine Cov.callS (b1 := []) (b2 := [_, _, _]) (s1 := []) [_, _] [] .ro rfl rfl Try.call23 rfl rfl (make_Mod_c (G := G3570) List.mem_cons_self  hu3588) rfl (fun v3591 bo so h3590 => ?_)
              obtain ⟨rfl, rfl, rfl⟩ := h3590
              refine Cov.same (bl' := [_, _, _]) (sl' := [_]) rfl rfl rfl ?_
              refine Cov.q .ro (.move rfl) rfl ?_
              obtain ⟨u3592, hu3592, r3593⟩ := bind_some r3589; clear r3589
              refine Cov.callS (b1 := []) (b2 := [_, _, _]) (s1 := []) [_, _] [] .ro rfl rfl Try.call23 rfl rfl (make_Mod_c (G := G3570) List.mem_cons_self  hu3592) rfl (fun v3595 bo so h3594 => ?_)
              obtain ⟨rfl, rfl, rfl⟩ := h3594
              refine Cov.same (bl' := [_, _, _]) (sl' := [_]) rfl rfl rfl ?_
              refine Cov.q .ro (.build_a [_, _] [(0, _), (1, _)] ty49 ar49 ty3.sz rfl rfl) rfl ?_
              refine Cov.lit [_, _, _, _] [(0, _), (1, _)] .ro sl50 ty49 rfl rfl rfl rfl rfl rfl (fun b3596 hb3596 => ?_)
              have o3597 : OL (Rep.pair (Rep.int .i64) (Rep.int .i64)) G3570 [.int .i64 x5, .int .i64 x3, .int .i64 u3588, .int .i64 u3592] ([(x5, x3), (u3588, u3592)] : List (Int × Int)) := ((OL.cons rfl (Rep.pairI (Rep.intI .i64 x5) (Rep.intI .i64 x3)) (OL.cons rfl (Rep.pairI (Rep.intI .i64 u3588) (Rep.intI .i64 u3592)) (OL.nil (Rp' := (Rep.pair (Rep.int .i64) (Rep.int .i64)))))) :)
              refine Cov.reval 288 (n' := ([(x5, x3), (u3588, u3592)] : List (Int × Int)).length) rfl rfl ?_
              refine Cov.q .ro (.len_sl rfl rfl sl50) rfl ?_
              refine Cov.q .ro (.move rfl) rfl ?_
              refine Cov.region_end ?_
              refine Cov.block ?_
              refine Cov.loop2 (α := Nat × (List (Int × Int))) (fun y => [(290, .int .i64 (y.1 : Int))]) [(288, _), (289, _)] (fun y => []) (fun y => []) [_, _, _] (fun y => []) [_, _] (fun y => List.drop y.1 ([(x5, x3), (u3588, u3592)] : List (Int × Int)) = y.2 ∧ law21_FenceDoes_L1 y.2  = some r) (fun y => y.2.length) (0, ([(x5, x3), (u3588, u3592)] : List (Int × Int))) ⟨rfl, r3593⟩ ⟨rfl, rfl, rfl, trivial⟩ rfl rfl rfl (fun y hI hb3633 => ?_)
              obtain ⟨i3629, w3630⟩ := y
              obtain ⟨g3631, r3632⟩ := hI
              try dsimp only at g3631 r3632
              refine Cov.prune [(290, .int .i64 (i3629 : Int)), (288, _), (289, _)] ⟨rfl, rfl, rfl, trivial⟩ ?_
              refine Cov.same (bl' := [_, _, _]) (sl' := [_, _]) (Fs' := G3570 :: Fs) rfl rfl rfl ?_
              cases w3630 with
              | nil =>
                rw [law21_FenceDoes_L1] at r3632; try dsimp only at r3632
                refine Cov.seq ?_
                refine Cov.region rfl ?_
                refine Cov.q .ro (.lss rfl rfl) rfl ?_
                refine Cov.region_end ?_
                refine Cov.seq ?_
                refine Cov.cond_dec rfl (fun c => absurd c (drop_nil g3631)) (fun _ => ?_)
                refine Cov.exit rfl ?_
                refine Cov.seq ?_
                refine Cov.region rfl ?_
                refine Cov.q .ro (.assign rfl) rfl ?_
                refine Cov.region_end ?_
                cases r3632
                refine Cov.drop 3 0 [] _ rfl rfl ?_
                refine Cov.drop 0 2 _ [] rfl rfl ?_
                refine Cov.retS (c := ⟨6, none⟩) (.inr ⟨_, rfl⟩) [.tmp 14] [_] rfl Try.func6 Try.results6 ⟨RV.tmp rfl, trivial⟩ (fun _ h => List.mem_cons_of_mem _ h) ⟨rfl, rfl, rfl⟩
              | cons x3644 xs3645 =>
                have r3643 : law21_FenceDoes_B1 (law21_FenceDoes_L1 xs3645) x3644  = some r := r3632; clear r3632; unfold law21_FenceDoes_B1 at r3643; try dsimp only at r3643
                refine Cov.seq ?_
                refine Cov.region rfl ?_
                refine Cov.q .ro (.lss rfl rfl) rfl ?_
                refine Cov.region_end ?_
                refine Cov.seq ?_
                refine Cov.cond_dec rfl (fun _ => ?_) (fun c => absurd (drop_lt g3631) c)
                refine Cov.skip ?_
                refine Cov.seq ?_
                refine Cov.block ?_
                refine Cov.seq ?_
                refine Cov.region rfl ?_
                obtain ⟨c3646, p3647, h3648⟩ := OL.get o3597 (drop_idx g3631)
                obtain ⟨_, _, rfl, rfl, rfl⟩ := h3648
                refine Cov.q .ro (.idxO 0 rfl rfl rfl (drop_idx g3631) sl50 ty49.sz) rfl ?_
                refine Cov.q .ro (.loadO_a 0 0 [_, _] rfl (drop_idx g3631) p3647 rfl (.inl ⟨rfl, rfl⟩) ty49 rfl) rfl ?_
                refine Cov.alloc .ro ty49 rfl (fun b3649 hb3649 => ?_)
                refine Cov.store 0 [_, _] [_, _, _, _] .ro rfl rfl rfl ty49 rfl rfl rfl rfl ?_
                refine Cov.region_end ?_
                refine Cov.seq ?_
                refine Cov.region rfl ?_
                refine Cov.q .ro (.indexAddr_ar 0 rfl rfl ar49 ty3.sz (by decide) (by decide) rfl) rfl ?_
                refine Cov.q .ro (.load_own 0 rfl rfl ty3 rfl) rfl ?_
                refine Cov.q .ro (.indexAddr_ar 1 rfl rfl ar49 ty3.sz (by decide) (by decide) rfl) rfl ?_
                refine Cov.q .ro (.load_own 0 rfl rfl ty3 rfl) rfl ?_
                obtain ⟨u3650, hu3650, r3651⟩ := bind_some r3643; clear r3643
                refine Cov.callS (b1 := []) (b2 := [_, _, _, _]) (s1 := []) [_, _] [] .ro rfl rfl Try.call16 rfl rfl (fence_Steps_c (G := G3570) List.mem_cons_self  hu3650) rfl (fun v3653 bo so h3652 => ?_)
                obtain ⟨rfl, rfl, rfl⟩ := h3652
                refine Cov.same (bl' := [_, _, _, _]) (sl' := [_, _]) rfl rfl rfl ?_
                refine Cov.q .ro (.move rfl) rfl ?_
                refine Cov.q .ro (.extract rfl rfl) rfl ?_
                refine Cov.q .ro (.extract rfl rfl) rfl ?_
                refine Cov.q .ro (.assign rfl) rfl ?_
                refine Cov.q .ro (.assign rfl) rfl ?_
                refine Cov.region_end ?_
                refine Cov.seq ?_
                refine Cov.region rfl ?_
                refine Cov.q .ro (.indexAddr_ar 0 rfl rfl ar49 ty3.sz (by decide) (by decide) rfl) rfl ?_
                refine Cov.q .ro (.load_own 0 rfl rfl ty3 rfl) rfl ?_
                refine Cov.q .ro (.indexAddr_ar 1 rfl rfl ar49 ty3.sz (by decide) (by decide) rfl) rfl ?_
                refine Cov.q .ro (.load_own 0 rfl rfl ty3 rfl) rfl ?_
                obtain ⟨u3654, hu3654, r3655⟩ := bind_some r3651; clear r3651
                refine Cov.callS (b1 := []) (b2 := [_, _, _, _]) (s1 := []) [_, _] [] .ro rfl rfl Try.call27 rfl rfl (ref21_Steps_c (G := G3570) List.mem_cons_self  hu3654) rfl (fun v3657 bo so h3656 => ?_)
                obtain ⟨rfl, rfl, rfl⟩ := h3656
                refine Cov.same (bl' := [_, _, _, _]) (sl' := [_, _]) rfl rfl rfl ?_
                refine Cov.q .ro (.move rfl) rfl ?_
                refine Cov.q .ro (.extract rfl rfl) rfl ?_
                refine Cov.q .ro (.extract rfl rfl) rfl ?_
                refine Cov.q .ro (.assign rfl) rfl ?_
                refine Cov.q .ro (.assign rfl) rfl ?_
                refine Cov.region_end ?_
                refine Cov.prune [(290, _), (288, _), (289, _), (53, _), (54, _), (55, _), (56, _)] ⟨rfl, rfl, rfl, rfl, rfl, rfl, rfl, trivial⟩ ?_
                refine Cov.seq ?_
                refine Cov.region rfl ?_
                refine Cov.q .ro (.move rfl) rfl ?_
                refine Cov.q .ro (.move rfl) rfl ?_
                refine Cov.q .ro (.neq rfl rfl) rfl ?_
                refine Cov.q .ro (.move rfl) rfl ?_
                refine Cov.cutR 4 (β := Unit) (fun y => [(317, .bool (decide ((u3650.1 ≠ u3654.1) ∨ (u3650.2 ≠ u3654.2))))]) [(290, _), (288, _), (289, _)] (fun y => G3570 :: Fs) (fun y => []) [_, _, _, _] (fun y => []) [_, _] (fun y => True) ⟨rfl, rfl, rfl, trivial⟩ [0, 1, 2, 3] rfl [0, 1] rfl ?_ ?_
                · rintro _ _
                  refine Cov.prune [(317, .bool (decide ((u3650.1 ≠ u3654.1) ∨ (u3650.2 ≠ u3654.2)))), (290, _), (288, _), (289, _)] ⟨rfl, rfl, rfl, rfl, trivial⟩ ?_
                  refine Cov.same (bl' := [_, _, _, _]) (sl' := [_, _]) (Fs' := G3570 :: Fs) rfl rfl rfl ?_
                  refine Cov.region_end ?_
                  refine Cov.cond_dec rfl (fun c3662 => ?_) (fun c3662 => ?_)
                  · have r3663 := ifT r3655 c3662; clear r3655
                    refine Cov.seq ?_
                    refine Cov.region rfl ?_
                    refine Cov.q .ro (.assign rfl) rfl ?_
                    refine Cov.region_end ?_
                    cases r3663
                    refine Cov.drop 4 0 [] _ rfl rfl ?_
                    refine Cov.drop 0 2 _ [] rfl rfl ?_
                    refine Cov.retS (c := ⟨6, none⟩) (.inr ⟨_, rfl⟩) [.tmp 14] [_] rfl Try.func6 Try.results6 ⟨RV.tmp rfl, trivial⟩ (fun _ h => List.mem_cons_of_mem _ h) ⟨rfl, rfl, rfl⟩
                  · have r3664 := ifF r3655 c3662; clear r3655
                    refine Cov.skip ?_
                    refine Cov.inBlock ?_
                    refine Cov.region rfl ?_
                    refine Cov.q .ro (.addw rfl rfl) rfl ?_
                    refine Cov.q .ro (.move rfl) rfl ?_
                    refine Cov.region_end ?_
                    refine Cov.drop 1 0 [_, _, _] _ rfl rfl ?_
                    refine Cov.prune _ ?_ (Cov.same rfl rfl rfl (hb3633 ((i3629 + 1), xs3645) ⟨(drop_succ g3631), r3664⟩ (Nat.lt_succ_self _)))
                    exact ⟨(congrArg (fun z => some (Value.int .i64 z)) (idx_wrap (OL.len' o3597) g3631)), rfl, rfl, trivial⟩
                · intro hb3659
                  refine Cov.split 313 rfl (fun c3658 => ?_) (fun c3658 => ?_)
                  · refine Cov.g_off rfl rfl rfl ?_
                    refine Cov.g_off rfl rfl rfl ?_
                    refine Cov.g_off rfl rfl rfl ?_
                    refine Cov.q .ro (.pick_t rfl rfl) rfl ?_
                    refine Cov.prune _ ?_ (Cov.same rfl rfl rfl (hb3659 () trivial))
                    exact ⟨dor_t c3658, rfl, rfl, rfl, trivial⟩
                  · refine Cov.g_on rfl ?_
                    refine Cov.q .ro (.move rfl) rfl ?_
                    refine Cov.g_on rfl ?_
                    refine Cov.q .ro (.move rfl) rfl ?_
                    refine Cov.g_on rfl ?_
                    refine Cov.q .ro (.neq rfl rfl) rfl ?_
                    refine Cov.q .ro (.pick_f rfl rfl) rfl ?_
                    refine Cov.prune _ ?_ (Cov.same rfl rfl rfl (hb3659 () trivial))
                    exact ⟨dor_f c3658, rfl, rfl, rfl, trivial⟩
            · intro hb3665
              refine Cov.block ?_
              refine Cov.pull 2 rfl [_, _, _] rfl ?_
              refine Cov.pull 2 rfl [_, _, _] rfl ?_
              refine Cov.pull 2 rfl [_, _, _] rfl ?_
              refine Cov.loop2 (α := Nat × (List (Int × (List ByteArray))) × Hp × Int × List Int × Option Addr × Nat × Int × Int) (fun y => [(95, .int .i64 (y.1 : Int))]) [(2, _), (3, _), (4, _), (5, _), (6, _), (15, _), (16, _), (17, _), (93, _), (94, _)] (fun y => [y.2.2.1]) (fun y => [(b50, .cells #[.int .i64 y.2.2.2.1, .slice a44 u36.1.2.length k45] 29 (0, 0)), (b32, .cells #[.slice y.2.2.2.2.2.1 y.2.2.2.2.1.length y.2.2.2.2.2.2.1, .int .i64 y.2.2.2.2.2.2.2.1] 55 (0, 0)), (b1, .cells #[.int .i64 y.2.2.2.2.2.2.2.2, .slice a1_1 x1_1.length k1_1] 29 (0, 0))]) [] (fun y => []) [_] (fun y => HpLe G40 y.2.2.1 ∧ Bd w0 S0 Fs y.2.2.1 ∧ SlR (Rep.int .i64) y.2.2.1 y.2.2.2.2.2.1 y.2.2.2.2.2.2.1 y.2.2.2.2.1 ∧ List.drop y.1 ([(x1_0, x1_1), u36.1] : List (Int × (List ByteArray))) = y.2.1 ∧ law21_FenceDoes_L10 (law21_FenceDoes_J2 x3 x5) x2 x3 x4 x6 u51 y.2.1 y.2.2.2.1 y.2.2.2.2.1 y.2.2.2.2.2.2.2.1 y.2.2.2.2.2.2.2.2 = some r) (fun y => y.2.1.length) (0, ([(x1_0, x1_1), u36.1] : List (Int × (List ByteArray))), G40, u36.1.1, u36.2.1, a47, k48, u36.2.2, x1_0) ⟨(HpLe.refl _), B42, s49, rfl, r52⟩ ⟨rfl, rfl, rfl, rfl, rfl, rfl, rfl, rfl, rfl, rfl, rfl, trivial⟩ rfl rfl rfl (fun y hI hb5419 => ?_)
              obtain ⟨i5404, w5405, G5407, v5411, v5412, a5413, k5414, v5416, v5417⟩ := y
              obtain ⟨e5408, B5409, s5415, g5406, r5418⟩ := hI
              try dsimp only at e5408 B5409 s5415 g5406 r5418
              refine Cov.prune [(95, .int .i64 (i5404 : Int)), (2, _), (3, _), (4, _), (5, _), (6, _), (15, _), (16, _), (17, _), (93, _), (94, _)] ⟨rfl, rfl, rfl, rfl, rfl, rfl, rfl, rfl, rfl, rfl, rfl, trivial⟩ ?_
              refine Cov.same (bl' := [(b50, .cells #[.int .i64 v5411, .slice a44 u36.1.2.length k45] 29 (0, 0)), (b32, .cells #[.slice a5413 v5412.length k5414, .int .i64 v5416] 55 (0, 0)), (b1, .cells #[.int .i64 v5417, .slice a1_1 x1_1.length k1_1] 29 (0, 0))]) (sl' := [_]) (Fs' := G5407 :: Fs) rfl rfl rfl ?_
              cases w5405 with
              | nil =>
                rw [law21_FenceDoes_L10] at r5418; try dsimp only at r5418
                refine Cov.seq ?_
                refine Cov.region rfl ?_
                refine Cov.q .ro (.lss rfl rfl) rfl ?_
                refine Cov.region_end ?_
                refine Cov.seq ?_
                refine Cov.cond_dec rfl (fun c => absurd c (drop_nil g5406)) (fun _ => ?_)
                refine Cov.exit rfl ?_
                refine Cov.prune _ ?_ (Cov.same rfl rfl rfl (hb3665 (G5407, v5411, v5412, a5413, k5414, v5416, v5417) ⟨e5408, B5409, s5415, r5418⟩))
                exact ⟨rfl, rfl, trivial⟩
              | cons x5431 xs5432 =>
                have r5430 : law21_FenceDoes_B10 (law21_FenceDoes_J2 x3 x5) x2 x3 x4 x6 u51 (law21_FenceDoes_L10 (law21_FenceDoes_J2 x3 x5) x2 x3 x4 x6 u51 xs5432) x5431 v5411 v5412 v5416 v5417 = some r := r5418; clear r5418; unfold law21_FenceDoes_B10 at r5430; try dsimp only at r5430
                refine Cov.seq ?_
                refine Cov.region rfl ?_
                refine Cov.q .ro (.lss rfl rfl) rfl ?_
                refine Cov.region_end ?_
                refine Cov.seq ?_
                refine Cov.cond_dec rfl (fun _ => ?_) (fun c => absurd (drop_lt g5406) c)
                refine Cov.skip ?_
                refine Cov.seq ?_
                refine Cov.block ?_
                refine Cov.seq ?_
                refine Cov.region rfl ?_
                obtain ⟨c5433, p5434, h5435⟩ := OL.get (OL.mono e5408 o58) (drop_idx g5406)
                obtain ⟨_, _, rfl, rfl, a5436, k5437, rfl, s5438⟩ := h5435
                refine Cov.q .ro (.idxO 0 rfl rfl rfl (drop_idx g5406) sl43 ty29.sz) rfl ?_
                refine Cov.q .ro (.loadO_a 0 0 [_, _] rfl (drop_idx g5406) p5434 rfl (.inl ⟨rfl, rfl⟩) ty29 rfl) rfl ?_
                refine Cov.alloc .ro ty29 rfl (fun b5439 hb5439 => ?_)
                refine Cov.store 0 [_, _] [_, _, _, _] .ro rfl rfl rfl ty29 rfl rfl rfl rfl ?_
                refine Cov.region_end ?_
                refine Cov.seq ?_
                refine Cov.region rfl ?_
                refine Cov.q .ro (.load_own_a 0 [_, _] rfl rfl ty29 rfl) rfl ?_
                obtain ⟨u5440, hu5440, r5441⟩ := bind_some r5430; clear r5430
                refine Cov.callW (b1 := []) (b2 := [_, _, _, _]) (s1 := []) [_] [] .ro rfl rfl Try.call14 rfl rfl (fence_Levels_c (G := G5407) List.mem_cons_self s5438 hu5440) rfl B5409 (fun v5443 bo so G5444 e5445 B5446 h5442 => ?_)
                obtain ⟨a5449, k5450, cs5451, rfl, rfl, rfl, o5452⟩ := h5442
                refine Cov.same (bl' := [_, _, _, _]) (sl' := [_, _]) rfl rfl rfl ?_
                refine Cov.q .ro (.move rfl) rfl ?_
                refine Cov.q .ro (.extract rfl rfl) rfl ?_
                refine Cov.q .ro (.extract rfl rfl) rfl ?_
                refine Cov.q .ro (.assign rfl) rfl ?_
                refine Cov.q .ro (.assign rfl) rfl ?_
                refine Cov.region_end ?_
                refine Cov.seq ?_
                refine Cov.region rfl ?_
                refine Cov.q .ro (.load_own_a 0 [_, _] rfl rfl ty29 rfl) rfl ?_
                obtain ⟨u5453, hu5453, r5454⟩ := bind_some r5441; clear r5441
                refine Cov.callW (b1 := []) (b2 := [_, _, _, _]) (s1 := []) [_] [] .ro rfl rfl Try.call17 rfl rfl (ref21_Levels_c (G := G5444) List.mem_cons_self (SlR.mono e5445 s5438) hu5453) rfl B5446 (fun v5456 bo so G5457 e5458 B5459 h5455 => ?_)
                obtain ⟨a5462, k5463, cs5464, rfl, rfl, rfl, o5465⟩ := h5455
                refine Cov.same (bl' := [_, _, _, _]) (sl' := [_, _, _]) rfl rfl rfl ?_
                refine Cov.q .ro (.move rfl) rfl ?_
                refine Cov.q .ro (.extract rfl rfl) rfl ?_
                refine Cov.q .ro (.extract rfl rfl) rfl ?_
                refine Cov.q .ro (.assign rfl) rfl ?_
                refine Cov.q .ro (.assign rfl) rfl ?_
                refine Cov.region_end ?_
                refine Cov.prune [(95, _), (2, _), (3, _), (4, _), (5, _), (6, _), (15, _), (16, _), (17, _), (93, _), (94, _), (19, _), (20, _), (21, _), (22, _), (23, _)] ⟨rfl, rfl, rfl, rfl, rfl, rfl, rfl, rfl, rfl, rfl, rfl, rfl, rfl, rfl, rfl, rfl, trivial⟩ ?_
                refine Cov.seq ?_
                refine Cov.seq ?_
                refine Cov.freezeR 1 rfl rfl (OL.mono e5458 o5452) [_, _] rfl B5459 (fun G5466 e5467 B5468 s5469 => ?_)
                refine Cov.freezeR 0 rfl rfl (OL.mono e5467 o5465) [_] rfl B5468 (fun G5471 e5472 B5473 s5474 => ?_)
                refine Cov.drawL (.q 0 (.q 2 (.e 1 1 (.e 3 1 (.q 4 (.q 5 (.q 6 (.q 7 (.q 8 (.q 9 (.q 10 (.q 11 (.q 12 (.q 13 (.q 14 (.q 15 (.q 16 .nil))))))))))))))))) [_, _, _, _] (by kernel_rfl) (by kernel_rfl) (pick_mem [0, 1, 2, 3] rfl) ?_
                refine Cov.dq (.load_own_a 0 [_, _] rfl rfl ty29 rfl) rfl ?_
                refine Cov.dq (.load_own_a 0 [_, _] rfl rfl ty29 rfl) rfl ?_
                obtain ⟨u5476, hu5476, r5477⟩ := bind_some r5454; clear r5454
                refine Cov.callS (b1 := []) (b2 := [_, _, _, _]) (s1 := []) [_] [] .d1 rfl rfl Try.call18 rfl rfl (fence_Check_c (G := G5471) List.mem_cons_self (SlR.mono (HpLe.trans (HpLe.trans (HpLe.trans e5445 e5458) e5467) e5472) s5438) hu5476) rfl (fun v5479 bo so h5478 => ?_)
                obtain ⟨rfl, rfl, rfl⟩ := h5478
                refine Cov.same (bl' := [_, _, _, _]) (sl' := [_]) rfl rfl rfl ?_
                refine Cov.clsL (HpLe.refl _) (pick_mem [0, 1, 2, 3] rfl) ?_
                obtain ⟨u5480, hu5480, r5481⟩ := bind_some r5477; clear r5477
                refine Cov.callS (b1 := []) (b2 := [_, _, _, _]) (s1 := []) [_] [] .d1 rfl rfl Try.call19 rfl rfl (ref21_Check_c (G := G5471) List.mem_cons_self (SlR.mono (HpLe.trans (HpLe.trans (HpLe.trans e5445 e5458) e5467) e5472) s5438) hu5480) rfl (fun v5483 bo so h5482 => ?_)
                obtain ⟨rfl, rfl, rfl⟩ := h5482
                refine Cov.same (bl' := [_, _, _, _]) (sl' := [_]) rfl rfl rfl ?_
                refine Cov.clsL (HpLe.refl _) (pick_mem [0, 1, 2, 3] rfl) ?_
                refine Cov.dq (.neq rfl rfl) rfl ?_
                refine Cov.dq (.move rfl) rfl ?_
                refine Cov.cutD 4 (β := Unit) (fun y => [(118, .bool (decide ((u5476 ≠ u5480) ∨ (u5440.2 ≠ u5453.2))))]) [(95, _), (2, _), (3, _), (4, _), (5, _), (6, _), (15, _), (16, _), (17, _), (93, _), (94, _), (19, _), (20, _), (22, _)] (fun y => G5471 :: Fs) (fun y => []) [_, _, _, _] (fun y => []) [_] (fun y => True) ⟨rfl, rfl, rfl, rfl, rfl, rfl, rfl, rfl, rfl, rfl, rfl, rfl, rfl, rfl, trivial⟩ [0, 1, 2, 3] rfl [0] rfl ?_ ?_
                · rintro _ _
                  refine Cov.prune [(118, .bool (decide ((u5476 ≠ u5480) ∨ (u5440.2 ≠ u5453.2)))), (95, _), (2, _), (3, _), (4, _), (5, _), (6, _), (15, _), (16, _), (17, _), (93, _), (94, _), (19, _), (20, _), (22, _)] ⟨rfl, rfl, rfl, rfl, rfl, rfl, rfl, rfl, rfl, rfl, rfl, rfl, rfl, rfl, rfl, trivial⟩ ?_
                  refine Cov.same (bl' := [_, _, _, _]) (sl' := [_]) (Fs' := G5471 :: Fs) rfl rfl rfl ?_
                  refine Cov.dq (.move rfl) rfl ?_
                  refine Cov.cutD 6 (β := Unit) (fun y => [(125, .bool (decide (((u5476 ≠ u5480) ∨ (u5440.2 ≠ u5453.2)) ∨ ((u5440.1.length : Int) ≠ (u5453.1.length : Int)))))]) [(95, _), (2, _), (3, _), (4, _), (5, _), (6, _), (15, _), (16, _), (17, _), (93, _), (94, _), (19, _), (20, _), (22, _)] (fun y => G5471 :: Fs) (fun y => []) [_, _, _, _] (fun y => []) [_] (fun y => True) ⟨rfl, rfl, rfl, rfl, rfl, rfl, rfl, rfl, rfl, rfl, rfl, rfl, rfl, rfl, trivial⟩ [0, 1, 2, 3] rfl [0] rfl ?_ ?_
                  · rintro _ _
                    refine Cov.prune [(125, .bool (decide (((u5476 ≠ u5480) ∨ (u5440.2 ≠ u5453.2)) ∨ ((u5440.1.length : Int) ≠ (u5453.1.length : Int))))), (95, _), (2, _), (3, _), (4, _), (5, _), (6, _), (15, _), (16, _), (17, _), (93, _), (94, _), (19, _), (20, _), (22, _)] ⟨rfl, rfl, rfl, rfl, rfl, rfl, rfl, rfl, rfl, rfl, rfl, rfl, rfl, rfl, rfl, trivial⟩ ?_
                    refine Cov.same (bl' := [_, _, _, _]) (sl' := [_]) (Fs' := G5471 :: Fs) rfl rfl rfl ?_
                    refine Cov.draw_end ?_
                    refine Cov.cond_dec rfl (fun c5492 => ?_) (fun c5492 => ?_)
                    · have r5493 := ifT r5481 c5492; clear r5481
                      refine Cov.seq ?_
                      refine Cov.region rfl ?_
                      refine Cov.q .ro (.assign rfl) rfl ?_
                      refine Cov.region_end ?_
                      refine Cov.prune [(14, _)] ⟨rfl, trivial⟩ ?_
                      cases r5493
                      refine Cov.drop 4 0 [] _ rfl rfl ?_
                      refine Cov.drop 0 1 _ [] rfl rfl ?_
                      refine Cov.retS (c := ⟨6, none⟩) (.inr ⟨_, rfl⟩) [.tmp 14] [_] rfl Try.func6 Try.results6 ⟨RV.tmp rfl, trivial⟩ (fun _ h => List.mem_cons_of_mem _ h) ⟨rfl, rfl, rfl⟩
                    · have r5494 := ifF r5481 c5492; clear r5481
                      refine Cov.skip ?_
                      refine Cov.seq ?_
                      refine Cov.seq ?_
                      refine Cov.region rfl ?_
                      refine Cov.q .ro (.move rfl) rfl ?_
                      refine Cov.q .ro (.len_sl rfl rfl sl36) rfl ?_
                      refine Cov.q .ro (.move rfl) rfl ?_
                      refine Cov.region_end ?_
                      refine Cov.cutB (β := Int × Int × Int × Int) (fun y => []) [(95, _), (2, _), (3, _), (4, _), (5, _), (6, _), (15, _), (16, _), (17, _), (93, _), (94, _), (19, _)] (fun y => G5471 :: Fs) (fun y => [(b5439, .cells #[.int .i64 y.1, .slice a5436 x5431.2.length k5437] 29 (0, 0)), (b50, .cells #[.int .i64 y.2.1, .slice a44 u36.1.2.length k45] 29 (0, 0)), (b32, .cells #[.slice a5413 v5412.length k5414, .int .i64 y.2.2.1] 55 (0, 0)), (b1, .cells #[.int .i64 y.2.2.2, .slice a1_1 x1_1.length k1_1] 29 (0, 0))]) [] (fun y => []) [_] (fun y => (law21_FenceDoes_J8 (law21_FenceDoes_L10 (law21_FenceDoes_J2 x3 x5) x2 x3 x4 x6 u51 xs5432) x2 x3 x4 x6 u51 x5431.2 v5412) y.1 y.2.1 y.2.2.1 y.2.2.2 = some r) ⟨rfl, rfl, rfl, rfl, rfl, rfl, rfl, rfl, rfl, rfl, rfl, rfl, trivial⟩ [] rfl [0] rfl ?_ ?_
                      · intro y hI
                        obtain ⟨v5577, v5578, v5579, v5580⟩ := y
                        have r5582 := hI; clear hI
                        try dsimp only at r5582
                        refine Cov.prune [(95, _), (2, _), (3, _), (4, _), (5, _), (6, _), (15, _), (16, _), (17, _), (93, _), (94, _), (19, _)] ⟨rfl, rfl, rfl, rfl, rfl, rfl, rfl, rfl, rfl, rfl, rfl, rfl, trivial⟩ ?_
                        refine Cov.same (bl' := [(b5439, .cells #[.int .i64 v5577, .slice a5436 x5431.2.length k5437] 29 (0, 0)), (b50, .cells #[.int .i64 v5578, .slice a44 u36.1.2.length k45] 29 (0, 0)), (b32, .cells #[.slice a5413 v5412.length k5414, .int .i64 v5579] 55 (0, 0)), (b1, .cells #[.int .i64 v5580, .slice a1_1 x1_1.length k1_1] 29 (0, 0))]) (sl' := [_]) (Fs' := G5471 :: Fs) rfl rfl rfl ?_
                        unfold law21_FenceDoes_J8 at r5582
                        try dsimp only at r5582
                        refine Cov.seq ?_
                        refine Cov.region rfl ?_
                        refine Cov.q .ro (.move rfl) rfl ?_
                        refine Cov.q .ro (.move rfl) rfl ?_
                        obtain ⟨u5596, hu5596, r5597⟩ := bind_some r5582; clear r5582
                        refine Cov.pull 2 rfl [_, _, _, _] rfl ?_
                        refine Cov.callW (b1 := [_]) (b2 := [_, _, _]) (s1 := []) [_] [] .ro rfl rfl Try.call12 rfl rfl (make_Word_c (G := G5471) List.mem_cons_self (SlR.mono (HpLe.trans (HpLe.trans (HpLe.trans e5445 e5458) e5467) e5472) s5415) hu5596) rfl B5473 (fun v5599 bo so G5600 e5601 B5602 h5598 => ?_)
                        obtain ⟨a5604, k5605, rfl, rfl, rfl, s5606⟩ := h5598
                        refine Cov.same (bl' := [_, _, _, _]) (sl' := [_]) rfl rfl rfl ?_
                        refine Cov.lit [_, _] [(0, _), (1, _)] .ro sl27 ty9 rfl rfl rfl rfl rfl rfl (fun b5607 hb5607 => ?_)
                        have o5608 : OL Rep.str G5600 [.string x2, .string u5596.1] ([x2, u5596.1] : List ByteArray) := ((OL.cons rfl (Rep.strI x2) (OL.cons rfl (Rep.strI u5596.1) (OL.nil (Rp' := Rep.str)))) :)
                        refine Cov.reval 145 (n' := ([x2, u5596.1] : List ByteArray).length) rfl rfl ?_
                        refine Cov.q .ro (.len_sl rfl rfl sl27) rfl ?_
                        refine Cov.q .ro (.move rfl) rfl ?_
                        refine Cov.region_end ?_
                        refine Cov.block ?_
                        refine Cov.pull 3 rfl [_, _, _, _] rfl ?_
                        refine Cov.pull 3 rfl [_, _, _, _] rfl ?_
                        refine Cov.pull 3 rfl [_, _, _, _] rfl ?_
                        refine Cov.pull 3 rfl [_, _, _, _] rfl ?_
                        refine Cov.loop2 (α := Nat × List ByteArray × Hp × Int × Int × Int × Int) (fun y => [(147, .int .i64 (y.1 : Int))]) [(95, _), (2, _), (3, _), (4, _), (5, _), (6, _), (15, _), (16, _), (17, _), (93, _), (94, _), (19, _), (145, _), (146, _)] (fun y => [y.2.2.1]) (fun y => [(b32, .cells #[.slice a5604 u5596.2.1.length k5605, .int .i64 y.2.2.2.1] 55 (0, 0)), (b5439, .cells #[.int .i64 y.2.2.2.2.1, .slice a5436 x5431.2.length k5437] 29 (0, 0)), (b50, .cells #[.int .i64 y.2.2.2.2.2.1, .slice a44 u36.1.2.length k45] 29 (0, 0)), (b1, .cells #[.int .i64 y.2.2.2.2.2.2, .slice a1_1 x1_1.length k1_1] 29 (0, 0))]) [] (fun y => []) [_, _] (fun y => HpLe G5600 y.2.2.1 ∧ Bd w0 S0 Fs y.2.2.1 ∧ List.drop y.1 ([x2, u5596.1] : List ByteArray) = y.2.1 ∧ law21_FenceDoes_L7 (law21_FenceDoes_L10 (law21_FenceDoes_J2 x3 x5) x2 x3 x4 x6 u51 xs5432) x3 x4 x6 u51 u5596.2.1 x5431.2 y.2.1 y.2.2.2.1 y.2.2.2.2.1 y.2.2.2.2.2.1 y.2.2.2.2.2.2 = some r) (fun y => y.2.1.length) (0, ([x2, u5596.1] : List ByteArray), G5600, u5596.2.2, v5577, v5578, v5580) ⟨(HpLe.refl _), B5602, rfl, r5597⟩ ⟨rfl, rfl, rfl, rfl, rfl, rfl, rfl, rfl, rfl, rfl, rfl, rfl, rfl, rfl, rfl, trivial⟩ rfl rfl rfl (fun y hI hb6351 => ?_)
                        obtain ⟨i6339, w6340, G6342, v6346, v6347, v6348, v6349⟩ := y
                        obtain ⟨e6343, B6344, g6341, r6350⟩ := hI
                        try dsimp only at e6343 B6344 g6341 r6350
                        refine Cov.prune [(147, .int .i64 (i6339 : Int)), (95, _), (2, _), (3, _), (4, _), (5, _), (6, _), (15, _), (16, _), (17, _), (93, _), (94, _), (19, _), (145, _), (146, _)] ⟨rfl, rfl, rfl, rfl, rfl, rfl, rfl, rfl, rfl, rfl, rfl, rfl, rfl, rfl, rfl, trivial⟩ ?_
                        refine Cov.same (bl' := [(b32, .cells #[.slice a5604 u5596.2.1.length k5605, .int .i64 v6346] 55 (0, 0)), (b5439, .cells #[.int .i64 v6347, .slice a5436 x5431.2.length k5437] 29 (0, 0)), (b50, .cells #[.int .i64 v6348, .slice a44 u36.1.2.length k45] 29 (0, 0)), (b1, .cells #[.int .i64 v6349, .slice a1_1 x1_1.length k1_1] 29 (0, 0))]) (sl' := [_, _]) (Fs' := G6342 :: Fs) rfl rfl rfl ?_
                        cases w6340 with
                        | nil =>
                          rw [law21_FenceDoes_L7] at r6350; try dsimp only at r6350
                          refine Cov.seq ?_
                          refine Cov.region rfl ?_
                          refine Cov.q .ro (.lss rfl rfl) rfl ?_
                          refine Cov.region_end ?_
                          refine Cov.seq ?_
                          refine Cov.cond_dec rfl (fun c => absurd c (drop_nil g6341)) (fun _ => ?_)
                          refine Cov.exit rfl ?_
                          refine Cov.inBlock ?_
                          refine Cov.region rfl ?_
                          refine Cov.q .ro (.addw rfl rfl) rfl ?_
                          refine Cov.q .ro (.move rfl) rfl ?_
                          refine Cov.region_end ?_
                          refine Cov.pull 3 rfl [_, _, _, _] rfl ?_
                          refine Cov.pull 1 rfl [_, _, _, _] rfl ?_
                          refine Cov.pull 3 rfl [_, _, _, _] rfl ?_
                          refine Cov.pull 3 rfl [_, _, _, _] rfl ?_
                          refine Cov.drop 1 0 [_, _, _] _ rfl rfl ?_
                          refine Cov.drop 0 1 _ [_] rfl rfl ?_
                          refine Cov.prune _ ?_ (Cov.same rfl rfl rfl (hb5419 ((i5404 + 1), xs5432, G6342, v6348, u5596.2.1, a5604, k5605, v6346, v6349) ⟨(HpLe.trans (HpLe.trans (HpLe.trans (HpLe.trans (HpLe.trans (HpLe.trans e5408 e5445) e5458) e5467) e5472) e5601) e6343), B6344, (SlR.mono e6343 s5606), (drop_succ g5406), r6350⟩ (Nat.lt_succ_self _)))
                          exact ⟨(congrArg (fun z => some (Value.int .i64 z)) (idx_wrap (OL.len' o58) g5406)), rfl, rfl, rfl, rfl, rfl, rfl, rfl, rfl, rfl, rfl, trivial⟩
                        | cons x6368 xs6369 =>
                          have r6367 : law21_FenceDoes_B7 (law21_FenceDoes_L10 (law21_FenceDoes_J2 x3 x5) x2 x3 x4 x6 u51 xs5432) x3 x4 x6 u51 u5596.2.1 x5431.2 (law21_FenceDoes_L7 (law21_FenceDoes_L10 (law21_FenceDoes_J2 x3 x5) x2 x3 x4 x6 u51 xs5432) x3 x4 x6 u51 u5596.2.1 x5431.2 xs6369) x6368 v6346 v6347 v6348 v6349 = some r := r6350; clear r6350; unfold law21_FenceDoes_B7 at r6367; try dsimp only at r6367
                          refine Cov.seq ?_
                          refine Cov.region rfl ?_
                          refine Cov.q .ro (.lss rfl rfl) rfl ?_
                          refine Cov.region_end ?_
                          refine Cov.seq ?_
                          refine Cov.cond_dec rfl (fun _ => ?_) (fun c => absurd (drop_lt g6341) c)
                          refine Cov.skip ?_
                          refine Cov.seq ?_
                          refine Cov.block ?_
                          refine Cov.seq ?_
                          refine Cov.region rfl ?_
                          obtain ⟨c6370, p6371, h6372⟩ := OL.get (OL.mono e6343 o5608) (drop_idx g6341)
                          obtain rfl := h6372
                          refine Cov.q .ro (.idxO 0 rfl rfl rfl (drop_idx g6341) sl27 ty9.sz) rfl ?_
                          refine Cov.q .ro (.loadO 0 0 rfl (drop_idx g6341) p6371 rfl (.inl ⟨rfl, rfl⟩) ty9 rfl) rfl ?_
                          refine Cov.q .ro (.assign rfl) rfl ?_
                          refine Cov.region_end ?_
                          refine Cov.seq ?_
                          refine Cov.region rfl ?_
                          refine Cov.q .ro (.load_own_a 1 [_, _] rfl rfl ty29 rfl) rfl ?_
                          refine Cov.q .ro (.move rfl) rfl ?_
                          obtain ⟨u6373, hu6373, r6374⟩ := bind_some r6367; clear r6367
                          refine Cov.callS (b1 := []) (b2 := [_, _, _, _]) (s1 := []) [_, _] [] .ro rfl rfl Try.call20 rfl rfl (fence_Probe_c (G := G6342) List.mem_cons_self (SlR.mono (HpLe.trans (HpLe.trans (HpLe.trans (HpLe.trans (HpLe.trans e5445 e5458) e5467) e5472) e5601) e6343) s5438) hu6373) rfl (fun v6376 bo so h6375 => ?_)
                          obtain ⟨a6378, k6379, cs6380, rfl, rfl, rfl, o6381⟩ := h6375
                          refine Cov.same (bl' := [_, _, _, _]) (sl' := [_, _, _]) rfl rfl rfl ?_
                          refine Cov.q .ro (.move rfl) rfl ?_
                          refine Cov.q .ro (.extract rfl rfl) rfl ?_
                          refine Cov.q .ro (.extract rfl rfl) rfl ?_
                          refine Cov.q .ro (.extract rfl rfl) rfl ?_
                          refine Cov.q .ro (.extract rfl rfl) rfl ?_
                          refine Cov.q .ro (.assign rfl) rfl ?_
                          refine Cov.q .ro (.assign rfl) rfl ?_
                          refine Cov.q .ro (.assign rfl) rfl ?_
                          refine Cov.q .ro (.assign rfl) rfl ?_
                          refine Cov.region_end ?_
                          refine Cov.seq ?_
                          refine Cov.region rfl ?_
                          refine Cov.q .ro (.load_own_a 1 [_, _] rfl rfl ty29 rfl) rfl ?_
                          refine Cov.q .ro (.move rfl) rfl ?_
                          obtain ⟨u6382, hu6382, r6383⟩ := bind_some r6374; clear r6374
                          refine Cov.callS (b1 := []) (b2 := [_, _, _, _]) (s1 := []) [_, _] [] .ro rfl rfl Try.call21 rfl rfl (ref21_Probe_c (G := G6342) List.mem_cons_self (SlR.mono (HpLe.trans (HpLe.trans (HpLe.trans (HpLe.trans (HpLe.trans e5445 e5458) e5467) e5472) e5601) e6343) s5438) hu6382) rfl (fun v6385 bo so h6384 => ?_)
                          obtain ⟨a6387, k6388, cs6389, rfl, rfl, rfl, o6390⟩ := h6384
                          refine Cov.same (bl' := [_, _, _, _]) (sl' := [_, _, _, _]) rfl rfl rfl ?_
                          refine Cov.q .ro (.move rfl) rfl ?_
                          refine Cov.q .ro (.extract rfl rfl) rfl ?_
                          refine Cov.q .ro (.extract rfl rfl) rfl ?_
                          refine Cov.q .ro (.extract rfl rfl) rfl ?_
                          refine Cov.q .ro (.extract rfl rfl) rfl ?_
                          refine Cov.q .ro (.assign rfl) rfl ?_
                          refine Cov.q .ro (.assign rfl) rfl ?_
                          refine Cov.q .ro (.assign rfl) rfl ?_
                          refine Cov.q .ro (.assign rfl) rfl ?_
                          refine Cov.region_end ?_
                          refine Cov.prune [(147, _), (95, _), (2, _), (3, _), (4, _), (5, _), (6, _), (15, _), (16, _), (17, _), (93, _), (94, _), (19, _), (145, _), (146, _), (26, _), (27, _), (28, _), (29, _), (30, _), (31, _), (32, _), (33, _), (34, _)] ⟨rfl, rfl, rfl, rfl, rfl, rfl, rfl, rfl, rfl, rfl, rfl, rfl, rfl, rfl, rfl, rfl, rfl, rfl, rfl, rfl, rfl, rfl, rfl, rfl, trivial⟩ ?_
                          refine Cov.seq ?_
                          refine Cov.seq ?_
                          refine Cov.region rfl ?_
                          refine Cov.q .ro (.move rfl) rfl ?_
                          refine Cov.q .ro (.move rfl) rfl ?_
                          refine Cov.q .ro (.neq rfl rfl) rfl ?_
                          refine Cov.q .ro (.move rfl) rfl ?_
                          refine Cov.cutR 4 (β := Unit) (fun y => [(174, .bool (decide ((u6373.2.2.2 ≠ u6382.2.2.2) ∨ (u6373.2.1 ≠ u6382.2.1))))]) [(147, _), (95, _), (2, _), (3, _), (4, _), (5, _), (6, _), (15, _), (16, _), (17, _), (93, _), (94, _), (19, _), (145, _), (146, _), (26, _), (27, _), (29, _), (31, _), (33, _)] (fun y => G6342 :: Fs) (fun y => []) [_, _, _, _] (fun y => []) [_, _, _, _] (fun y => True) ⟨rfl, rfl, rfl, rfl, rfl, rfl, rfl, rfl, rfl, rfl, rfl, rfl, rfl, rfl, rfl, rfl, rfl, rfl, rfl, rfl, trivial⟩ [0, 1, 2, 3] rfl [0, 1, 2, 3] rfl ?_ ?_
                          · rintro _ _
                            refine Cov.prune [(174, .bool (decide ((u6373.2.2.2 ≠ u6382.2.2.2) ∨ (u6373.2.1 ≠ u6382.2.1)))), (147, _), (95, _), (2, _), (3, _), (4, _), (5, _), (6, _), (15, _), (16, _), (17, _), (93, _), (94, _), (19, _), (145, _), (146, _), (26, _), (27, _), (29, _), (31, _), (33, _)] ⟨rfl, rfl, rfl, rfl, rfl, rfl, rfl, rfl, rfl, rfl, rfl, rfl, rfl, rfl, rfl, rfl, rfl, rfl, rfl, rfl, rfl, trivial⟩ ?_
                            refine Cov.same (bl' := [_, _, _, _]) (sl' := [_, _, _, _]) (Fs' := G6342 :: Fs) rfl rfl rfl ?_
                            refine Cov.q .ro (.move rfl) rfl ?_
                            refine Cov.cutR 4 (β := Unit) (fun y => [(179, .bool (decide (((u6373.2.2.2 ≠ u6382.2.2.2) ∨ (u6373.2.1 ≠ u6382.2.1)) ∨ (u6373.2.2.1 ≠ u6382.2.2.1))))]) [(147, _), (95, _), (2, _), (3, _), (4, _), (5, _), (6, _), (15, _), (16, _), (17, _), (93, _), (94, _), (19, _), (145, _), (146, _), (26, _), (27, _), (31, _)] (fun y => G6342 :: Fs) (fun y => []) [_, _, _, _] (fun y => []) [_, _, _, _] (fun y => True) ⟨rfl, rfl, rfl, rfl, rfl, rfl, rfl, rfl, rfl, rfl, rfl, rfl, rfl, rfl, rfl, rfl, rfl, rfl, trivial⟩ [0, 1, 2, 3] rfl [0, 1, 2, 3] rfl ?_ ?_
                            · rintro _ _
                              refine Cov.prune [(179, .bool (decide (((u6373.2.2.2 ≠ u6382.2.2.2) ∨ (u6373.2.1 ≠ u6382.2.1)) ∨ (u6373.2.2.1 ≠ u6382.2.2.1)))), (147, _), (95, _), (2, _), (3, _), (4, _), (5, _), (6, _), (15, _), (16, _), (17, _), (93, _), (94, _), (19, _), (145, _), (146, _), (26, _), (27, _), (31, _)] ⟨rfl, rfl, rfl, rfl, rfl, rfl, rfl, rfl, rfl, rfl, rfl, rfl, rfl, rfl, rfl, rfl, rfl, rfl, rfl, trivial⟩ ?_
                              refine Cov.same (bl' := [_, _, _, _]) (sl' := [_, _, _, _]) (Fs' := G6342 :: Fs) rfl rfl rfl ?_
                              refine Cov.q .ro (.move rfl) rfl ?_
                              refine Cov.freezeR 0 rfl rfl o6390 [_, _, _] rfl B6344 (fun G6413 e6414 B6415 s6416 => ?_)
                              refine Cov.freezeR 0 rfl rfl (OL.mono e6414 o6381) [_, _] rfl B6415 (fun G6418 e6419 B6420 s6421 => ?_)
                              obtain ⟨u6429, h6430, r6431⟩ := bind_some r6383; clear r6383
                              refine Cov.cutR 5 (β := Unit) (fun y => [(185, .bool u6429)]) [(147, _), (95, _), (2, _), (3, _), (4, _), (5, _), (6, _), (15, _), (16, _), (17, _), (93, _), (94, _), (19, _), (145, _), (146, _), (26, _)] (fun y => G6418 :: Fs) (fun y => []) [_, _, _, _] (fun y => []) [_, _] (fun y => True) ⟨rfl, rfl, rfl, rfl, rfl, rfl, rfl, rfl, rfl, rfl, rfl, rfl, rfl, rfl, rfl, rfl, trivial⟩ [0, 1, 2, 3] rfl [0, 1] rfl ?_ ?_
                              · rintro _ _
                                refine Cov.prune [(185, .bool u6429), (147, _), (95, _), (2, _), (3, _), (4, _), (5, _), (6, _), (15, _), (16, _), (17, _), (93, _), (94, _), (19, _), (145, _), (146, _), (26, _)] ⟨rfl, rfl, rfl, rfl, rfl, rfl, rfl, rfl, rfl, rfl, rfl, rfl, rfl, rfl, rfl, rfl, rfl, trivial⟩ ?_
                                refine Cov.same (bl' := [_, _, _, _]) (sl' := [_, _]) (Fs' := G6418 :: Fs) rfl rfl rfl ?_
                                refine Cov.region_end ?_
                                refine Cov.cond rfl (fun c6434 => ?_) (fun c6434 => ?_)
                                · have r6435 := ifT r6431 c6434; clear r6431
                                  refine Cov.seq ?_
                                  refine Cov.region rfl ?_
                                  refine Cov.q .ro (.assign rfl) rfl ?_
                                  refine Cov.region_end ?_
                                  refine Cov.prune [(14, _)] ⟨rfl, trivial⟩ ?_
                                  cases r6435
                                  refine Cov.drop 4 0 [] _ rfl rfl ?_
                                  refine Cov.drop 0 2 _ [] rfl rfl ?_
                                  refine Cov.retS (c := ⟨6, none⟩) (.inr ⟨_, rfl⟩) [.tmp 14] [_] rfl Try.func6 Try.results6 ⟨RV.tmp rfl, trivial⟩ (fun _ h => List.mem_cons_of_mem _ h) ⟨rfl, rfl, rfl⟩
                                · have r6436 := ifBF r6431 c6434; clear r6431
                                  refine Cov.skip ?_
                                  refine Cov.seq ?_
                                  refine Cov.seq ?_
                                  refine Cov.region rfl ?_
                                  refine Cov.q .ro (.move rfl) rfl ?_
                                  refine Cov.q .ro (.move rfl) rfl ?_
                                  obtain ⟨u6437, hu6437, r6438⟩ := bind_some r6436; clear r6436
                                  refine Cov.callS (b1 := []) (b2 := [_, _, _, _]) (s1 := []) [_, _] [] .ro rfl rfl Try.call23 rfl rfl (make_Mod_c (G := G6418) List.mem_cons_self  hu6437) rfl (fun v6440 bo so h6439 => ?_)
                                  obtain ⟨rfl, rfl, rfl⟩ := h6439
                                  refine Cov.same (bl' := [_, _, _, _]) (sl' := [_, _]) rfl rfl rfl ?_
                                  refine Cov.lit [_, _] [(0, _), (1, _)] .ro sl22 ty3 rfl rfl rfl rfl rfl rfl (fun b6441 hb6441 => ?_)
                                  have o6442 : OL (Rep.int .i64) G6418 [.int .i64 x3, .int .i64 u6437] ([x3, u6437] : List Int) := ((OL.cons rfl (Rep.intI .i64 x3) (OL.cons rfl (Rep.intI .i64 u6437) (OL.nil (Rp' := (Rep.int .i64))))) :)
                                  refine Cov.reval 189 (n' := ([x3, u6437] : List Int).length) rfl rfl ?_
                                  refine Cov.q .ro (.len_sl rfl rfl sl22) rfl ?_
                                  refine Cov.q .ro (.move rfl) rfl ?_
                                  refine Cov.region_end ?_
                                  refine Cov.cutB (β := Hp × Int × Int × Int × Int) (fun y => []) [(147, _), (95, _), (2, _), (3, _), (4, _), (5, _), (6, _), (15, _), (16, _), (17, _), (93, _), (94, _), (19, _), (145, _), (146, _), (26, _)] (fun y => y.1 :: Fs) (fun y => [(b32, .cells #[.slice a5604 u5596.2.1.length k5605, .int .i64 y.2.1] 55 (0, 0)), (b5439, .cells #[.int .i64 y.2.2.1, .slice a5436 x5431.2.length k5437] 29 (0, 0)), (b50, .cells #[.int .i64 y.2.2.2.1, .slice a44 u36.1.2.length k45] 29 (0, 0)), (b1, .cells #[.int .i64 y.2.2.2.2, .slice a1_1 x1_1.length k1_1] 29 (0, 0))]) [] (fun y => []) [_, _, _] (fun y => HpLe G6418 y.1 ∧ Bd w0 S0 Fs y.1 ∧ (law21_FenceDoes_J5 (law21_FenceDoes_L7 (law21_FenceDoes_L10 (law21_FenceDoes_J2 x3 x5) x2 x3 x4 x6 u51 xs5432) x3 x4 x6 u51 u5596.2.1 x5431.2 xs6369) x3 x4 x6 u51 x6368) y.2.1 y.2.2.1 y.2.2.2.1 y.2.2.2.2 = some r) ⟨rfl, rfl, rfl, rfl, rfl, rfl, rfl, rfl, rfl, rfl, rfl, rfl, rfl, rfl, rfl, rfl, trivial⟩ [] rfl [0, 1, 2] rfl ?_ ?_
                                  · intro y hI
                                    obtain ⟨G6629, v6633, v6634, v6635, v6636⟩ := y
                                    obtain ⟨e6630, B6631, r6638⟩ := hI
                                    try dsimp only at e6630 B6631 r6638
                                    refine Cov.prune [(147, _), (95, _), (2, _), (3, _), (4, _), (5, _), (6, _), (15, _), (16, _), (17, _), (93, _), (94, _), (19, _), (145, _), (146, _), (26, _)] ⟨rfl, rfl, rfl, rfl, rfl, rfl, rfl, rfl, rfl, rfl, rfl, rfl, rfl, rfl, rfl, rfl, trivial⟩ ?_
                                    refine Cov.same (bl' := [(b32, .cells #[.slice a5604 u5596.2.1.length k5605, .int .i64 v6633] 55 (0, 0)), (b5439, .cells #[.int .i64 v6634, .slice a5436 x5431.2.length k5437] 29 (0, 0)), (b50, .cells #[.int .i64 v6635, .slice a44 u36.1.2.length k45] 29 (0, 0)), (b1, .cells #[.int .i64 v6636, .slice a1_1 x1_1.length k1_1] 29 (0, 0))]) (sl' := [_, _, _]) (Fs' := G6629 :: Fs) rfl rfl rfl ?_
                                    unfold law21_FenceDoes_J5 at r6638
                                    try dsimp only at r6638
                                    refine Cov.seq ?_
                                    refine Cov.region rfl ?_
                                    refine Cov.q .ro (.move rfl) rfl ?_
                                    refine Cov.q .ro (.move rfl) rfl ?_
                                    refine Cov.lit [_, _] [(0, _), (1, _)] .ro sl36 ty27 rfl rfl rfl rfl rfl rfl (fun b6657 hb6657 => ?_)
                                    have o6658 : OL (Rep.sl Rep.str) G6629 [.slice a6 x6.length k6, .slice a53 u51.length k54] ([x6, u51] : List (List ByteArray)) := ((OL.cons rfl (Rep.slI (SlR.mono (HpLe.trans (HpLe.trans (HpLe.trans (HpLe.trans (HpLe.trans (HpLe.trans (HpLe.trans (HpLe.trans (HpLe.trans (HpLe.trans e41 e5408) e5445) e5458) e5467) e5472) e5601) e6343) e6414) e6419) e6630) s6)) (OL.cons rfl (Rep.slI (SlR.mono (HpLe.trans (HpLe.trans (HpLe.trans (HpLe.trans (HpLe.trans (HpLe.trans (HpLe.trans (HpLe.trans (HpLe.trans e5408 e5445) e5458) e5467) e5472) e5601) e6343) e6414) e6419) e6630) s56)) (OL.nil (Rp' := (Rep.sl Rep.str))))) :)
                                    refine Cov.reval 228 (n' := ([x6, u51] : List (List ByteArray)).length) rfl rfl ?_
                                    refine Cov.q .ro (.len_sl rfl rfl sl36) rfl ?_
                                    refine Cov.q .ro (.move rfl) rfl ?_
                                    refine Cov.region_end ?_
                                    refine Cov.block ?_
                                    refine Cov.pull 3 rfl [_, _, _, _] rfl ?_
                                    refine Cov.pull 3 rfl [_, _, _, _] rfl ?_
                                    refine Cov.pull 3 rfl [_, _, _, _] rfl ?_
                                    refine Cov.pull 3 rfl [_, _, _, _] rfl ?_
                                    refine Cov.loop2 (α := Nat × List (List ByteArray) × Int × Int × Int × Int) (fun y => [(230, .int .i64 (y.1 : Int))]) [(147, _), (95, _), (2, _), (3, _), (4, _), (5, _), (6, _), (15, _), (16, _), (17, _), (93, _), (94, _), (19, _), (145, _), (146, _), (26, _), (228, _), (229, _)] (fun y => []) (fun y => [(b32, .cells #[.slice a5604 u5596.2.1.length k5605, .int .i64 y.2.2.1] 55 (0, 0)), (b5439, .cells #[.int .i64 y.2.2.2.1, .slice a5436 x5431.2.length k5437] 29 (0, 0)), (b50, .cells #[.int .i64 y.2.2.2.2.1, .slice a44 u36.1.2.length k45] 29 (0, 0)), (b1, .cells #[.int .i64 y.2.2.2.2.2, .slice a1_1 x1_1.length k1_1] 29 (0, 0))]) [] (fun y => []) [_, _, _, _] (fun y => List.drop y.1 ([x6, u51] : List (List ByteArray)) = y.2.1 ∧ law21_FenceDoes_L4 (law21_FenceDoes_L7 (law21_FenceDoes_L10 (law21_FenceDoes_J2 x3 x5) x2 x3 x4 x6 u51 xs5432) x3 x4 x6 u51 u5596.2.1 x5431.2 xs6369) x3 x4 x6368 y.2.1 y.2.2.1 y.2.2.2.1 y.2.2.2.2.1 y.2.2.2.2.2 = some r) (fun y => y.2.1.length) (0, ([x6, u51] : List (List ByteArray)), v6633, v6634, v6635, v6636) ⟨rfl, r6638⟩ ⟨rfl, rfl, rfl, rfl, rfl, rfl, rfl, rfl, rfl, rfl, rfl, rfl, rfl, rfl, rfl, rfl, rfl, rfl, rfl, trivial⟩ rfl rfl rfl (fun y hI hb6778 => ?_)
                                    obtain ⟨i6770, w6771, v6773, v6774, v6775, v6776⟩ := y
                                    obtain ⟨g6772, r6777⟩ := hI
                                    try dsimp only at g6772 r6777
                                    refine Cov.prune [(230, .int .i64 (i6770 : Int)), (147, _), (95, _), (2, _), (3, _), (4, _), (5, _), (6, _), (15, _), (16, _), (17, _), (93, _), (94, _), (19, _), (145, _), (146, _), (26, _), (228, _), (229, _)] ⟨rfl, rfl, rfl, rfl, rfl, rfl, rfl, rfl, rfl, rfl, rfl, rfl, rfl, rfl, rfl, rfl, rfl, rfl, rfl, trivial⟩ ?_
                                    refine Cov.same (bl' := [(b32, .cells #[.slice a5604 u5596.2.1.length k5605, .int .i64 v6773] 55 (0, 0)), (b5439, .cells #[.int .i64 v6774, .slice a5436 x5431.2.length k5437] 29 (0, 0)), (b50, .cells #[.int .i64 v6775, .slice a44 u36.1.2.length k45] 29 (0, 0)), (b1, .cells #[.int .i64 v6776, .slice a1_1 x1_1.length k1_1] 29 (0, 0))]) (sl' := [_, _, _, _]) (Fs' := G6629 :: Fs) rfl rfl rfl ?_
                                    cases w6771 with
                                    | nil =>
                                      rw [law21_FenceDoes_L4] at r6777; try dsimp only at r6777
                                      refine Cov.seq ?_
                                      refine Cov.region rfl ?_
                                      refine Cov.q .ro (.lss rfl rfl) rfl ?_
                                      refine Cov.region_end ?_
                                      refine Cov.seq ?_
                                      refine Cov.cond_dec rfl (fun c => absurd c (drop_nil g6772)) (fun _ => ?_)
                                      refine Cov.exit rfl ?_
                                      refine Cov.inBlock ?_
                                      refine Cov.region rfl ?_
                                      refine Cov.q .ro (.addw rfl rfl) rfl ?_
                                      refine Cov.q .ro (.move rfl) rfl ?_
                                      refine Cov.region_end ?_
                                      refine Cov.drop 0 2 _ [_, _] rfl rfl ?_
                                      refine Cov.prune _ ?_ (Cov.same rfl rfl rfl (hb6351 ((i6339 + 1), xs6369, G6629, v6773, v6774, v6775, v6776) ⟨(HpLe.trans (HpLe.trans (HpLe.trans e6343 e6414) e6419) e6630), B6631, (drop_succ g6341), r6777⟩ (Nat.lt_succ_self _)))
                                      exact ⟨(congrArg (fun z => some (Value.int .i64 z)) (idx_wrap (OL.len' o5608) g6341)), rfl, rfl, rfl, rfl, rfl, rfl, rfl, rfl, rfl, rfl, rfl, rfl, rfl, rfl, trivial⟩
                                    | cons x6800 xs6801 =>
                                      have r6799 : law21_FenceDoes_B4 (law21_FenceDoes_L7 (law21_FenceDoes_L10 (law21_FenceDoes_J2 x3 x5) x2 x3 x4 x6 u51 xs5432) x3 x4 x6 u51 u5596.2.1 x5431.2 xs6369) x3 x4 x6368 (law21_FenceDoes_L4 (law21_FenceDoes_L7 (law21_FenceDoes_L10 (law21_FenceDoes_J2 x3 x5) x2 x3 x4 x6 u51 xs5432) x3 x4 x6 u51 u5596.2.1 x5431.2 xs6369) x3 x4 x6368 xs6801) x6800 v6773 v6774 v6775 v6776 = some r := r6777; clear r6777; unfold law21_FenceDoes_B4 at r6799; try dsimp only at r6799
                                      refine Cov.seq ?_
                                      refine Cov.region rfl ?_
                                      refine Cov.q .ro (.lss rfl rfl) rfl ?_
                                      refine Cov.region_end ?_
                                      refine Cov.seq ?_
                                      refine Cov.cond_dec rfl (fun _ => ?_) (fun c => absurd (drop_lt g6772) c)
                                      refine Cov.skip ?_
                                      refine Cov.seq ?_
                                      refine Cov.block ?_
                                      refine Cov.seq ?_
                                      refine Cov.region rfl ?_
                                      obtain ⟨c6802, p6803, h6804⟩ := OL.get o6658 (drop_idx g6772)
                                      obtain ⟨a6805, k6806, rfl, s6807⟩ := h6804
                                      refine Cov.q .ro (.idxO 0 rfl rfl rfl (drop_idx g6772) sl36 ty27.sz) rfl ?_
                                      refine Cov.q .ro (.loadO 0 0 rfl (drop_idx g6772) p6803 rfl (.inl ⟨rfl, rfl⟩) ty27 rfl) rfl ?_
                                      refine Cov.q .ro (.assign rfl) rfl ?_
                                      refine Cov.region_end ?_
                                      refine Cov.seq ?_
                                      refine Cov.drawL (.q 0 (.q 1 (.q 2 (.q 3 (.q 4 (.q 5 (.q 10 (.e 6 1 (.q 7 (.e 8 1 (.q 9 .nil))))))))))) [_, _, _, _] (by kernel_rfl) (by kernel_rfl) (pick_mem [0, 1, 2, 3] rfl) ?_
                                      refine Cov.dq (.move rfl) rfl ?_
                                      refine Cov.dq (.move rfl) rfl ?_
                                      refine Cov.dq (.build_a [_, _] [(0, _), (1, _)] ty49 ar49 ty3.sz rfl rfl) rfl ?_
                                      refine Cov.dq (.fieldAddr 0 rfl fl29_0 ty3.sz rfl) rfl ?_
                                      refine Cov.dq (.load_own 2 rfl rfl ty3 rfl) rfl ?_
                                      refine Cov.dq (.move rfl) rfl ?_
                                      refine Cov.dq (.move rfl) rfl ?_
                                      obtain ⟨u6808, hu6808, r6809⟩ := bind_some r6799; clear r6799
                                      refine Cov.callS (b1 := []) (b2 := [_, _, _, _]) (s1 := []) [_, _] [] .d1 rfl rfl Try.call23 rfl rfl (make_Mod_c (G := G6629) List.mem_cons_self  hu6808) rfl (fun v6811 bo so h6810 => ?_)
                                      obtain ⟨rfl, rfl, rfl⟩ := h6810
                                      refine Cov.same (bl' := [_, _, _, _]) (sl' := [_, _, _, _]) rfl rfl rfl ?_
                                      refine Cov.clsL (HpLe.refl _) (pick_mem [0, 1, 2, 3] rfl) ?_
                                      refine Cov.dq (.build_a [_, _] [(0, _), (1, _)] ty49 ar49 ty3.sz rfl rfl) rfl ?_
                                      refine Cov.lit [_, _, _, _] [(0, _), (1, _)] .d1 sl50 ty49 rfl rfl rfl rfl rfl rfl (fun b6812 hb6812 => ?_)
                                      have o6813 : OL (Rep.pair (Rep.int .i64) (Rep.int .i64)) G6629 [.int .i64 x3, .int .i64 x4, .int .i64 v6775, .int .i64 u6808] ([(x3, x4), (v6775, u6808)] : List (Int × Int)) := ((OL.cons rfl (Rep.pairI (Rep.intI .i64 x3) (Rep.intI .i64 x4)) (OL.cons rfl (Rep.pairI (Rep.intI .i64 v6775) (Rep.intI .i64 u6808)) (OL.nil (Rp' := (Rep.pair (Rep.int .i64) (Rep.int .i64)))))) :)
                                      refine Cov.reval 242 (n' := ([(x3, x4), (v6775, u6808)] : List (Int × Int)).length) rfl rfl ?_
                                      refine Cov.clsL (HpLe.refl _) (pick_mem [0, 1, 2, 3] rfl) ?_
                                      refine Cov.dq (.len_sl rfl rfl sl50) rfl ?_
                                      refine Cov.draw_end ?_
                                      refine Cov.block ?_
                                      refine Cov.loop2 (α := Nat × (List (Int × Int))) (fun y => [(244, .int .i64 (y.1 : Int))]) [(230, _), (147, _), (95, _), (2, _), (3, _), (4, _), (5, _), (6, _), (15, _), (16, _), (17, _), (93, _), (94, _), (19, _), (145, _), (146, _), (26, _), (228, _), (229, _), (44, _), (242, _), (243, _)] (fun y => []) (fun y => []) [_, _, _, _] (fun y => []) [_, _, _, _, _] (fun y => List.drop y.1 ([(x3, x4), (v6775, u6808)] : List (Int × Int)) = y.2 ∧ law21_FenceDoes_L3 (law21_FenceDoes_L4 (law21_FenceDoes_L7 (law21_FenceDoes_L10 (law21_FenceDoes_J2 x3 x5) x2 x3 x4 x6 u51 xs5432) x3 x4 x6 u51 u5596.2.1 x5431.2 xs6369) x3 x4 x6368 xs6801) x6368 x6800 v6773 v6774 v6775 v6776 y.2  = some r) (fun y => y.2.length) (0, ([(x3, x4), (v6775, u6808)] : List (Int × Int))) ⟨rfl, r6809⟩ ⟨rfl, rfl, rfl, rfl, rfl, rfl, rfl, rfl, rfl, rfl, rfl, rfl, rfl, rfl, rfl, rfl, rfl, rfl, rfl, rfl, rfl, rfl, rfl, trivial⟩ rfl rfl rfl (fun y hI hb6850 => ?_)
                                      obtain ⟨i6846, w6847⟩ := y
                                      obtain ⟨g6848, r6849⟩ := hI
                                      try dsimp only at g6848 r6849
                                      refine Cov.prune [(244, .int .i64 (i6846 : Int)), (230, _), (147, _), (95, _), (2, _), (3, _), (4, _), (5, _), (6, _), (15, _), (16, _), (17, _), (93, _), (94, _), (19, _), (145, _), (146, _), (26, _), (228, _), (229, _), (44, _), (242, _), (243, _)] ⟨rfl, rfl, rfl, rfl, rfl, rfl, rfl, rfl, rfl, rfl, rfl, rfl, rfl, rfl, rfl, rfl, rfl, rfl, rfl, rfl, rfl, rfl, rfl, trivial⟩ ?_
                                      refine Cov.same (bl' := [_, _, _, _]) (sl' := [_, _, _, _, _]) (Fs' := G6629 :: Fs) rfl rfl rfl ?_
                                      cases w6847 with
                                      | nil =>
                                        rw [law21_FenceDoes_L3] at r6849; try dsimp only at r6849
                                        refine Cov.seq ?_
                                        refine Cov.region rfl ?_
                                        refine Cov.q .ro (.lss rfl rfl) rfl ?_
                                        refine Cov.region_end ?_
                                        refine Cov.seq ?_
                                        refine Cov.cond_dec rfl (fun c => absurd c (drop_nil g6848)) (fun _ => ?_)
                                        refine Cov.exit rfl ?_
                                        refine Cov.inBlock ?_
                                        refine Cov.region rfl ?_
                                        refine Cov.q .ro (.addw rfl rfl) rfl ?_
                                        refine Cov.q .ro (.move rfl) rfl ?_
                                        refine Cov.region_end ?_
                                        refine Cov.drop 0 1 _ [_, _, _, _] rfl rfl ?_
                                        refine Cov.prune _ ?_ (Cov.same rfl rfl rfl (hb6778 ((i6770 + 1), xs6801, v6773, v6774, v6775, v6776) ⟨(drop_succ g6772), r6849⟩ (Nat.lt_succ_self _)))
                                        exact ⟨(congrArg (fun z => some (Value.int .i64 z)) (idx_wrap (OL.len' o6658) g6772)), rfl, rfl, rfl, rfl, rfl, rfl, rfl, rfl, rfl, rfl, rfl, rfl, rfl, rfl, rfl, rfl, rfl, rfl, trivial⟩
                                      | cons x6880 xs6881 =>
                                        have r6879 : law21_FenceDoes_B3 (law21_FenceDoes_L4 (law21_FenceDoes_L7 (law21_FenceDoes_L10 (law21_FenceDoes_J2 x3 x5) x2 x3 x4 x6 u51 xs5432) x3 x4 x6 u51 u5596.2.1 x5431.2 xs6369) x3 x4 x6368 xs6801) x6368 x6800 v6773 v6774 v6775 v6776 (law21_FenceDoes_L3 (law21_FenceDoes_L4 (law21_FenceDoes_L7 (law21_FenceDoes_L10 (law21_FenceDoes_J2 x3 x5) x2 x3 x4 x6 u51 xs5432) x3 x4 x6 u51 u5596.2.1 x5431.2 xs6369) x3 x4 x6368 xs6801) x6368 x6800 v6773 v6774 v6775 v6776 xs6881) x6880  = some r := r6849; clear r6849; unfold law21_FenceDoes_B3 at r6879; try dsimp only at r6879
                                        refine Cov.seq ?_
                                        refine Cov.region rfl ?_
                                        refine Cov.q .ro (.lss rfl rfl) rfl ?_
                                        refine Cov.region_end ?_
                                        refine Cov.seq ?_
                                        refine Cov.cond_dec rfl (fun _ => ?_) (fun c => absurd (drop_lt g6848) c)
                                        refine Cov.skip ?_
                                        refine Cov.seq ?_
                                        refine Cov.block ?_
                                        refine Cov.seq ?_
                                        refine Cov.region rfl ?_
                                        obtain ⟨c6882, p6883, h6884⟩ := OL.get o6813 (drop_idx g6848)
                                        obtain ⟨_, _, rfl, rfl, rfl⟩ := h6884
                                        refine Cov.q .ro (.idxO 0 rfl rfl rfl (drop_idx g6848) sl50 ty49.sz) rfl ?_
                                        refine Cov.q .ro (.loadO_a 0 0 [_, _] rfl (drop_idx g6848) p6883 rfl (.inl ⟨rfl, rfl⟩) ty49 rfl) rfl ?_
                                        refine Cov.alloc .ro ty49 rfl (fun b6885 hb6885 => ?_)
                                        refine Cov.store 0 [_, _] [_, _, _, _, _] .ro rfl rfl rfl ty49 rfl rfl rfl rfl ?_
                                        refine Cov.region_end ?_
                                        refine Cov.seq ?_
                                        refine Cov.region rfl ?_
                                        refine Cov.q .ro (.indexAddr_ar 0 rfl rfl ar49 ty3.sz (by decide) (by decide) rfl) rfl ?_
                                        refine Cov.q .ro (.load_own 0 rfl rfl ty3 rfl) rfl ?_
                                        refine Cov.q .ro (.indexAddr_ar 1 rfl rfl ar49 ty3.sz (by decide) (by decide) rfl) rfl ?_
                                        refine Cov.q .ro (.load_own 0 rfl rfl ty3 rfl) rfl ?_
                                        refine Cov.q .ro (.move rfl) rfl ?_
                                        refine Cov.q .ro (.move rfl) rfl ?_
                                        obtain ⟨u6886, hu6886, r6887⟩ := bind_some r6879; clear r6879
                                        refine Cov.callS (b1 := []) (b2 := [_, _, _, _, _]) (s1 := []) [_, _, _, _] [] .ro rfl rfl Try.call25 rfl rfl (fence_Next_c (G := G6629) List.mem_cons_self s6807 hu6886) rfl (fun v6889 bo so h6888 => ?_)
                                        obtain ⟨rfl, rfl, rfl⟩ := h6888
                                        refine Cov.same (bl' := [_, _, _, _, _]) (sl' := [_, _, _, _, _]) rfl rfl rfl ?_
                                        refine Cov.q .ro (.move rfl) rfl ?_
                                        refine Cov.q .ro (.extract rfl rfl) rfl ?_
                                        refine Cov.q .ro (.extract rfl rfl) rfl ?_
                                        refine Cov.q .ro (.assign rfl) rfl ?_
                                        refine Cov.q .ro (.assign rfl) rfl ?_
                                        refine Cov.region_end ?_
                                        refine Cov.prune [(244, _), (230, _), (147, _), (95, _), (2, _), (3, _), (4, _), (5, _), (6, _), (15, _), (16, _), (17, _), (93, _), (94, _), (19, _), (145, _), (146, _), (26, _), (228, _), (229, _), (44, _), (242, _), (243, _), (46, _), (47, _), (48, _)] ⟨rfl, rfl, rfl, rfl, rfl, rfl, rfl, rfl, rfl, rfl, rfl, rfl, rfl, rfl, rfl, rfl, rfl, rfl, rfl, rfl, rfl, rfl, rfl, rfl, rfl, rfl, trivial⟩ ?_
                                        refine Cov.seq ?_
                                        refine Cov.region rfl ?_
                                        refine Cov.q .ro (.indexAddr_ar 0 rfl rfl ar49 ty3.sz (by decide) (by decide) rfl) rfl ?_
                                        refine Cov.q .ro (.load_own 0 rfl rfl ty3 rfl) rfl ?_
                                        refine Cov.q .ro (.indexAddr_ar 1 rfl rfl ar49 ty3.sz (by decide) (by decide) rfl) rfl ?_
                                        refine Cov.q .ro (.load_own 0 rfl rfl ty3 rfl) rfl ?_
                                        refine Cov.q .ro (.move rfl) rfl ?_
                                        refine Cov.q .ro (.move rfl) rfl ?_
                                        obtain ⟨u6890, hu6890, r6891⟩ := bind_some r6887; clear r6887
                                        refine Cov.callS (b1 := []) (b2 := [_, _, _, _, _]) (s1 := []) [_, _, _, _] [] .ro rfl rfl Try.call26 rfl rfl (ref21_Next_c (G := G6629) List.mem_cons_self s6807 hu6890) rfl (fun v6893 bo so h6892 => ?_)
                                        obtain ⟨rfl, rfl, rfl⟩ := h6892
                                        refine Cov.same (bl' := [_, _, _, _, _]) (sl' := [_, _, _, _, _]) rfl rfl rfl ?_
                                        refine Cov.q .ro (.move rfl) rfl ?_
                                        refine Cov.q .ro (.extract rfl rfl) rfl ?_
                                        refine Cov.q .ro (.extract rfl rfl) rfl ?_
                                        refine Cov.q .ro (.assign rfl) rfl ?_
                                        refine Cov.q .ro (.assign rfl) rfl ?_
                                        refine Cov.region_end ?_
                                        refine Cov.seq ?_
                                        refine Cov.region rfl ?_
                                        refine Cov.q .ro (.move rfl) rfl ?_
                                        refine Cov.q .ro (.move rfl) rfl ?_
                                        refine Cov.q .ro (.neq rfl rfl) rfl ?_
                                        refine Cov.q .ro (.move rfl) rfl ?_
                                        refine Cov.cutR 4 (β := Unit) (fun y => [(275, .bool (decide ((u6886.1 ≠ u6890.1) ∨ (u6886.2 ≠ u6890.2))))]) [(244, _), (230, _), (147, _), (95, _), (2, _), (3, _), (4, _), (5, _), (6, _), (15, _), (16, _), (17, _), (93, _), (94, _), (19, _), (145, _), (146, _), (26, _), (228, _), (229, _), (44, _), (242, _), (243, _)] (fun y => G6629 :: Fs) (fun y => []) [_, _, _, _, _] (fun y => []) [_, _, _, _, _] (fun y => True) ⟨rfl, rfl, rfl, rfl, rfl, rfl, rfl, rfl, rfl, rfl, rfl, rfl, rfl, rfl, rfl, rfl, rfl, rfl, rfl, rfl, rfl, rfl, rfl, trivial⟩ [0, 1, 2, 3, 4] rfl [0, 1, 2, 3, 4] rfl ?_ ?_
                                        · rintro _ _
                                          refine Cov.prune [(275, .bool (decide ((u6886.1 ≠ u6890.1) ∨ (u6886.2 ≠ u6890.2)))), (244, _), (230, _), (147, _), (95, _), (2, _), (3, _), (4, _), (5, _), (6, _), (15, _), (16, _), (17, _), (93, _), (94, _), (19, _), (145, _), (146, _), (26, _), (228, _), (229, _), (44, _), (242, _), (243, _)] ⟨rfl, rfl, rfl, rfl, rfl, rfl, rfl, rfl, rfl, rfl, rfl, rfl, rfl, rfl, rfl, rfl, rfl, rfl, rfl, rfl, rfl, rfl, rfl, rfl, trivial⟩ ?_
                                          refine Cov.same (bl' := [_, _, _, _, _]) (sl' := [_, _, _, _, _]) (Fs' := G6629 :: Fs) rfl rfl rfl ?_
                                          refine Cov.region_end ?_
                                          refine Cov.cond_dec rfl (fun c6898 => ?_) (fun c6898 => ?_)
                                          · have r6899 := ifT r6891 c6898; clear r6891
                                            refine Cov.seq ?_
                                            refine Cov.region rfl ?_
                                            refine Cov.q .ro (.assign rfl) rfl ?_
                                            refine Cov.region_end ?_
                                            refine Cov.prune [(14, _)] ⟨rfl, trivial⟩ ?_
                                            cases r6899
                                            refine Cov.drop 5 0 [] _ rfl rfl ?_
                                            refine Cov.drop 0 5 _ [] rfl rfl ?_
                                            refine Cov.retS (c := ⟨6, none⟩) (.inr ⟨_, rfl⟩) [.tmp 14] [_] rfl Try.func6 Try.results6 ⟨RV.tmp rfl, trivial⟩ (fun _ h => List.mem_cons_of_mem _ h) ⟨rfl, rfl, rfl⟩
                                          · have r6900 := ifF r6891 c6898; clear r6891
                                            refine Cov.skip ?_
                                            refine Cov.inBlock ?_
                                            refine Cov.region rfl ?_
                                            refine Cov.q .ro (.addw rfl rfl) rfl ?_
                                            refine Cov.q .ro (.move rfl) rfl ?_
                                            refine Cov.region_end ?_
                                            refine Cov.drop 1 0 [_, _, _, _] _ rfl rfl ?_
                                            refine Cov.prune _ ?_ (Cov.same rfl rfl rfl (hb6850 ((i6846 + 1), xs6881) ⟨(drop_succ g6848), r6900⟩ (Nat.lt_succ_self _)))
                                            exact ⟨(congrArg (fun z => some (Value.int .i64 z)) (idx_wrap (OL.len' o6813) g6848)), rfl, rfl, rfl, rfl, rfl, rfl, rfl, rfl, rfl, rfl, rfl, rfl, rfl, rfl, rfl, rfl, rfl, rfl, rfl, rfl, rfl, rfl, trivial⟩
                                        · intro hb6895
                                          refine Cov.split 271 rfl (fun c6894 => ?_) (fun c6894 => ?_)
                                          · refine Cov.g_off rfl rfl rfl ?_
                                            refine Cov.g_off rfl rfl rfl ?_
                                            refine Cov.g_off rfl rfl rfl ?_
                                            refine Cov.q .ro (.pick_t rfl rfl) rfl ?_
                                            refine Cov.prune _ ?_ (Cov.same rfl rfl rfl (hb6895 () trivial))
                                            exact ⟨dor_t c6894, rfl, rfl, rfl, rfl, rfl, rfl, rfl, rfl, rfl, rfl, rfl, rfl, rfl, rfl, rfl, rfl, rfl, rfl, rfl, rfl, rfl, rfl, rfl, trivial⟩
                                          · refine Cov.g_on rfl ?_
                                            refine Cov.q .ro (.move rfl) rfl ?_
                                            refine Cov.g_on rfl ?_
                                            refine Cov.q .ro (.move rfl) rfl ?_
                                            refine Cov.g_on rfl ?_
                                            refine Cov.q .ro (.neq rfl rfl) rfl ?_
                                            refine Cov.q .ro (.pick_f rfl rfl) rfl ?_
                                            refine Cov.prune _ ?_ (Cov.same rfl rfl rfl (hb6895 () trivial))
                                            exact ⟨dor_f c6894, rfl, rfl, rfl, rfl, rfl, rfl, rfl, rfl, rfl, rfl, rfl, rfl, rfl, rfl, rfl, rfl, rfl, rfl, rfl, rfl, rfl, rfl, rfl, trivial⟩
                                  · intro hb6901
                                    refine Cov.block ?_
                                    refine Cov.loop2 (α := Nat × List Int × Hp) (fun y => [(191, .int .i64 (y.1 : Int))]) [(147, _), (95, _), (2, _), (3, _), (4, _), (5, _), (6, _), (15, _), (16, _), (17, _), (93, _), (94, _), (19, _), (145, _), (146, _), (26, _), (189, _), (190, _)] (fun y => [y.2.2]) (fun y => []) [_, _, _, _] (fun y => []) [_, _, _] (fun y => HpLe G6418 y.2.2 ∧ Bd w0 S0 Fs y.2.2 ∧ List.drop y.1 ([x3, u6437] : List Int) = y.2.1 ∧ law21_FenceDoes_L6 (law21_FenceDoes_J5 (law21_FenceDoes_L7 (law21_FenceDoes_L10 (law21_FenceDoes_J2 x3 x5) x2 x3 x4 x6 u51 xs5432) x3 x4 x6 u51 u5596.2.1 x5431.2 xs6369) x3 x4 x6 u51 x6368) x6368 v6346 v6347 x5431.2 v6348 v6349 y.2.1  = some r) (fun y => y.2.1.length) (0, ([x3, u6437] : List Int), G6418) ⟨(HpLe.refl _), B6420, rfl, r6438⟩ ⟨rfl, rfl, rfl, rfl, rfl, rfl, rfl, rfl, rfl, rfl, rfl, rfl, rfl, rfl, rfl, rfl, rfl, rfl, rfl, trivial⟩ rfl rfl rfl (fun y hI hb6991 => ?_)
                                    obtain ⟨i6983, w6984, G6986⟩ := y
                                    obtain ⟨e6987, B6988, g6985, r6990⟩ := hI
                                    try dsimp only at e6987 B6988 g6985 r6990
                                    refine Cov.prune [(191, .int .i64 (i6983 : Int)), (147, _), (95, _), (2, _), (3, _), (4, _), (5, _), (6, _), (15, _), (16, _), (17, _), (93, _), (94, _), (19, _), (145, _), (146, _), (26, _), (189, _), (190, _)] ⟨rfl, rfl, rfl, rfl, rfl, rfl, rfl, rfl, rfl, rfl, rfl, rfl, rfl, rfl, rfl, rfl, rfl, rfl, rfl, trivial⟩ ?_
                                    refine Cov.same (bl' := [_, _, _, _]) (sl' := [_, _, _]) (Fs' := G6986 :: Fs) rfl rfl rfl ?_
                                    cases w6984 with
                                    | nil =>
                                      rw [law21_FenceDoes_L6] at r6990; try dsimp only at r6990
                                      refine Cov.seq ?_
                                      refine Cov.region rfl ?_
                                      refine Cov.q .ro (.lss rfl rfl) rfl ?_
                                      refine Cov.region_end ?_
                                      refine Cov.seq ?_
                                      refine Cov.cond_dec rfl (fun c => absurd c (drop_nil g6985)) (fun _ => ?_)
                                      refine Cov.exit rfl ?_
                                      refine Cov.prune _ ?_ (Cov.same rfl rfl rfl (hb6901 (G6986, v6346, v6347, v6348, v6349) ⟨e6987, B6988, r6990⟩))
                                      exact ⟨rfl, rfl, rfl, rfl, rfl, rfl, rfl, rfl, rfl, rfl, rfl, rfl, rfl, rfl, rfl, rfl, trivial⟩
                                    | cons x7016 xs7017 =>
                                      have r7015 : law21_FenceDoes_B6 (law21_FenceDoes_J5 (law21_FenceDoes_L7 (law21_FenceDoes_L10 (law21_FenceDoes_J2 x3 x5) x2 x3 x4 x6 u51 xs5432) x3 x4 x6 u51 u5596.2.1 x5431.2 xs6369) x3 x4 x6 u51 x6368) x6368 v6346 v6347 x5431.2 v6348 v6349 (law21_FenceDoes_L6 (law21_FenceDoes_J5 (law21_FenceDoes_L7 (law21_FenceDoes_L10 (law21_FenceDoes_J2 x3 x5) x2 x3 x4 x6 u51 xs5432) x3 x4 x6 u51 u5596.2.1 x5431.2 xs6369) x3 x4 x6 u51 x6368) x6368 v6346 v6347 x5431.2 v6348 v6349 xs7017) x7016  = some r := r6990; clear r6990; unfold law21_FenceDoes_B6 at r7015; try dsimp only at r7015
                                      refine Cov.seq ?_
                                      refine Cov.region rfl ?_
                                      refine Cov.q .ro (.lss rfl rfl) rfl ?_
                                      refine Cov.region_end ?_
                                      refine Cov.seq ?_
                                      refine Cov.cond_dec rfl (fun _ => ?_) (fun c => absurd (drop_lt g6985) c)
                                      refine Cov.skip ?_
                                      refine Cov.seq ?_
                                      refine Cov.block ?_
                                      refine Cov.seq ?_
                                      refine Cov.region rfl ?_
                                      obtain ⟨c7018, p7019, h7020⟩ := OL.get (OL.mono e6987 o6442) (drop_idx g6985)
                                      obtain rfl := h7020
                                      refine Cov.q .ro (.idxO 0 rfl rfl rfl (drop_idx g6985) sl22 ty3.sz) rfl ?_
                                      refine Cov.q .ro (.loadO 0 0 rfl (drop_idx g6985) p7019 rfl (.inl ⟨rfl, rfl⟩) ty3 rfl) rfl ?_
                                      refine Cov.q .ro (.assign rfl) rfl ?_
                                      refine Cov.region_end ?_
                                      refine Cov.seq ?_
                                      refine Cov.region rfl ?_
                                      refine Cov.q .ro (.load_own_a 1 [_, _] rfl rfl ty29 rfl) rfl ?_
                                      refine Cov.q .ro (.move rfl) rfl ?_
                                      refine Cov.q .ro (.move rfl) rfl ?_
                                      obtain ⟨u7021, hu7021, r7022⟩ := bind_some r7015; clear r7015
                                      refine Cov.callS (b1 := []) (b2 := [_, _, _, _]) (s1 := []) [_, _, _] [] .ro rfl rfl Try.call13 rfl rfl (fence_Range_c (G := G6986) List.mem_cons_self (SlR.mono (HpLe.trans (HpLe.trans (HpLe.trans (HpLe.trans (HpLe.trans (HpLe.trans (HpLe.trans (HpLe.trans e5445 e5458) e5467) e5472) e5601) e6343) e6414) e6419) e6987) s5438) hu7021) rfl (fun v7024 bo so h7023 => ?_)
                                      obtain ⟨a7026, k7027, cs7028, rfl, rfl, rfl, o7029⟩ := h7023
                                      refine Cov.same (bl' := [_, _, _, _]) (sl' := [_, _, _, _]) rfl rfl rfl ?_
                                      refine Cov.q .ro (.move rfl) rfl ?_
                                      refine Cov.q .ro (.extract rfl rfl) rfl ?_
                                      refine Cov.q .ro (.extract rfl rfl) rfl ?_
                                      refine Cov.q .ro (.extract rfl rfl) rfl ?_
                                      refine Cov.q .ro (.assign rfl) rfl ?_
                                      refine Cov.q .ro (.assign rfl) rfl ?_
                                      refine Cov.q .ro (.assign rfl) rfl ?_
                                      refine Cov.region_end ?_
                                      refine Cov.seq ?_
                                      refine Cov.region rfl ?_
                                      refine Cov.q .ro (.load_own_a 1 [_, _] rfl rfl ty29 rfl) rfl ?_
                                      refine Cov.q .ro (.move rfl) rfl ?_
                                      refine Cov.q .ro (.move rfl) rfl ?_
                                      obtain ⟨u7030, hu7030, r7031⟩ := bind_some r7022; clear r7022
                                      refine Cov.callS (b1 := []) (b2 := [_, _, _, _]) (s1 := []) [_, _, _] [] .ro rfl rfl Try.call24 rfl rfl (ref21_Range_c (G := G6986) List.mem_cons_self (SlR.mono (HpLe.trans (HpLe.trans (HpLe.trans (HpLe.trans (HpLe.trans (HpLe.trans (HpLe.trans (HpLe.trans e5445 e5458) e5467) e5472) e5601) e6343) e6414) e6419) e6987) s5438) hu7030) rfl (fun v7033 bo so h7032 => ?_)
                                      obtain ⟨a7035, k7036, cs7037, rfl, rfl, rfl, o7038⟩ := h7032
                                      refine Cov.same (bl' := [_, _, _, _]) (sl' := [_, _, _, _, _]) rfl rfl rfl ?_
                                      refine Cov.q .ro (.move rfl) rfl ?_
                                      refine Cov.q .ro (.extract rfl rfl) rfl ?_
                                      refine Cov.q .ro (.extract rfl rfl) rfl ?_
                                      refine Cov.q .ro (.extract rfl rfl) rfl ?_
                                      refine Cov.q .ro (.assign rfl) rfl ?_
                                      refine Cov.q .ro (.assign rfl) rfl ?_
                                      refine Cov.q .ro (.assign rfl) rfl ?_
                                      refine Cov.region_end ?_
                                      refine Cov.prune [(191, _), (147, _), (95, _), (2, _), (3, _), (4, _), (5, _), (6, _), (15, _), (16, _), (17, _), (93, _), (94, _), (19, _), (145, _), (146, _), (26, _), (189, _), (190, _), (37, _), (38, _), (39, _), (40, _), (41, _), (42, _)] ⟨rfl, rfl, rfl, rfl, rfl, rfl, rfl, rfl, rfl, rfl, rfl, rfl, rfl, rfl, rfl, rfl, rfl, rfl, rfl, rfl, rfl, rfl, rfl, rfl, rfl, trivial⟩ ?_
                                      refine Cov.seq ?_
                                      refine Cov.region rfl ?_
                                      refine Cov.q .ro (.move rfl) rfl ?_
                                      refine Cov.q .ro (.move rfl) rfl ?_
                                      refine Cov.q .ro (.neq rfl rfl) rfl ?_
                                      refine Cov.q .ro (.move rfl) rfl ?_
                                      refine Cov.cutR 4 (β := Unit) (fun y => [(218, .bool (decide ((u7021.2.2 ≠ u7030.2.2) ∨ (u7021.2.1 ≠ u7030.2.1))))]) [(191, _), (147, _), (95, _), (2, _), (3, _), (4, _), (5, _), (6, _), (15, _), (16, _), (17, _), (93, _), (94, _), (19, _), (145, _), (146, _), (26, _), (189, _), (190, _), (37, _), (40, _)] (fun y => G6986 :: Fs) (fun y => []) [_, _, _, _] (fun y => []) [_, _, _, _, _] (fun y => True) ⟨rfl, rfl, rfl, rfl, rfl, rfl, rfl, rfl, rfl, rfl, rfl, rfl, rfl, rfl, rfl, rfl, rfl, rfl, rfl, rfl, rfl, trivial⟩ [0, 1, 2, 3] rfl [0, 1, 2, 3, 4] rfl ?_ ?_
                                      · rintro _ _
                                        refine Cov.prune [(218, .bool (decide ((u7021.2.2 ≠ u7030.2.2) ∨ (u7021.2.1 ≠ u7030.2.1)))), (191, _), (147, _), (95, _), (2, _), (3, _), (4, _), (5, _), (6, _), (15, _), (16, _), (17, _), (93, _), (94, _), (19, _), (145, _), (146, _), (26, _), (189, _), (190, _), (37, _), (40, _)] ⟨rfl, rfl, rfl, rfl, rfl, rfl, rfl, rfl, rfl, rfl, rfl, rfl, rfl, rfl, rfl, rfl, rfl, rfl, rfl, rfl, rfl, rfl, trivial⟩ ?_
                                        refine Cov.same (bl' := [_, _, _, _]) (sl' := [_, _, _, _, _]) (Fs' := G6986 :: Fs) rfl rfl rfl ?_
                                        refine Cov.q .ro (.move rfl) rfl ?_
                                        refine Cov.freezeR 0 rfl rfl o7038 [_, _, _, _] rfl B6988 (fun G7057 e7058 B7059 s7060 => ?_)
                                        refine Cov.freezeR 0 rfl rfl (OL.mono e7058 o7029) [_, _, _] rfl B7059 (fun G7062 e7063 B7064 s7065 => ?_)
                                        obtain ⟨u7073, h7074, r7075⟩ := bind_some r7031; clear r7031
                                        refine Cov.cutR 5 (β := Unit) (fun y => [(224, .bool u7073)]) [(191, _), (147, _), (95, _), (2, _), (3, _), (4, _), (5, _), (6, _), (15, _), (16, _), (17, _), (93, _), (94, _), (19, _), (145, _), (146, _), (26, _), (189, _), (190, _)] (fun y => G7062 :: Fs) (fun y => []) [_, _, _, _] (fun y => []) [_, _, _] (fun y => True) ⟨rfl, rfl, rfl, rfl, rfl, rfl, rfl, rfl, rfl, rfl, rfl, rfl, rfl, rfl, rfl, rfl, rfl, rfl, rfl, trivial⟩ [0, 1, 2, 3] rfl [0, 1, 2] rfl ?_ ?_
                                        · rintro _ _
                                          refine Cov.prune [(224, .bool u7073), (191, _), (147, _), (95, _), (2, _), (3, _), (4, _), (5, _), (6, _), (15, _), (16, _), (17, _), (93, _), (94, _), (19, _), (145, _), (146, _), (26, _), (189, _), (190, _)] ⟨rfl, rfl, rfl, rfl, rfl, rfl, rfl, rfl, rfl, rfl, rfl, rfl, rfl, rfl, rfl, rfl, rfl, rfl, rfl, rfl, trivial⟩ ?_
                                          refine Cov.same (bl' := [_, _, _, _]) (sl' := [_, _, _]) (Fs' := G7062 :: Fs) rfl rfl rfl ?_
                                          refine Cov.region_end ?_
                                          refine Cov.cond rfl (fun c7078 => ?_) (fun c7078 => ?_)
                                          · have r7079 := ifT r7075 c7078; clear r7075
                                            refine Cov.seq ?_
                                            refine Cov.region rfl ?_
                                            refine Cov.q .ro (.assign rfl) rfl ?_
                                            refine Cov.region_end ?_
                                            refine Cov.prune [(14, _)] ⟨rfl, trivial⟩ ?_
                                            cases r7079
                                            refine Cov.drop 4 0 [] _ rfl rfl ?_
                                            refine Cov.drop 0 3 _ [] rfl rfl ?_
                                            refine Cov.retS (c := ⟨6, none⟩) (.inr ⟨_, rfl⟩) [.tmp 14] [_] rfl Try.func6 Try.results6 ⟨RV.tmp rfl, trivial⟩ (fun _ h => List.mem_cons_of_mem _ h) ⟨rfl, rfl, rfl⟩
                                          · have r7080 := ifBF r7075 c7078; clear r7075
                                            refine Cov.skip ?_
                                            refine Cov.inBlock ?_
                                            refine Cov.region rfl ?_
                                            refine Cov.q .ro (.addw rfl rfl) rfl ?_
                                            refine Cov.q .ro (.move rfl) rfl ?_
                                            refine Cov.region_end ?_
                                            refine Cov.prune _ ?_ (Cov.same rfl rfl rfl (hb6991 ((i6983 + 1), xs7017, G7062) ⟨(HpLe.trans (HpLe.trans e6987 e7058) e7063), B7064, (drop_succ g6985), r7080⟩ (Nat.lt_succ_self _)))
                                            exact ⟨(congrArg (fun z => some (Value.int .i64 z)) (idx_wrap (OL.len' o6442) g6985)), rfl, rfl, rfl, rfl, rfl, rfl, rfl, rfl, rfl, rfl, rfl, rfl, rfl, rfl, rfl, rfl, rfl, rfl, trivial⟩
                                        · intro hb7072
                                          refine Cov.split 219 rfl (fun c7071 => ?_) (fun c7071 => ?_)
                                          · have r7081 := ifT h7074 c7071
                                            refine Cov.g_off rfl rfl rfl ?_
                                            refine Cov.g_off rfl rfl rfl ?_
                                            refine Cov.g_off rfl rfl rfl ?_
                                            refine Cov.g_off rfl rfl rfl ?_
                                            refine Cov.q .ro (.pick_t rfl rfl) rfl ?_
                                            refine Cov.prune _ ?_ (Cov.same rfl rfl rfl (hb7072 () trivial))
                                            exact ⟨sval r7081, rfl, rfl, rfl, rfl, rfl, rfl, rfl, rfl, rfl, rfl, rfl, rfl, rfl, rfl, rfl, rfl, rfl, rfl, rfl, trivial⟩
                                          · have r7082 := ifF h7074 c7071
                                            refine Cov.g_on rfl ?_
                                            refine Cov.q .ro (.move rfl) rfl ?_
                                            refine Cov.g_on rfl ?_
                                            refine Cov.q .ro (.move rfl) rfl ?_
                                            refine Cov.g_on rfl ?_
                                            obtain ⟨u7083, hu7083, r7084⟩ := bind_some r7082; clear r7082
                                            refine Cov.callS (b1 := []) (b2 := [_, _, _, _]) (s1 := []) [_, _] [] .ro rfl rfl Try.call22 rfl rfl (ref04_Same_c (G := G7062) List.mem_cons_self s7065 (SlR.mono e7063 s7060) hu7083) rfl (fun v7086 bo so h7085 => ?_)
                                            obtain ⟨rfl, rfl, rfl⟩ := h7085
                                            refine Cov.same (bl' := [_, _, _, _]) (sl' := [_, _, _]) rfl rfl rfl ?_
                                            refine Cov.g_on rfl ?_
                                            refine Cov.q .ro (.not rfl) rfl ?_
                                            refine Cov.q .ro (.pick_f rfl rfl) rfl ?_
                                            refine Cov.prune _ ?_ (Cov.same rfl rfl rfl (hb7072 () trivial))
                                            exact ⟨sval r7084, rfl, rfl, rfl, rfl, rfl, rfl, rfl, rfl, rfl, rfl, rfl, rfl, rfl, rfl, rfl, rfl, rfl, rfl, rfl, trivial⟩
                                      · intro hb7040
                                        refine Cov.split 214 rfl (fun c7039 => ?_) (fun c7039 => ?_)
                                        · refine Cov.g_off rfl rfl rfl ?_
                                          refine Cov.g_off rfl rfl rfl ?_
                                          refine Cov.g_off rfl rfl rfl ?_
                                          refine Cov.q .ro (.pick_t rfl rfl) rfl ?_
                                          refine Cov.prune _ ?_ (Cov.same rfl rfl rfl (hb7040 () trivial))
                                          exact ⟨dor_t c7039, rfl, rfl, rfl, rfl, rfl, rfl, rfl, rfl, rfl, rfl, rfl, rfl, rfl, rfl, rfl, rfl, rfl, rfl, rfl, rfl, rfl, trivial⟩
                                        · refine Cov.g_on rfl ?_
                                          refine Cov.q .ro (.move rfl) rfl ?_
                                          refine Cov.g_on rfl ?_
                                          refine Cov.q .ro (.move rfl) rfl ?_
                                          refine Cov.g_on rfl ?_
                                          refine Cov.q .ro (.neq rfl rfl) rfl ?_
                                          refine Cov.q .ro (.pick_f rfl rfl) rfl ?_
                                          refine Cov.prune _ ?_ (Cov.same rfl rfl rfl (hb7040 () trivial))
                                          exact ⟨dor_f c7039, rfl, rfl, rfl, rfl, rfl, rfl, rfl, rfl, rfl, rfl, rfl, rfl, rfl, rfl, rfl, rfl, rfl, rfl, rfl, rfl, rfl, trivial⟩
                              · intro hb6428
                                refine Cov.split 180 rfl (fun c6427 => ?_) (fun c6427 => ?_)
                                · have r7087 := ifT h6430 c6427
                                  refine Cov.g_off rfl rfl rfl ?_
                                  refine Cov.g_off rfl rfl rfl ?_
                                  refine Cov.g_off rfl rfl rfl ?_
                                  refine Cov.g_off rfl rfl rfl ?_
                                  refine Cov.q .ro (.pick_t rfl rfl) rfl ?_
                                  refine Cov.prune _ ?_ (Cov.same rfl rfl rfl (hb6428 () trivial))
                                  exact ⟨sval r7087, rfl, rfl, rfl, rfl, rfl, rfl, rfl, rfl, rfl, rfl, rfl, rfl, rfl, rfl, rfl, rfl, trivial⟩
                                · have r7088 := ifF h6430 c6427
                                  refine Cov.g_on rfl ?_
                                  refine Cov.q .ro (.move rfl) rfl ?_
                                  refine Cov.g_on rfl ?_
                                  refine Cov.q .ro (.move rfl) rfl ?_
                                  refine Cov.g_on rfl ?_
                                  obtain ⟨u7089, hu7089, r7090⟩ := bind_some r7088; clear r7088
                                  refine Cov.callS (b1 := []) (b2 := [_, _, _, _]) (s1 := []) [_, _] [] .ro rfl rfl Try.call22 rfl rfl (ref04_Same_c (G := G6418) List.mem_cons_self s6421 (SlR.mono e6419 s6416) hu7089) rfl (fun v7092 bo so h7091 => ?_)
                                  obtain ⟨rfl, rfl, rfl⟩ := h7091
                                  refine Cov.same (bl' := [_, _, _, _]) (sl' := [_, _]) rfl rfl rfl ?_
                                  refine Cov.g_on rfl ?_
                                  refine Cov.q .ro (.not rfl) rfl ?_
                                  refine Cov.q .ro (.pick_f rfl rfl) rfl ?_
                                  refine Cov.prune _ ?_ (Cov.same rfl rfl rfl (hb6428 () trivial))
                                  exact ⟨sval r7090, rfl, rfl, rfl, rfl, rfl, rfl, rfl, rfl, rfl, rfl, rfl, rfl, rfl, rfl, rfl, rfl, trivial⟩
                            · intro hb6396
                              refine Cov.split 175 rfl (fun c6395 => ?_) (fun c6395 => ?_)
                              · refine Cov.g_off rfl rfl rfl ?_
                                refine Cov.g_off rfl rfl rfl ?_
                                refine Cov.g_off rfl rfl rfl ?_
                                refine Cov.q .ro (.pick_t rfl rfl) rfl ?_
                                refine Cov.prune _ ?_ (Cov.same rfl rfl rfl (hb6396 () trivial))
                                exact ⟨dor_t c6395, rfl, rfl, rfl, rfl, rfl, rfl, rfl, rfl, rfl, rfl, rfl, rfl, rfl, rfl, rfl, rfl, rfl, rfl, trivial⟩
                              · refine Cov.g_on rfl ?_
                                refine Cov.q .ro (.move rfl) rfl ?_
                                refine Cov.g_on rfl ?_
                                refine Cov.q .ro (.move rfl) rfl ?_
                                refine Cov.g_on rfl ?_
                                refine Cov.q .ro (.neq_b Try.underlying4 rfl rfl) rfl ?_
                                refine Cov.q .ro (.pick_f rfl rfl) rfl ?_
                                refine Cov.prune _ ?_ (Cov.same rfl rfl rfl (hb6396 () trivial))
                                exact ⟨dor_f c6395, rfl, rfl, rfl, rfl, rfl, rfl, rfl, rfl, rfl, rfl, rfl, rfl, rfl, rfl, rfl, rfl, rfl, rfl, trivial⟩
                          · intro hb6392
                            refine Cov.split 170 rfl (fun c6391 => ?_) (fun c6391 => ?_)
                            · refine Cov.g_off rfl rfl rfl ?_
                              refine Cov.g_off rfl rfl rfl ?_
                              refine Cov.g_off rfl rfl rfl ?_
                              refine Cov.q .ro (.pick_t rfl rfl) rfl ?_
                              refine Cov.prune _ ?_ (Cov.same rfl rfl rfl (hb6392 () trivial))
                              exact ⟨dor_t c6391, rfl, rfl, rfl, rfl, rfl, rfl, rfl, rfl, rfl, rfl, rfl, rfl, rfl, rfl, rfl, rfl, rfl, rfl, rfl, rfl, trivial⟩
                            · refine Cov.g_on rfl ?_
                              refine Cov.q .ro (.move rfl) rfl ?_
                              refine Cov.g_on rfl ?_
                              refine Cov.q .ro (.move rfl) rfl ?_
                              refine Cov.g_on rfl ?_
                              refine Cov.q .ro (.neq rfl rfl) rfl ?_
                              refine Cov.q .ro (.pick_f rfl rfl) rfl ?_
                              refine Cov.prune _ ?_ (Cov.same rfl rfl rfl (hb6392 () trivial))
                              exact ⟨dor_f c6391, rfl, rfl, rfl, rfl, rfl, rfl, rfl, rfl, rfl, rfl, rfl, rfl, rfl, rfl, rfl, rfl, rfl, rfl, rfl, rfl, trivial⟩
                      · intro hb7093
                        refine Cov.block ?_
                        refine Cov.loop2 (α := Nat × List (List ByteArray)) (fun y => [(128, .int .i64 (y.1 : Int))]) [(95, _), (2, _), (3, _), (4, _), (5, _), (6, _), (15, _), (16, _), (17, _), (93, _), (94, _), (19, _), (20, _), (22, _), (127, _)] (fun y => []) (fun y => []) [_, _, _, _] (fun y => []) [_] (fun y => List.drop y.1 u5440.1 = y.2 ∧ law21_FenceDoes_L9 (law21_FenceDoes_J8 (law21_FenceDoes_L10 (law21_FenceDoes_J2 x3 x5) x2 x3 x4 x6 u51 xs5432) x2 x3 x4 x6 u51 x5431.2 v5412) u5453.1 x5431.1 v5411 v5416 v5417 y.2 y.1  = some r) (fun y => y.2.length) (0, u5440.1) ⟨rfl, r5494⟩ ⟨rfl, rfl, rfl, rfl, rfl, rfl, rfl, rfl, rfl, rfl, rfl, rfl, rfl, rfl, rfl, rfl, trivial⟩ rfl rfl rfl (fun y hI hb7131 => ?_)
                        obtain ⟨i7127, w7128⟩ := y
                        obtain ⟨g7129, r7130⟩ := hI
                        try dsimp only at g7129 r7130
                        refine Cov.prune [(128, .int .i64 (i7127 : Int)), (95, _), (2, _), (3, _), (4, _), (5, _), (6, _), (15, _), (16, _), (17, _), (93, _), (94, _), (19, _), (20, _), (22, _), (127, _)] ⟨rfl, rfl, rfl, rfl, rfl, rfl, rfl, rfl, rfl, rfl, rfl, rfl, rfl, rfl, rfl, rfl, trivial⟩ ?_
                        refine Cov.same (bl' := [_, _, _, _]) (sl' := [_]) (Fs' := G5471 :: Fs) rfl rfl rfl ?_
                        cases w7128 with
                        | nil =>
                          rw [law21_FenceDoes_L9] at r7130; try dsimp only at r7130
                          refine Cov.seq ?_
                          refine Cov.region rfl ?_
                          refine Cov.q .ro (.lss rfl rfl) rfl ?_
                          refine Cov.region_end ?_
                          refine Cov.seq ?_
                          refine Cov.cond_dec rfl (fun c => absurd c (drop_nil g7129)) (fun _ => ?_)
                          refine Cov.exit rfl ?_
                          refine Cov.prune _ ?_ (Cov.same rfl rfl rfl (hb7093 (x5431.1, v5411, v5416, v5417) r7130))
                          exact ⟨rfl, rfl, rfl, rfl, rfl, rfl, rfl, rfl, rfl, rfl, rfl, rfl, trivial⟩
                        | cons x7153 xs7154 =>
                          have r7152 : law21_FenceDoes_B9 (law21_FenceDoes_J8 (law21_FenceDoes_L10 (law21_FenceDoes_J2 x3 x5) x2 x3 x4 x6 u51 xs5432) x2 x3 x4 x6 u51 x5431.2 v5412) u5453.1 x5431.1 v5411 v5416 v5417 (law21_FenceDoes_L9 (law21_FenceDoes_J8 (law21_FenceDoes_L10 (law21_FenceDoes_J2 x3 x5) x2 x3 x4 x6 u51 xs5432) x2 x3 x4 x6 u51 x5431.2 v5412) u5453.1 x5431.1 v5411 v5416 v5417 xs7154 (i7127 + 1)) x7153 i7127  = some r := r7130; clear r7130; unfold law21_FenceDoes_B9 at r7152; try dsimp only at r7152
                          refine Cov.seq ?_
                          refine Cov.region rfl ?_
                          refine Cov.q .ro (.lss rfl rfl) rfl ?_
                          refine Cov.region_end ?_
                          refine Cov.seq ?_
                          refine Cov.cond_dec rfl (fun _ => ?_) (fun c => absurd (drop_lt g7129) c)
                          refine Cov.skip ?_
                          refine Cov.seq ?_
                          refine Cov.block ?_
                          refine Cov.seq ?_
                          refine Cov.region rfl ?_
                          refine Cov.q .ro (.move rfl) rfl ?_
                          refine Cov.q .ro (.assign rfl) rfl ?_
                          refine Cov.region_end ?_
                          refine Cov.seq ?_
                          refine Cov.drawL (.q 0 (.q 1 (.q 2 (.q 3 (.q 4 (.q 5 (.q 6 (.q 7 (.e 8 1 (.q 9 .nil)))))))))) [_, _, _, _] (by kernel_rfl) (by kernel_rfl) (pick_mem [0, 1, 2, 3] rfl) ?_
                          refine Cov.dq (.move rfl) rfl ?_
                          refine Cov.dq (.move rfl) rfl ?_
                          obtain ⟨c7155, p7156, h7157⟩ := SlR.get (SlR.mono e5472 s5469) (drop_idx g7129)
                          obtain ⟨a7158, k7159, rfl, s7160⟩ := h7157
                          refine Cov.dq (.idxR (SlR.mono e5472 s5469) rfl rfl (drop_idx g7129) sl36 ty27.sz) rfl ?_
                          refine Cov.dq (.load_rp p7156 List.mem_cons_self rfl ty27 rfl) rfl ?_
                          refine Cov.dq (.move rfl) rfl ?_
                          refine Cov.dq (.move rfl) rfl ?_
                          obtain ⟨u7161, hu7161, r7162⟩ := bind_some r7152; clear r7152
                          obtain ⟨c7163, p7164, h7165⟩ := SlR.get s5474 hu7161
                          obtain ⟨a7166, k7167, rfl, s7168⟩ := h7165
                          refine Cov.dq (.idxR s5474 rfl rfl hu7161 sl36 ty27.sz) rfl ?_
                          refine Cov.dq (.load_rp p7164 List.mem_cons_self rfl ty27 rfl) rfl ?_
                          obtain ⟨u7169, hu7169, r7170⟩ := bind_some r7162; clear r7162
                          refine Cov.callS (b1 := []) (b2 := [_, _, _, _]) (s1 := []) [_, _] [] .d1 rfl rfl Try.call15 rfl rfl (ref21_SameKeys_c (G := G5471) List.mem_cons_self s7160 s7168 hu7169) rfl (fun v7172 bo so h7171 => ?_)
                          obtain ⟨rfl, rfl, rfl⟩ := h7171
                          refine Cov.same (bl' := [_, _, _, _]) (sl' := [_]) rfl rfl rfl ?_
                          refine Cov.clsL (HpLe.refl _) (pick_mem [0, 1, 2, 3] rfl) ?_
                          refine Cov.dq (.not rfl) rfl ?_
                          refine Cov.draw_end ?_
                          refine Cov.cond rfl (fun c7173 => ?_) (fun c7173 => ?_)
                          · have r7174 := ifT r7170 c7173; clear r7170
                            refine Cov.seq ?_
                            refine Cov.region rfl ?_
                            refine Cov.q .ro (.assign rfl) rfl ?_
                            refine Cov.region_end ?_
                            refine Cov.prune [(14, _)] ⟨rfl, trivial⟩ ?_
                            cases r7174
                            refine Cov.drop 4 0 [] _ rfl rfl ?_
                            refine Cov.drop 0 1 _ [] rfl rfl ?_
                            refine Cov.retS (c := ⟨6, none⟩) (.inr ⟨_, rfl⟩) [.tmp 14] [_] rfl Try.func6 Try.results6 ⟨RV.tmp rfl, trivial⟩ (fun _ h => List.mem_cons_of_mem _ h) ⟨rfl, rfl, rfl⟩
                          · have r7175 := ifBF r7170 c7173; clear r7170
                            refine Cov.skip ?_
                            refine Cov.inBlock ?_
                            refine Cov.region rfl ?_
                            refine Cov.q .ro (.addw rfl rfl) rfl ?_
                            refine Cov.q .ro (.move rfl) rfl ?_
                            refine Cov.region_end ?_
                            refine Cov.prune [(128, _), (95, _), (2, _), (3, _), (4, _), (5, _), (6, _), (15, _), (16, _), (17, _), (93, _), (94, _), (19, _), (20, _), (22, _), (127, _)] ⟨rfl, rfl, rfl, rfl, rfl, rfl, rfl, rfl, rfl, rfl, rfl, rfl, rfl, rfl, rfl, rfl, trivial⟩ ?_
                            refine Cov.prune _ ?_ (Cov.same rfl rfl rfl (hb7131 ((i7127 + 1), xs7154) ⟨(drop_succ g7129), r7175⟩ (Nat.lt_succ_self _)))
                            exact ⟨(congrArg (fun z => some (Value.int .i64 z)) (idx_wrap (SlR.len (SlR.mono e5472 s5469)) g7129)), rfl, rfl, rfl, rfl, rfl, rfl, rfl, rfl, rfl, rfl, rfl, rfl, rfl, rfl, rfl, trivial⟩
                  · intro hb5489
                    refine Cov.split 119 rfl (fun c5488 => ?_) (fun c5488 => ?_)
                    · refine Cov.dgq_off rfl rfl rfl ?_
                      refine Cov.dgq_off rfl rfl rfl ?_
                      refine Cov.dgq_off rfl rfl rfl ?_
                      refine Cov.dgq_off rfl rfl rfl ?_
                      refine Cov.dgq_off rfl rfl rfl ?_
                      refine Cov.dq (.pick_t rfl rfl) rfl ?_
                      refine Cov.prune _ ?_ (Cov.same rfl rfl rfl (hb5489 () trivial))
                      exact ⟨dor_t c5488, rfl, rfl, rfl, rfl, rfl, rfl, rfl, rfl, rfl, rfl, rfl, rfl, rfl, rfl, trivial⟩
                    · refine Cov.dgq_on rfl ?_
                      refine Cov.dq (.move rfl) rfl ?_
                      refine Cov.dgq_on rfl ?_
                      refine Cov.dq (.len_sl rfl rfl sl36) rfl ?_
                      refine Cov.dgq_on rfl ?_
                      refine Cov.dq (.move rfl) rfl ?_
                      refine Cov.dgq_on rfl ?_
                      refine Cov.dq (.len_sl rfl rfl sl36) rfl ?_
                      refine Cov.dgq_on rfl ?_
                      refine Cov.dq (.neq rfl rfl) rfl ?_
                      refine Cov.dq (.pick_f rfl rfl) rfl ?_
                      refine Cov.prune _ ?_ (Cov.same rfl rfl rfl (hb5489 () trivial))
                      exact ⟨dor_f c5488, rfl, rfl, rfl, rfl, rfl, rfl, rfl, rfl, rfl, rfl, rfl, rfl, rfl, rfl, trivial⟩
                · intro hb5485
                  refine Cov.split 114 rfl (fun c5484 => ?_) (fun c5484 => ?_)
                  · refine Cov.dgq_off rfl rfl rfl ?_
                    refine Cov.dgq_off rfl rfl rfl ?_
                    refine Cov.dgq_off rfl rfl rfl ?_
                    refine Cov.dq (.pick_t rfl rfl) rfl ?_
                    refine Cov.prune _ ?_ (Cov.same rfl rfl rfl (hb5485 () trivial))
                    exact ⟨dor_t c5484, rfl, rfl, rfl, rfl, rfl, rfl, rfl, rfl, rfl, rfl, rfl, rfl, rfl, rfl, trivial⟩
                  · refine Cov.dgq_on rfl ?_
                    refine Cov.dq (.move rfl) rfl ?_
                    refine Cov.dgq_on rfl ?_
                    refine Cov.dq (.move rfl) rfl ?_
                    refine Cov.dgq_on rfl ?_
                    refine Cov.dq (.neq rfl rfl) rfl ?_
                    refine Cov.dq (.pick_f rfl rfl) rfl ?_
                    refine Cov.prune _ ?_ (Cov.same rfl rfl rfl (hb5485 () trivial))
                    exact ⟨dor_f c5484, rfl, rfl, rfl, rfl, rfl, rfl, rfl, rfl, rfl, rfl, rfl, rfl, rfl, rfl, trivial⟩
        · intro hb22
          refine Cov.split 73 rfl (fun c21 => ?_) (fun c21 => ?_)
          · refine Cov.g_off rfl rfl rfl ?_
            refine Cov.g_off rfl rfl rfl ?_
            refine Cov.g_off rfl rfl rfl ?_
            refine Cov.q .ro (.pick_t rfl rfl) rfl ?_
            refine Cov.prune _ ?_ (Cov.same rfl rfl rfl (hb22 () trivial))
            exact ⟨dor_t c21, rfl, rfl, rfl, rfl, rfl, rfl, rfl, trivial⟩
          · refine Cov.g_on rfl ?_
            refine Cov.q .ro (.move rfl) rfl ?_
            refine Cov.g_on rfl ?_
            refine Cov.q .ro (.len_s rfl Try.underlying9) rfl ?_
            refine Cov.g_on rfl ?_
            refine Cov.q .ro (.gtr rfl rfl) rfl ?_
            refine Cov.q .ro (.pick_f rfl rfl) rfl ?_
            refine Cov.prune _ ?_ (Cov.same rfl rfl rfl (hb22 () trivial))
            exact ⟨dor_f c21, rfl, rfl, rfl, rfl, rfl, rfl, rfl, trivial⟩
      · intro hb18
        refine Cov.split 68 rfl (fun c17 => ?_) (fun c17 => ?_)
        · refine Cov.g_off rfl rfl rfl ?_
          refine Cov.g_off rfl rfl rfl ?_
          refine Cov.g_off rfl rfl rfl ?_
          refine Cov.q .ro (.pick_t rfl rfl) rfl ?_
          refine Cov.prune _ ?_ (Cov.same rfl rfl rfl (hb18 () trivial))
          exact ⟨dor_t c17, rfl, rfl, rfl, rfl, rfl, rfl, rfl, trivial⟩
        · refine Cov.g_on rfl ?_
          refine Cov.q .ro (.move rfl) rfl ?_
          refine Cov.g_on rfl ?_
          refine Cov.q .ro (.len_sl rfl rfl sl27) rfl ?_
          refine Cov.g_on rfl ?_
          refine Cov.q .ro (.gtr rfl rfl) rfl ?_
          refine Cov.q .ro (.pick_f rfl rfl) rfl ?_
          refine Cov.prune _ ?_ (Cov.same rfl rfl rfl (hb18 () trivial))
          exact ⟨dor_f c17, rfl, rfl, rfl, rfl, rfl, rfl, rfl, trivial⟩
    · intro hb14
      refine Cov.split_b 62 rfl (fun c13 => ?_) (fun c13 => ?_)
      · refine Cov.g_off rfl rfl rfl ?_
        refine Cov.g_off rfl rfl rfl ?_
        refine Cov.g_off rfl rfl rfl ?_
        refine Cov.g_off rfl rfl rfl ?_
        refine Cov.q .ro (.pick_t rfl rfl) rfl ?_
        refine Cov.prune _ ?_ (Cov.same rfl rfl rfl (hb14 () trivial))
        exact ⟨dor_t c13, rfl, rfl, rfl, rfl, rfl, rfl, rfl, trivial⟩
      · refine Cov.g_on rfl ?_
        refine Cov.q .ro (.fieldAddr 1 rfl fl29_1 ty27.sz rfl) rfl ?_
        refine Cov.g_on rfl ?_
        refine Cov.q .ro (.load_own 0 rfl rfl ty27 rfl) rfl ?_
        refine Cov.g_on rfl ?_
        refine Cov.q .ro (.len_sl rfl rfl sl27) rfl ?_
        refine Cov.g_on rfl ?_
        refine Cov.q .ro (.gtr rfl rfl) rfl ?_
        refine Cov.q .ro (.pick_f rfl rfl) rfl ?_
        refine Cov.prune _ ?_ (Cov.same rfl rfl rfl (hb14 () trivial))
        exact ⟨dor_f (bne_of c13), rfl, rfl, rfl, rfl, rfl, rfl, rfl, trivial⟩

end Go.Proofs.Ytdchjmophffphaa
