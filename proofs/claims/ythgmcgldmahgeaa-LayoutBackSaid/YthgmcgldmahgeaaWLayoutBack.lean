/- The walks. Printed by wip/lift/drive.py. -/
import Derived.Test.YthgmcgldmahgeaaW3
namespace Go.Proofs.Ythgmcgldmahgeaa
open Go.RowKit
set_option linter.unusedSimpArgs false
set_option linter.unusedVariables false
set_option synthInstance.maxSize 2000
set_option synthInstance.maxHeartbeats 400000

set_option maxHeartbeats 4000000 in
set_option maxRecDepth 100000 in
theorem law13_LayoutBack_c {Fs : List Hp} {G : Hp} {a0 : Option Addr} {k0 : Nat} {x0 : List Int} {x1 : Int} {r : Bool} (hG : G ∈ Fs) (s0 : SlR (Rep.int .i64) G a0 k0 x0) (h : law13_LayoutBack x0 x1 = some r) : RetS Try.prog 4 #[.slice a0 x0.length k0, .int .u8 x1] Fs [] [] (fun v bo so => v = .bool r ∧ bo = [] ∧ so = []) := by
  unfold law13_LayoutBack at h
  try dsimp only at h
  refine RetS.of (vs := [_, _]) Try.func4 rfl Try.ntmps4 [(0, _), (1, _)] ⟨rfl, rfl, trivial⟩ rfl hG fun w0 S0 hS0 B0 => ?_
  refine Cov.seq ?_
  refine Cov.region rfl ?_
  refine Cov.q .ro (.assign rfl) rfl ?_
  refine Cov.region_end ?_
  refine Cov.seq ?_
  refine Cov.seq ?_
  refine Cov.region rfl ?_
  obtain ⟨u1, hu1, r2⟩ := bind_some h; clear h
  refine Cov.callS (b1 := []) (b2 := []) (s1 := []) [] [] .ro rfl rfl Try.call10 rfl rfl (law13_sane_c (G := G) List.mem_cons_self  hu1) rfl (fun v4 bo so h3 => ?_)
  obtain ⟨rfl, rfl, rfl⟩ := h3
  refine Cov.same (bl' := []) (sl' := []) rfl rfl rfl ?_
  refine Cov.q .ro (.not rfl) rfl ?_
  refine Cov.region_end ?_
  refine Cov.cond rfl (fun c5 => ?_) (fun c5 => ?_)
  · have r6 := ifT r2 c5; clear r2
    refine Cov.seq ?_
    refine Cov.region rfl ?_
    refine Cov.q .ro (.assign rfl) rfl ?_
    refine Cov.region_end ?_
    cases r6
    refine Cov.retS (c := ⟨4, none⟩) (.inr ⟨_, rfl⟩) [.tmp 4] [_] rfl Try.func4 Try.results4 ⟨RV.tmp rfl, trivial⟩ (fun _ h => List.mem_cons_of_mem _ h) ⟨rfl, rfl, rfl⟩
  · have r7 := ifBF r2 c5; clear r2
    refine Cov.skip ?_
    refine Cov.seq ?_
    refine Cov.seq ?_
    refine Cov.region rfl ?_
    refine Cov.q .ro (.move rfl) rfl ?_
    obtain ⟨u8, hu8, r9⟩ := bind_some r7; clear r7
    refine Cov.callS (b1 := []) (b2 := []) (s1 := []) [_] [] .ro rfl rfl Try.call11 rfl rfl (make_Few_c (G := G) List.mem_cons_self s0 hu8) rfl (fun v11 bo so h10 => ?_)
    obtain ⟨rfl, rfl, rfl⟩ := h10
    refine Cov.same (bl' := []) (sl' := []) rfl rfl rfl ?_
    refine Cov.q .ro (.not rfl) rfl ?_
    refine Cov.region_end ?_
    refine Cov.cond rfl (fun c12 => ?_) (fun c12 => ?_)
    · have r13 := ifT r9 c12; clear r9
      refine Cov.seq ?_
      refine Cov.region rfl ?_
      refine Cov.q .ro (.assign rfl) rfl ?_
      refine Cov.region_end ?_
      cases r13
      refine Cov.retS (c := ⟨4, none⟩) (.inr ⟨_, rfl⟩) [.tmp 4] [_] rfl Try.func4 Try.results4 ⟨RV.tmp rfl, trivial⟩ (fun _ h => List.mem_cons_of_mem _ h) ⟨rfl, rfl, rfl⟩
    · have r14 := ifBF r9 c12; clear r9
      refine Cov.skip ?_
      refine Cov.seq ?_
      refine Cov.region rfl ?_
      refine Cov.q .ro (.move rfl) rfl ?_
      obtain ⟨u15, hu15, r16⟩ := bind_some r14; clear r14
      refine Cov.callS (b1 := []) (b2 := []) (s1 := []) [_] [] .ro rfl rfl Try.call13 rfl rfl (make_New_c (G := G) List.mem_cons_self s0 hu15) rfl (fun v18 bo so h17 => ?_)
      obtain ⟨a20, k21, b19, rfl, rfl, rfl, s22⟩ := h17
      refine Cov.same (bl' := [_]) (sl' := []) rfl rfl rfl ?_
      refine Cov.q .ro (.assign rfl) rfl ?_
      refine Cov.region_end ?_
      refine Cov.seq ?_
      refine Cov.region rfl ?_
      refine Cov.q .ro (.move rfl) rfl ?_
      obtain ⟨u23, hu23, r24⟩ := bind_some r16; clear r16
      refine Cov.callS (b1 := [_]) (b2 := []) (s1 := []) [_] [] .ro rfl rfl Try.call25 rfl rfl (make_Field_c (G := G) List.mem_cons_self s22 hu23) rfl (fun v26 bo so h25 => ?_)
      obtain ⟨a27, k28, rfl, rfl, rfl, s29⟩ := h25
      refine Cov.same (bl' := [_]) (sl' := []) rfl rfl rfl ?_
      refine Cov.q .ro (.move rfl) rfl ?_
      obtain ⟨u30, hu30, r31⟩ := bind_some r24; clear r24
      refine Cov.callW (b1 := [_]) (b2 := []) (s1 := []) [_] [] .ro rfl rfl Try.call26 rfl rfl (make_Records_c (G := G) List.mem_cons_self s29 hu30) rfl B0 (fun v33 bo so G34 e35 B36 h32 => ?_)
      obtain ⟨a43, k44, a39, k40, cs41, rfl, rfl, rfl, s45, o42⟩ := h32
      refine Cov.same (bl' := [_]) (sl' := [_]) rfl rfl rfl ?_
      refine Cov.alloc .ro ty24 rfl (fun b46 hb46 => ?_)
      refine Cov.store 0 [_] [_, _] .ro rfl rfl rfl ty24 rfl rfl rfl rfl ?_
      refine Cov.q .ro (.assign rfl) rfl ?_
      refine Cov.region_end ?_
      refine Cov.prune [(1, _), (6, _), (7, _)] ⟨rfl, rfl, rfl, trivial⟩ ?_
      refine Cov.seq ?_
      refine Cov.region rfl ?_
      refine Cov.q .ro (.move rfl) rfl ?_
      refine Cov.q .ro (.remt rfl rfl (by decide)) rfl ?_
      refine Cov.q .ro (.convw Try.underlying5 Try.underlying3 rfl) rfl ?_
      refine Cov.q .ro (.addw rfl rfl) rfl ?_
      refine Cov.q .ro (.assign rfl) rfl ?_
      refine Cov.region_end ?_
      refine Cov.seq ?_
      refine Cov.region rfl ?_
      refine Cov.q .ro (.load_own_a 0 [_] rfl rfl ty24 rfl) rfl ?_
      refine Cov.q .ro (.move rfl) rfl ?_
      refine Cov.q .ro (.move rfl) rfl ?_
      refine Cov.freezeR 0 rfl rfl o42 [] rfl B36 (fun G47 e48 B49 s50 => ?_)
      obtain ⟨u52, hu52, r53⟩ := bind_some r31; clear r31
      refine Cov.callW (b1 := []) (b2 := [_, _]) (s1 := []) [_, _, _] [] .ro rfl rfl Try.call19 rfl rfl (layout_Encode_c (G := G47) List.mem_cons_self s50 hu52) rfl B49 (fun v55 bo so G56 e57 B58 h54 => ?_)
      obtain ⟨a60, k61, a63, k64, rfl, rfl, rfl, s62, s65⟩ := h54
      refine Cov.same (bl' := [_, _]) (sl' := []) rfl rfl rfl ?_
      refine Cov.q .ro (.move rfl) rfl ?_
      refine Cov.q .ro (.extract rfl rfl) rfl ?_
      refine Cov.q .ro (.extract rfl rfl) rfl ?_
      refine Cov.q .ro (.extract rfl rfl) rfl ?_
      refine Cov.alloc .ro ty34 rfl (fun b66 hb66 => ?_)
      refine Cov.q .ro (.assign rfl) rfl ?_
      refine Cov.store 0 [_, _] [_, _, _] .ro rfl rfl rfl ty34 rfl rfl rfl rfl ?_
      refine Cov.q .ro (.assign rfl) rfl ?_
      refine Cov.region_end ?_
      refine Cov.prune [(6, _), (7, _), (8, _), (10, _), (9, _), (11, _)] ⟨rfl, rfl, rfl, rfl, rfl, rfl, trivial⟩ ?_
      refine Cov.seq ?_
      refine Cov.seq ?_
      refine Cov.region rfl ?_
      refine Cov.q .ro (.move rfl) rfl ?_
      refine Cov.q .ro (.neq rfl rfl) rfl ?_
      refine Cov.q .ro (.move rfl) rfl ?_
      refine Cov.cutR 7 (β := Unit) (fun y => [(53, .bool (decide ((u52.2.2 ≠ 0) ∨ ((u52.2.1.2.length : Int) ≠ (u30.1.length : Int)))))]) [(6, _), (7, _), (8, _), (10, _), (9, _)] (fun y => G56 :: Fs) (fun y => []) [_, _, _] (fun y => []) [] (fun y => True) ⟨rfl, rfl, rfl, rfl, rfl, trivial⟩ [0, 1, 2] rfl [] rfl ?_ ?_
      · rintro _ _
        refine Cov.prune [(53, .bool (decide ((u52.2.2 ≠ 0) ∨ ((u52.2.1.2.length : Int) ≠ (u30.1.length : Int))))), (6, _), (7, _), (8, _), (10, _), (9, _)] ⟨rfl, rfl, rfl, rfl, rfl, rfl, trivial⟩ ?_
        refine Cov.same (bl' := [_, _, _]) (sl' := []) (Fs' := G56 :: Fs) rfl rfl rfl ?_
        refine Cov.q .ro (.move rfl) rfl ?_
        obtain ⟨u77, h78, r79⟩ := bind_some r53; clear r53
        refine Cov.cutR 6 (β := Unit) (fun y => [(60, .bool u77)]) [(6, _), (7, _), (8, _), (10, _), (9, _)] (fun y => G56 :: Fs) (fun y => []) [_, _, _] (fun y => []) [] (fun y => True) ⟨rfl, rfl, rfl, rfl, rfl, trivial⟩ [0, 1, 2] rfl [] rfl ?_ ?_
        · rintro _ _
          refine Cov.prune [(60, .bool u77), (6, _), (7, _), (8, _), (10, _), (9, _)] ⟨rfl, rfl, rfl, rfl, rfl, rfl, trivial⟩ ?_
          refine Cov.same (bl' := [_, _, _]) (sl' := []) (Fs' := G56 :: Fs) rfl rfl rfl ?_
          refine Cov.region_end ?_
          refine Cov.cond rfl (fun c82 => ?_) (fun c82 => ?_)
          · have r83 := ifT r79 c82; clear r79
            refine Cov.seq ?_
            refine Cov.region rfl ?_
            refine Cov.q .ro (.assign rfl) rfl ?_
            refine Cov.region_end ?_
            cases r83
            refine Cov.drop 3 0 [] _ rfl rfl ?_
            refine Cov.retS (c := ⟨4, none⟩) (.inr ⟨_, rfl⟩) [.tmp 4] [_] rfl Try.func4 Try.results4 ⟨RV.tmp rfl, trivial⟩ (fun _ h => List.mem_cons_of_mem _ h) ⟨rfl, rfl, rfl⟩
          · have r84 := ifBF r79 c82; clear r79
            refine Cov.skip ?_
            refine Cov.seq ?_
            refine Cov.seq ?_
            refine Cov.region rfl ?_
            refine Cov.q .ro (.move rfl) rfl ?_
            refine Cov.q .ro (.len_sl rfl rfl sl26) rfl ?_
            refine Cov.q .ro (.move rfl) rfl ?_
            refine Cov.region_end ?_
            refine Cov.cutB (β := Int × Int × Int) (fun y => []) [(6, _), (7, _), (8, _), (10, _), (9, _)] (fun y => G56 :: Fs) (fun y => [(b66, .cells #[.int .i64 y.1, .slice a63 u52.2.1.2.length k64] 34 (0, 0)), (b46, .cells #[.int .i64 y.2.1] 24 (0, 0)), (b19, .cells #[.slice a43 u30.2.1.length k44, .int .i64 y.2.2] 69 (0, 0))]) [] (fun y => []) [] (fun y => (law13_LayoutBack_J2 u30.1 (w64 (1 + (w64 (Int.tmod x1 20)))) u52.1 u52.2.1.2) y.1 y.2.1 y.2.2 = some r) ⟨rfl, rfl, rfl, rfl, rfl, trivial⟩ [] rfl [] rfl ?_ ?_
            · intro y hI
              obtain ⟨v131, v132, v133⟩ := y
              have r135 := hI; clear hI
              try dsimp only at r135
              refine Cov.prune [(6, _), (7, _), (8, _), (10, _), (9, _)] ⟨rfl, rfl, rfl, rfl, rfl, trivial⟩ ?_
              refine Cov.same (bl' := [(b66, .cells #[.int .i64 v131, .slice a63 u52.2.1.2.length k64] 34 (0, 0)), (b46, .cells #[.int .i64 v132] 24 (0, 0)), (b19, .cells #[.slice a43 u30.2.1.length k44, .int .i64 v133] 69 (0, 0))]) (sl' := []) (Fs' := G56 :: Fs) rfl rfl rfl ?_
              unfold law13_LayoutBack_J2 at r135
              try dsimp only at r135
              refine Cov.seq ?_
              refine Cov.seq ?_
              refine Cov.region rfl ?_
              refine Cov.q .ro (.move rfl) rfl ?_
              refine Cov.q .ro (.len_sl rfl rfl sl25) rfl ?_
              refine Cov.q .ro (.move rfl) rfl ?_
              refine Cov.region_end ?_
              refine Cov.block ?_
              refine Cov.loop2 (α := Nat × List ByteArray) (fun y => [(74, .int .i64 (y.1 : Int))]) [(6, _), (8, _), (10, _), (9, _), (72, _), (73, _)] (fun y => []) (fun y => []) [_, _, _] (fun y => []) [] (fun y => List.drop y.1 u30.1 = y.2 ∧ law13_LayoutBack_L1 (w64 (1 + (w64 (Int.tmod x1 20)))) u52.1 v131 u52.2.1.2 v132 y.2 y.1  = some r) (fun y => y.2.length) (0, u30.1) ⟨rfl, r135⟩ ⟨rfl, rfl, rfl, rfl, rfl, rfl, rfl, trivial⟩ rfl rfl rfl (fun y hI hb198 => ?_)
              obtain ⟨i194, w195⟩ := y
              obtain ⟨g196, r197⟩ := hI
              try dsimp only at g196 r197
              refine Cov.prune [(74, .int .i64 (i194 : Int)), (6, _), (8, _), (10, _), (9, _), (72, _), (73, _)] ⟨rfl, rfl, rfl, rfl, rfl, rfl, rfl, trivial⟩ ?_
              refine Cov.same (bl' := [_, _, _]) (sl' := []) (Fs' := G56 :: Fs) rfl rfl rfl ?_
              cases w195 with
              | nil =>
                rw [law13_LayoutBack_L1] at r197; try dsimp only at r197
                refine Cov.seq ?_
                refine Cov.region rfl ?_
                refine Cov.q .ro (.lss rfl rfl) rfl ?_
                refine Cov.region_end ?_
                refine Cov.seq ?_
                refine Cov.cond_dec rfl (fun c => absurd c (drop_nil g196)) (fun _ => ?_)
                refine Cov.exit rfl ?_
                refine Cov.seq ?_
                refine Cov.region rfl ?_
                refine Cov.q .ro (.assign rfl) rfl ?_
                refine Cov.region_end ?_
                cases r197
                refine Cov.drop 3 0 [] _ rfl rfl ?_
                refine Cov.retS (c := ⟨4, none⟩) (.inr ⟨_, rfl⟩) [.tmp 4] [_] rfl Try.func4 Try.results4 ⟨RV.tmp rfl, trivial⟩ (fun _ h => List.mem_cons_of_mem _ h) ⟨rfl, rfl, rfl⟩
              | cons x209 xs210 =>
                have r208 : law13_LayoutBack_B1 (w64 (1 + (w64 (Int.tmod x1 20)))) u52.1 v131 u52.2.1.2 v132 (law13_LayoutBack_L1 (w64 (1 + (w64 (Int.tmod x1 20)))) u52.1 v131 u52.2.1.2 v132 xs210 (i194 + 1)) x209 i194  = some r := r197; clear r197; unfold law13_LayoutBack_B1 at r208; try dsimp only at r208
                refine Cov.seq ?_
                refine Cov.region rfl ?_
                refine Cov.q .ro (.lss rfl rfl) rfl ?_
                refine Cov.region_end ?_
                refine Cov.seq ?_
                refine Cov.cond_dec rfl (fun _ => ?_) (fun c => absurd (drop_lt g196) c)
                refine Cov.skip ?_
                refine Cov.seq ?_
                refine Cov.block ?_
                refine Cov.seq ?_
                refine Cov.region rfl ?_
                refine Cov.q .ro (.move rfl) rfl ?_
                obtain ⟨c211, p212, h213⟩ := SlR.get (SlR.mono e57 s50) (drop_idx g196)
                obtain rfl := h213
                refine Cov.q .ro (.idxR (SlR.mono e57 s50) rfl rfl (drop_idx g196) sl25 ty9.sz) rfl ?_
                refine Cov.q .ro (.load_rp p212 List.mem_cons_self rfl ty9 rfl) rfl ?_
                refine Cov.q .ro (.assign rfl) rfl ?_
                refine Cov.q .ro (.assign rfl) rfl ?_
                refine Cov.region_end ?_
                refine Cov.seq ?_
                refine Cov.region rfl ?_
                refine Cov.q .ro (.fieldAddr 1 rfl fl34_1 ty32.sz rfl) rfl ?_
                refine Cov.q .ro (.load_own 0 rfl rfl ty32 rfl) rfl ?_
                refine Cov.q .ro (.move rfl) rfl ?_
                obtain ⟨u214, hu214, r215⟩ := bind_some r208; clear r208
                obtain ⟨c216, p217, h218⟩ := SlR.get s65 hu214
                obtain ⟨_, _, rfl, rfl, _, _, rfl, rfl, rfl⟩ := h218
                refine Cov.q .ro (.idxR s65 rfl rfl hu214 sl32 ty56.sz) rfl ?_
                refine Cov.q .ro (.load_rp_a [_, _, _] p217 List.mem_cons_self rfl ty56 rfl) rfl ?_
                refine Cov.alloc .ro ty56 rfl (fun b219 hb219 => ?_)
                refine Cov.store 0 [_, _, _] [_, _, _, _] .ro rfl rfl rfl ty56 rfl rfl rfl rfl ?_
                refine Cov.region_end ?_
                refine Cov.seq ?_
                refine Cov.region rfl ?_
                refine Cov.q .ro (.load_own_a 2 [_] rfl rfl ty24 rfl) rfl ?_
                refine Cov.q .ro (.load_own_a 1 [_, _] rfl rfl ty34 rfl) rfl ?_
                refine Cov.q .ro (.move rfl) rfl ?_
                refine Cov.q .ro (.move rfl) rfl ?_
                obtain ⟨u220, hu220, r221⟩ := bind_some r215; clear r215
                refine Cov.callS (b1 := []) (b2 := [_, _, _, _]) (s1 := []) [_, _, _, _] [] .ro rfl rfl Try.call28 rfl rfl (layout_Record_c (G := G56) List.mem_cons_self s65 s62 hu220) rfl (fun v223 bo so h222 => ?_)
                obtain ⟨rfl, rfl, rfl⟩ := h222
                refine Cov.same (bl' := [_, _, _, _]) (sl' := []) rfl rfl rfl ?_
                refine Cov.q .ro (.move rfl) rfl ?_
                refine Cov.q .ro (.extract rfl rfl) rfl ?_
                refine Cov.q .ro (.extract rfl rfl) rfl ?_
                refine Cov.q .ro (.assign rfl) rfl ?_
                refine Cov.q .ro (.assign rfl) rfl ?_
                refine Cov.region_end ?_
                refine Cov.prune [(74, _), (6, _), (8, _), (10, _), (9, _), (72, _), (73, _), (15, _), (16, _), (17, _), (18, _)] ⟨rfl, rfl, rfl, rfl, rfl, rfl, rfl, rfl, rfl, rfl, rfl, trivial⟩ ?_
                refine Cov.seq ?_
                refine Cov.drawL (.q 0 (.q 1 (.q 2 (.q 3 (.q 4 (.q 5 (.q 6 (.q 7 (.q 8 (.q 9 (.q 10 (.q 11 (.q 12 (.e 13 1 (.q 14 (.q 15 (.q 16 (.q 17 (.q 18 .nil))))))))))))))))))) [_, _, _, _] (by kernel_rfl) (by kernel_rfl) (pick_mem [0, 1, 2, 3] rfl) ?_
                refine Cov.dq (.load_own_a 2 [_] rfl rfl ty24 rfl) rfl ?_
                refine Cov.dq (.move rfl) rfl ?_
                refine Cov.dq (.fieldAddr 2 rfl fl56_2 ty3.sz rfl) rfl ?_
                refine Cov.dq (.load_own 0 rfl rfl ty3 rfl) rfl ?_
                refine Cov.dq (.move rfl) rfl ?_
                refine Cov.dq (.fieldAddr 0 rfl fl56_0 ty3.sz rfl) rfl ?_
                refine Cov.dq (.load_own 0 rfl rfl ty3 rfl) rfl ?_
                refine Cov.dq (.fieldAddr 0 rfl fl56_0 ty3.sz rfl) rfl ?_
                refine Cov.dq (.load_own 0 rfl rfl ty3 rfl) rfl ?_
                refine Cov.dq (.fieldAddr 1 rfl fl56_1 ty3.sz rfl) rfl ?_
                refine Cov.dq (.load_own 0 rfl rfl ty3 rfl) rfl ?_
                refine Cov.dq (.addw rfl rfl) rfl ?_
                obtain ⟨u224, hu224, r225⟩ := bind_some r221; clear r221
                obtain ⟨a226, k227, h228, s229⟩ := SlR.sub s62 hu224
                refine Cov.dq (.sliceR s62 rfl hu224 sl26 ty22.sz (fun h => .yes' rfl h) (fun h => .yes' rfl h) h228) rfl ?_
                obtain ⟨u230, hu230, r231⟩ := bind_some r225; clear r225
                refine Cov.callS (b1 := []) (b2 := [_, _, _, _]) (s1 := []) [_, _, _, _] [] .d1 rfl rfl Try.call23 rfl rfl (layout_Decode_c (G := G56) List.mem_cons_self s229 hu230) rfl (fun v233 bo so h232 => ?_)
                obtain ⟨rfl, rfl, rfl⟩ := h232
                refine Cov.same (bl' := [_, _, _, _]) (sl' := []) rfl rfl rfl ?_
                refine Cov.clsL (HpLe.refl _) (pick_mem [0, 1, 2, 3] rfl) ?_
                refine Cov.dq (.move rfl) rfl ?_
                refine Cov.dq (.extract rfl rfl) rfl ?_
                refine Cov.dq (.extract rfl rfl) rfl ?_
                refine Cov.dq (.assign rfl) rfl ?_
                refine Cov.dq (.assign rfl) rfl ?_
                refine Cov.draw_end ?_
                refine Cov.prune [(74, _), (6, _), (8, _), (10, _), (9, _), (72, _), (73, _), (15, _), (16, _), (17, _), (18, _), (19, _), (20, _)] ⟨rfl, rfl, rfl, rfl, rfl, rfl, rfl, rfl, rfl, rfl, rfl, rfl, rfl, trivial⟩ ?_
                refine Cov.seq ?_
                refine Cov.region rfl ?_
                refine Cov.q .ro (.move rfl) rfl ?_
                refine Cov.q .ro (.neq rfl rfl) rfl ?_
                refine Cov.q .ro (.move rfl) rfl ?_
                refine Cov.cutR 3 (β := Unit) (fun y => [(114, .bool (decide ((u220.2 ≠ 0) ∨ (u230.2 ≠ 0))))]) [(74, _), (6, _), (8, _), (10, _), (9, _), (72, _), (73, _), (15, _), (16, _), (17, _), (19, _)] (fun y => G56 :: Fs) (fun y => []) [_, _, _, _] (fun y => []) [] (fun y => True) ⟨rfl, rfl, rfl, rfl, rfl, rfl, rfl, rfl, rfl, rfl, rfl, trivial⟩ [0, 1, 2, 3] rfl [] rfl ?_ ?_
                · rintro _ _
                  refine Cov.prune [(114, .bool (decide ((u220.2 ≠ 0) ∨ (u230.2 ≠ 0)))), (74, _), (6, _), (8, _), (10, _), (9, _), (72, _), (73, _), (15, _), (16, _), (17, _), (19, _)] ⟨rfl, rfl, rfl, rfl, rfl, rfl, rfl, rfl, rfl, rfl, rfl, rfl, trivial⟩ ?_
                  refine Cov.same (bl' := [_, _, _, _]) (sl' := []) (Fs' := G56 :: Fs) rfl rfl rfl ?_
                  refine Cov.q .ro (.move rfl) rfl ?_
                  refine Cov.cutR 4 (β := Unit) (fun y => [(119, .bool (decide (((u220.2 ≠ 0) ∨ (u230.2 ≠ 0)) ∨ (u220.1 ≠ x209))))]) [(74, _), (6, _), (8, _), (10, _), (9, _), (72, _), (73, _), (15, _), (16, _), (19, _)] (fun y => G56 :: Fs) (fun y => []) [_, _, _, _] (fun y => []) [] (fun y => True) ⟨rfl, rfl, rfl, rfl, rfl, rfl, rfl, rfl, rfl, rfl, trivial⟩ [0, 1, 2, 3] rfl [] rfl ?_ ?_
                  · rintro _ _
                    refine Cov.prune [(119, .bool (decide (((u220.2 ≠ 0) ∨ (u230.2 ≠ 0)) ∨ (u220.1 ≠ x209)))), (74, _), (6, _), (8, _), (10, _), (9, _), (72, _), (73, _), (15, _), (16, _), (19, _)] ⟨rfl, rfl, rfl, rfl, rfl, rfl, rfl, rfl, rfl, rfl, rfl, trivial⟩ ?_
                    refine Cov.same (bl' := [_, _, _, _]) (sl' := []) (Fs' := G56 :: Fs) rfl rfl rfl ?_
                    refine Cov.q .ro (.move rfl) rfl ?_
                    refine Cov.cutR 4 (β := Unit) (fun y => [(124, .bool (decide ((((u220.2 ≠ 0) ∨ (u230.2 ≠ 0)) ∨ (u220.1 ≠ x209)) ∨ (u230.1 ≠ x209))))]) [(74, _), (6, _), (8, _), (10, _), (9, _), (72, _), (73, _), (15, _), (16, _)] (fun y => G56 :: Fs) (fun y => []) [_, _, _, _] (fun y => []) [] (fun y => True) ⟨rfl, rfl, rfl, rfl, rfl, rfl, rfl, rfl, rfl, trivial⟩ [0, 1, 2, 3] rfl [] rfl ?_ ?_
                    · rintro _ _
                      refine Cov.prune [(124, .bool (decide ((((u220.2 ≠ 0) ∨ (u230.2 ≠ 0)) ∨ (u220.1 ≠ x209)) ∨ (u230.1 ≠ x209)))), (74, _), (6, _), (8, _), (10, _), (9, _), (72, _), (73, _), (15, _), (16, _)] ⟨rfl, rfl, rfl, rfl, rfl, rfl, rfl, rfl, rfl, rfl, trivial⟩ ?_
                      refine Cov.same (bl' := [_, _, _, _]) (sl' := []) (Fs' := G56 :: Fs) rfl rfl rfl ?_
                      refine Cov.q .ro (.move rfl) rfl ?_
                      refine Cov.cutR 6 (β := Unit) (fun y => [(131, .bool (decide (((((u220.2 ≠ 0) ∨ (u230.2 ≠ 0)) ∨ (u220.1 ≠ x209)) ∨ (u230.1 ≠ x209)) ∨ (u214.2.2 ≠ (x209.size : Int)))))]) [(74, _), (6, _), (8, _), (10, _), (9, _), (72, _), (73, _)] (fun y => G56 :: Fs) (fun y => []) [_, _, _, _] (fun y => []) [] (fun y => True) ⟨rfl, rfl, rfl, rfl, rfl, rfl, rfl, trivial⟩ [0, 1, 2, 3] rfl [] rfl ?_ ?_
                      · rintro _ _
                        refine Cov.prune [(131, .bool (decide (((((u220.2 ≠ 0) ∨ (u230.2 ≠ 0)) ∨ (u220.1 ≠ x209)) ∨ (u230.1 ≠ x209)) ∨ (u214.2.2 ≠ (x209.size : Int))))), (74, _), (6, _), (8, _), (10, _), (9, _), (72, _), (73, _)] ⟨rfl, rfl, rfl, rfl, rfl, rfl, rfl, rfl, trivial⟩ ?_
                        refine Cov.same (bl' := [_, _, _, _]) (sl' := []) (Fs' := G56 :: Fs) rfl rfl rfl ?_
                        refine Cov.region_end ?_
                        refine Cov.cond_dec rfl (fun c250 => ?_) (fun c250 => ?_)
                        · have r251 := ifT r231 c250; clear r231
                          refine Cov.seq ?_
                          refine Cov.region rfl ?_
                          refine Cov.q .ro (.assign rfl) rfl ?_
                          refine Cov.region_end ?_
                          cases r251
                          refine Cov.drop 4 0 [] _ rfl rfl ?_
                          refine Cov.retS (c := ⟨4, none⟩) (.inr ⟨_, rfl⟩) [.tmp 4] [_] rfl Try.func4 Try.results4 ⟨RV.tmp rfl, trivial⟩ (fun _ h => List.mem_cons_of_mem _ h) ⟨rfl, rfl, rfl⟩
                        · have r252 := ifF r231 c250; clear r231
                          refine Cov.skip ?_
                          refine Cov.inBlock ?_
                          refine Cov.region rfl ?_
                          refine Cov.q .ro (.addw rfl rfl) rfl ?_
                          refine Cov.q .ro (.move rfl) rfl ?_
                          refine Cov.region_end ?_
                          refine Cov.drop 1 0 [_, _, _] _ rfl rfl ?_
                          refine Cov.prune _ ?_ (Cov.same rfl rfl rfl (hb198 ((i194 + 1), xs210) ⟨(drop_succ g196), r252⟩ (Nat.lt_succ_self _)))
                          exact ⟨(congrArg (fun z => some (Value.int .i64 z)) (idx_wrap (SlR.len (SlR.mono e57 s50)) g196)), rfl, rfl, rfl, rfl, rfl, rfl, trivial⟩
                      · intro hb247
                        refine Cov.split 125 rfl (fun c246 => ?_) (fun c246 => ?_)
                        · refine Cov.g_off rfl rfl rfl ?_
                          refine Cov.g_off rfl rfl rfl ?_
                          refine Cov.g_off rfl rfl rfl ?_
                          refine Cov.g_off rfl rfl rfl ?_
                          refine Cov.g_off rfl rfl rfl ?_
                          refine Cov.q .ro (.pick_t rfl rfl) rfl ?_
                          refine Cov.prune _ ?_ (Cov.same rfl rfl rfl (hb247 () trivial))
                          exact ⟨dor_t c246, rfl, rfl, rfl, rfl, rfl, rfl, rfl, trivial⟩
                        · refine Cov.g_on rfl ?_
                          refine Cov.q .ro (.fieldAddr 2 rfl fl56_2 ty3.sz rfl) rfl ?_
                          refine Cov.g_on rfl ?_
                          refine Cov.q .ro (.load_own 0 rfl rfl ty3 rfl) rfl ?_
                          refine Cov.g_on rfl ?_
                          refine Cov.q .ro (.move rfl) rfl ?_
                          refine Cov.g_on rfl ?_
                          refine Cov.q .ro (.len_s rfl Try.underlying9) rfl ?_
                          refine Cov.g_on rfl ?_
                          refine Cov.q .ro (.neq rfl rfl) rfl ?_
                          refine Cov.q .ro (.pick_f rfl rfl) rfl ?_
                          refine Cov.prune _ ?_ (Cov.same rfl rfl rfl (hb247 () trivial))
                          exact ⟨dor_f c246, rfl, rfl, rfl, rfl, rfl, rfl, rfl, trivial⟩
                    · intro hb243
                      refine Cov.split 120 rfl (fun c242 => ?_) (fun c242 => ?_)
                      · refine Cov.g_off rfl rfl rfl ?_
                        refine Cov.g_off rfl rfl rfl ?_
                        refine Cov.g_off rfl rfl rfl ?_
                        refine Cov.q .ro (.pick_t rfl rfl) rfl ?_
                        refine Cov.prune _ ?_ (Cov.same rfl rfl rfl (hb243 () trivial))
                        exact ⟨dor_t c242, rfl, rfl, rfl, rfl, rfl, rfl, rfl, rfl, rfl, trivial⟩
                      · refine Cov.g_on rfl ?_
                        refine Cov.q .ro (.move rfl) rfl ?_
                        refine Cov.g_on rfl ?_
                        refine Cov.q .ro (.move rfl) rfl ?_
                        refine Cov.g_on rfl ?_
                        refine Cov.q .ro (.neq_s rfl rfl) rfl ?_
                        refine Cov.q .ro (.pick_f rfl rfl) rfl ?_
                        refine Cov.prune _ ?_ (Cov.same rfl rfl rfl (hb243 () trivial))
                        exact ⟨dor_f c242, rfl, rfl, rfl, rfl, rfl, rfl, rfl, rfl, rfl, trivial⟩
                  · intro hb239
                    refine Cov.split 115 rfl (fun c238 => ?_) (fun c238 => ?_)
                    · refine Cov.g_off rfl rfl rfl ?_
                      refine Cov.g_off rfl rfl rfl ?_
                      refine Cov.g_off rfl rfl rfl ?_
                      refine Cov.q .ro (.pick_t rfl rfl) rfl ?_
                      refine Cov.prune _ ?_ (Cov.same rfl rfl rfl (hb239 () trivial))
                      exact ⟨dor_t c238, rfl, rfl, rfl, rfl, rfl, rfl, rfl, rfl, rfl, rfl, trivial⟩
                    · refine Cov.g_on rfl ?_
                      refine Cov.q .ro (.move rfl) rfl ?_
                      refine Cov.g_on rfl ?_
                      refine Cov.q .ro (.move rfl) rfl ?_
                      refine Cov.g_on rfl ?_
                      refine Cov.q .ro (.neq_s rfl rfl) rfl ?_
                      refine Cov.q .ro (.pick_f rfl rfl) rfl ?_
                      refine Cov.prune _ ?_ (Cov.same rfl rfl rfl (hb239 () trivial))
                      exact ⟨dor_f c238, rfl, rfl, rfl, rfl, rfl, rfl, rfl, rfl, rfl, rfl, trivial⟩
                · intro hb235
                  refine Cov.split 111 rfl (fun c234 => ?_) (fun c234 => ?_)
                  · refine Cov.g_off rfl rfl rfl ?_
                    refine Cov.g_off rfl rfl rfl ?_
                    refine Cov.q .ro (.pick_t rfl rfl) rfl ?_
                    refine Cov.prune _ ?_ (Cov.same rfl rfl rfl (hb235 () trivial))
                    exact ⟨dor_t c234, rfl, rfl, rfl, rfl, rfl, rfl, rfl, rfl, rfl, rfl, rfl, trivial⟩
                  · refine Cov.g_on rfl ?_
                    refine Cov.q .ro (.move rfl) rfl ?_
                    refine Cov.g_on rfl ?_
                    refine Cov.q .ro (.neq rfl rfl) rfl ?_
                    refine Cov.q .ro (.pick_f rfl rfl) rfl ?_
                    refine Cov.prune _ ?_ (Cov.same rfl rfl rfl (hb235 () trivial))
                    exact ⟨dor_f c234, rfl, rfl, rfl, rfl, rfl, rfl, rfl, rfl, rfl, rfl, rfl, trivial⟩
            · intro hb253
              refine Cov.block ?_
              refine Cov.loop2 (α := Nat × List (List Int)) (fun y => [(63, .int .i64 (y.1 : Int))]) [(6, _), (7, _), (8, _), (10, _), (9, _), (61, _), (62, _)] (fun y => []) (fun y => []) [_, _, _] (fun y => []) [] (fun y => List.drop y.1 u52.1 = y.2 ∧ law13_LayoutBack_L3 (law13_LayoutBack_J2 u30.1 (w64 (1 + (w64 (Int.tmod x1 20)))) u52.1 u52.2.1.2) (w64 (1 + (w64 (Int.tmod x1 20)))) u52.2.1.1 u23.1 u30.2.2 y.2  = some r) (fun y => y.2.length) (0, u52.1) ⟨rfl, r84⟩ ⟨rfl, rfl, rfl, rfl, rfl, rfl, rfl, rfl, trivial⟩ rfl rfl rfl (fun y hI hb278 => ?_)
              obtain ⟨i274, w275⟩ := y
              obtain ⟨g276, r277⟩ := hI
              try dsimp only at g276 r277
              refine Cov.prune [(63, .int .i64 (i274 : Int)), (6, _), (7, _), (8, _), (10, _), (9, _), (61, _), (62, _)] ⟨rfl, rfl, rfl, rfl, rfl, rfl, rfl, rfl, trivial⟩ ?_
              refine Cov.same (bl' := [_, _, _]) (sl' := []) (Fs' := G56 :: Fs) rfl rfl rfl ?_
              cases w275 with
              | nil =>
                rw [law13_LayoutBack_L3] at r277; try dsimp only at r277
                refine Cov.seq ?_
                refine Cov.region rfl ?_
                refine Cov.q .ro (.lss rfl rfl) rfl ?_
                refine Cov.region_end ?_
                refine Cov.seq ?_
                refine Cov.cond_dec rfl (fun c => absurd c (drop_nil g276)) (fun _ => ?_)
                refine Cov.exit rfl ?_
                refine Cov.prune _ ?_ (Cov.same rfl rfl rfl (hb253 (u52.2.1.1, u23.1, u30.2.2) r277))
                exact ⟨rfl, rfl, rfl, rfl, rfl, trivial⟩
              | cons x289 xs290 =>
                have r288 : law13_LayoutBack_B3 (law13_LayoutBack_J2 u30.1 (w64 (1 + (w64 (Int.tmod x1 20)))) u52.1 u52.2.1.2) (w64 (1 + (w64 (Int.tmod x1 20)))) u52.2.1.1 u23.1 u30.2.2 (law13_LayoutBack_L3 (law13_LayoutBack_J2 u30.1 (w64 (1 + (w64 (Int.tmod x1 20)))) u52.1 u52.2.1.2) (w64 (1 + (w64 (Int.tmod x1 20)))) u52.2.1.1 u23.1 u30.2.2 xs290) x289  = some r := r277; clear r277; unfold law13_LayoutBack_B3 at r288; try dsimp only at r288
                refine Cov.seq ?_
                refine Cov.region rfl ?_
                refine Cov.q .ro (.lss rfl rfl) rfl ?_
                refine Cov.region_end ?_
                refine Cov.seq ?_
                refine Cov.cond_dec rfl (fun _ => ?_) (fun c => absurd (drop_lt g276) c)
                refine Cov.skip ?_
                refine Cov.seq ?_
                refine Cov.block ?_
                refine Cov.seq ?_
                refine Cov.region rfl ?_
                obtain ⟨c291, p292, h293⟩ := SlR.get s62 (drop_idx g276)
                obtain ⟨a294, k295, rfl, s296⟩ := h293
                refine Cov.q .ro (.idxR s62 rfl rfl (drop_idx g276) sl26 ty22.sz) rfl ?_
                refine Cov.q .ro (.load_rp p292 List.mem_cons_self rfl ty22 rfl) rfl ?_
                refine Cov.q .ro (.assign rfl) rfl ?_
                refine Cov.region_end ?_
                refine Cov.seq ?_
                refine Cov.region rfl ?_
                refine Cov.q .ro (.move rfl) rfl ?_
                refine Cov.q .ro (.len_sl rfl rfl sl22) rfl ?_
                refine Cov.q .ro (.move rfl) rfl ?_
                refine Cov.q .ro (.neq rfl rfl) rfl ?_
                refine Cov.region_end ?_
                refine Cov.cond_dec rfl (fun c297 => ?_) (fun c297 => ?_)
                · have r298 := ifT r288 c297; clear r288
                  refine Cov.seq ?_
                  refine Cov.region rfl ?_
                  refine Cov.q .ro (.assign rfl) rfl ?_
                  refine Cov.region_end ?_
                  refine Cov.prune [(4, _)] ⟨rfl, trivial⟩ ?_
                  cases r298
                  refine Cov.drop 3 0 [] _ rfl rfl ?_
                  refine Cov.retS (c := ⟨4, none⟩) (.inr ⟨_, rfl⟩) [.tmp 4] [_] rfl Try.func4 Try.results4 ⟨RV.tmp rfl, trivial⟩ (fun _ h => List.mem_cons_of_mem _ h) ⟨rfl, rfl, rfl⟩
                · have r299 := ifF r288 c297; clear r288
                  refine Cov.skip ?_
                  refine Cov.inBlock ?_
                  refine Cov.region rfl ?_
                  refine Cov.q .ro (.addw rfl rfl) rfl ?_
                  refine Cov.q .ro (.move rfl) rfl ?_
                  refine Cov.region_end ?_
                  refine Cov.prune _ ?_ (Cov.same rfl rfl rfl (hb278 ((i274 + 1), xs290) ⟨(drop_succ g276), r299⟩ (Nat.lt_succ_self _)))
                  exact ⟨(congrArg (fun z => some (Value.int .i64 z)) (idx_wrap (SlR.len s62) g276)), rfl, rfl, rfl, rfl, rfl, rfl, rfl, trivial⟩
        · intro hb76
          refine Cov.split 54 rfl (fun c75 => ?_) (fun c75 => ?_)
          · have r300 := ifT h78 c75
            refine Cov.g_off rfl rfl rfl ?_
            refine Cov.g_off rfl rfl rfl ?_
            refine Cov.g_off rfl rfl rfl ?_
            refine Cov.g_off rfl rfl rfl ?_
            refine Cov.g_off rfl rfl rfl ?_
            refine Cov.q .ro (.pick_t rfl rfl) rfl ?_
            refine Cov.prune _ ?_ (Cov.same rfl rfl rfl (hb76 () trivial))
            exact ⟨sval r300, rfl, rfl, rfl, rfl, rfl, trivial⟩
          · have r301 := ifF h78 c75
            refine Cov.g_on rfl ?_
            refine Cov.q .ro (.load_own_a 0 [_, _] rfl rfl ty34 rfl) rfl ?_
            refine Cov.g_on rfl ?_
            refine Cov.q .ro (.move rfl) rfl ?_
            refine Cov.g_on rfl ?_
            refine Cov.q .ro (.len_sl rfl rfl sl26) rfl ?_
            refine Cov.g_on rfl ?_
            obtain ⟨u302, hu302, r303⟩ := bind_some r301; clear r301
            refine Cov.callS (b1 := []) (b2 := [_, _, _]) (s1 := []) [_, _] [] .ro rfl rfl Try.call27 rfl rfl (layout_Check_c (G := G56) List.mem_cons_self s65 hu302) rfl (fun v305 bo so h304 => ?_)
            obtain ⟨rfl, rfl, rfl⟩ := h304
            refine Cov.same (bl' := [_, _, _]) (sl' := []) rfl rfl rfl ?_
            refine Cov.g_on rfl ?_
            refine Cov.q .ro (.neq rfl rfl) rfl ?_
            refine Cov.q .ro (.pick_f rfl rfl) rfl ?_
            refine Cov.prune _ ?_ (Cov.same rfl rfl rfl (hb76 () trivial))
            exact ⟨sval r303, rfl, rfl, rfl, rfl, rfl, trivial⟩
      · intro hb68
        refine Cov.split 46 rfl (fun c67 => ?_) (fun c67 => ?_)
        · refine Cov.g_off rfl rfl rfl ?_
          refine Cov.g_off rfl rfl rfl ?_
          refine Cov.g_off rfl rfl rfl ?_
          refine Cov.g_off rfl rfl rfl ?_
          refine Cov.g_off rfl rfl rfl ?_
          refine Cov.g_off rfl rfl rfl ?_
          refine Cov.q .ro (.pick_t rfl rfl) rfl ?_
          refine Cov.prune _ ?_ (Cov.same rfl rfl rfl (hb68 () trivial))
          exact ⟨dor_t c67, rfl, rfl, rfl, rfl, rfl, trivial⟩
        · refine Cov.g_on rfl ?_
          refine Cov.q .ro (.fieldAddr 1 rfl fl34_1 ty32.sz rfl) rfl ?_
          refine Cov.g_on rfl ?_
          refine Cov.q .ro (.load_own 0 rfl rfl ty32 rfl) rfl ?_
          refine Cov.g_on rfl ?_
          refine Cov.q .ro (.len_sl rfl rfl sl32) rfl ?_
          refine Cov.g_on rfl ?_
          refine Cov.q .ro (.move rfl) rfl ?_
          refine Cov.g_on rfl ?_
          refine Cov.q .ro (.len_sl rfl rfl sl25) rfl ?_
          refine Cov.g_on rfl ?_
          refine Cov.q .ro (.neq rfl rfl) rfl ?_
          refine Cov.q .ro (.pick_f rfl rfl) rfl ?_
          refine Cov.prune _ ?_ (Cov.same rfl rfl rfl (hb68 () trivial))
          exact ⟨dor_f c67, rfl, rfl, rfl, rfl, rfl, trivial⟩

end Go.Proofs.Ythgmcgldmahgeaa
