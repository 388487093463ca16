/- The walks. Printed by wip/lift/drive.py. -/
import Derived.Test.YtbhmhindommaeaaW3
namespace Go.Proofs.Ytbhmhindommaeaa
open Go.RowKit
set_option linter.unusedSimpArgs false
set_option linter.unusedVariables false
set_option synthInstance.maxSize 2000
set_option synthInstance.maxHeartbeats 400000

set_option maxHeartbeats 4000000 in
set_option maxRecDepth 100000 in
theorem law19_CuckooPlaces_c {Fs : List Hp} {G : Hp} {a0 : Option Addr} {k0 : Nat} {x0 : List Int} {r : Bool} (hG : G ∈ Fs) (s0 : SlR (Rep.int .i64) G a0 k0 x0) (h : law19_CuckooPlaces x0 = some r) : RetS Try.prog 6 #[.slice a0 x0.length k0] Fs [] [] (fun v bo so => v = .bool r ∧ bo = [] ∧ so = []) := by
  unfold law19_CuckooPlaces at h
  try dsimp only at h
  refine RetS.of (vs := [_]) Try.func6 rfl Try.ntmps6 [(0, _)] ⟨rfl, trivial⟩ rfl hG fun w0 S0 hS0 B0 => ?_
  refine Cov.seq ?_
  refine Cov.region rfl ?_
  refine Cov.q .ro (.assign rfl) rfl ?_
  refine Cov.region_end ?_
  refine Cov.seq ?_
  refine Cov.seq ?_
  refine Cov.region rfl ?_
  obtain ⟨u1, hu1, r2⟩ := bind_some h; clear h
  refine Cov.callS (b1 := []) (b2 := []) (s1 := []) [] [] .ro rfl rfl Try.call9 rfl rfl (law19_sane_c (G := G) List.mem_cons_self  hu1) rfl (fun v4 bo so h3 => ?_)
  obtain ⟨rfl, rfl, rfl⟩ := h3
  refine Cov.same (bl' := []) (sl' := []) rfl rfl rfl ?_
  refine Cov.q .ro (.not rfl) rfl ?_
  refine Cov.region_end ?_
  refine Cov.cond rfl (fun c5 => ?_) (fun c5 => ?_)
  · have r6 := ifT r2 c5; clear r2
    refine Cov.seq ?_
    refine Cov.region rfl ?_
    refine Cov.q .ro (.assign rfl) rfl ?_
    refine Cov.region_end ?_
    cases r6
    refine Cov.retS (c := ⟨6, none⟩) (.inr ⟨_, rfl⟩) [.tmp 2] [_] rfl Try.func6 Try.results6 ⟨RV.tmp rfl, trivial⟩ (fun _ h => List.mem_cons_of_mem _ h) ⟨rfl, rfl, rfl⟩
  · have r7 := ifBF r2 c5; clear r2
    refine Cov.skip ?_
    refine Cov.seq ?_
    refine Cov.seq ?_
    refine Cov.region rfl ?_
    refine Cov.q .ro (.move rfl) rfl ?_
    obtain ⟨u8, hu8, r9⟩ := bind_some r7; clear r7
    refine Cov.callS (b1 := []) (b2 := []) (s1 := []) [_] [] .ro rfl rfl Try.call10 rfl rfl (make_Few_c (G := G) List.mem_cons_self s0 hu8) rfl (fun v11 bo so h10 => ?_)
    obtain ⟨rfl, rfl, rfl⟩ := h10
    refine Cov.same (bl' := []) (sl' := []) rfl rfl rfl ?_
    refine Cov.q .ro (.not rfl) rfl ?_
    refine Cov.region_end ?_
    refine Cov.cond rfl (fun c12 => ?_) (fun c12 => ?_)
    · have r13 := ifT r9 c12; clear r9
      refine Cov.seq ?_
      refine Cov.region rfl ?_
      refine Cov.q .ro (.assign rfl) rfl ?_
      refine Cov.region_end ?_
      cases r13
      refine Cov.retS (c := ⟨6, none⟩) (.inr ⟨_, rfl⟩) [.tmp 2] [_] rfl Try.func6 Try.results6 ⟨RV.tmp rfl, trivial⟩ (fun _ h => List.mem_cons_of_mem _ h) ⟨rfl, rfl, rfl⟩
    · have r14 := ifBF r9 c12; clear r9
      refine Cov.skip ?_
      refine Cov.seq ?_
      refine Cov.region rfl ?_
      refine Cov.q .ro (.move rfl) rfl ?_
      obtain ⟨u15, hu15, r16⟩ := bind_some r14; clear r14
      refine Cov.callS (b1 := []) (b2 := []) (s1 := []) [_] [] .ro rfl rfl Try.call12 rfl rfl (make_New_c (G := G) List.mem_cons_self s0 hu15) rfl (fun v18 bo so h17 => ?_)
      obtain ⟨a20, k21, b19, rfl, rfl, rfl, s22⟩ := h17
      refine Cov.same (bl' := [_]) (sl' := []) rfl rfl rfl ?_
      refine Cov.q .ro (.assign rfl) rfl ?_
      refine Cov.region_end ?_
      refine Cov.seq ?_
      refine Cov.region rfl ?_
      refine Cov.q .ro (.move rfl) rfl ?_
      obtain ⟨u23, hu23, r24⟩ := bind_some r16; clear r16
      refine Cov.callW (b1 := [_]) (b2 := []) (s1 := []) [_] [] .ro rfl rfl Try.call11 rfl rfl (make_Hashing_c (G := G) List.mem_cons_self s22 hu23) rfl B0 (fun v26 bo so G27 e28 B29 h25 => ?_)
      obtain ⟨a31, k32, a34, k35, rfl, rfl, rfl, s33, s36⟩ := h25
      refine Cov.same (bl' := [_]) (sl' := []) rfl rfl rfl ?_
      refine Cov.alloc .ro ty25 rfl (fun b37 hb37 => ?_)
      refine Cov.store 0 [_, _] [_, _] .ro rfl rfl rfl ty25 rfl rfl rfl rfl ?_
      refine Cov.region_end ?_
      refine Cov.seq ?_
      refine Cov.region rfl ?_
      refine Cov.q .ro (.move rfl) rfl ?_
      refine Cov.q .ro (.fieldAddr 0 rfl fl25_0 ty3.sz rfl) rfl ?_
      refine Cov.q .ro (.load_own 0 rfl rfl ty3 rfl) rfl ?_
      obtain ⟨u38, hu38, r39⟩ := bind_some r24; clear r24
      refine Cov.pull 1 rfl [_, _] rfl ?_
      refine Cov.callS (b1 := [_]) (b2 := [_]) (s1 := []) [_, _] [] .ro rfl rfl Try.call16 rfl rfl (law19_items_c (G := G27) List.mem_cons_self s36 hu38) rfl (fun v41 bo so h40 => ?_)
      obtain ⟨a47, k48, a43, k44, cs45, rfl, rfl, rfl, s49, o46⟩ := h40
      refine Cov.same (bl' := [_, _]) (sl' := [_]) rfl rfl rfl ?_
      refine Cov.q .ro (.assign rfl) rfl ?_
      refine Cov.region_end ?_
      refine Cov.prune [(4, _), (5, _)] ⟨rfl, rfl, trivial⟩ ?_
      refine Cov.seq ?_
      refine Cov.region rfl ?_
      refine Cov.q .ro (.load_own_a 1 [_, _] rfl rfl ty25 rfl) rfl ?_
      refine Cov.q .ro (.move rfl) rfl ?_
      refine Cov.freezeR 0 rfl rfl o46 [] rfl B29 (fun G50 e51 B52 s53 => ?_)
      obtain ⟨u55, hu55, r56⟩ := bind_some r39; clear r39
      refine Cov.callW (b1 := []) (b2 := [_, _]) (s1 := []) [_, _] [] .ro rfl rfl Try.call17 rfl rfl (cuckoo_Assign_c (G := G50) List.mem_cons_self (SlR.mono e51 s33) s53 hu55) rfl B52 (fun v58 bo so G59 e60 B61 h57 => ?_)
      obtain ⟨a63, k64, rfl, rfl, rfl, s65⟩ := h57
      refine Cov.same (bl' := [_, _]) (sl' := []) rfl rfl rfl ?_
      refine Cov.q .ro (.move rfl) rfl ?_
      refine Cov.q .ro (.extract rfl rfl) rfl ?_
      refine Cov.q .ro (.extract rfl rfl) rfl ?_
      refine Cov.alloc .ro ty43 rfl (fun b66 hb66 => ?_)
      refine Cov.store 0 [_] [_, _, _] .ro rfl rfl rfl ty43 rfl rfl rfl rfl ?_
      refine Cov.q .ro (.assign rfl) rfl ?_
      refine Cov.region_end ?_
      refine Cov.seq ?_
      refine Cov.seq ?_
      refine Cov.drawL (.q 0 (.q 1 (.q 2 (.q 3 (.q 4 (.q 5 (.e 6 1 (.e 7 1 (.q 8 (.q 9 (.q 10 (.q 11 (.q 12 (.q 13 (.q 14 (.q 15 (.q 16 .nil))))))))))))))))) [_, _, _] (by kernel_rfl) (by kernel_rfl) (pick_mem [0, 1, 2] rfl) ?_
      refine Cov.dq (.move rfl) rfl ?_
      refine Cov.dq (.eql rfl rfl) rfl ?_
      refine Cov.dq (.load_own_a 2 [_, _] rfl rfl ty25 rfl) rfl ?_
      refine Cov.dq (.move rfl) rfl ?_
      refine Cov.dq (.fieldAddr 0 rfl fl25_0 ty3.sz rfl) rfl ?_
      refine Cov.dq (.load_own 2 rfl rfl ty3 rfl) rfl ?_
      obtain ⟨u67, hu67, r68⟩ := bind_some r56; clear r56
      refine Cov.makeR (G := G59) (Q := Rep.bool) .d1 sl49 ty4 rfl rfl rfl ((Rep.boolI false) :) rfl rfl hu67 rfl rfl (fun b69 cs70 hb69 o71 => ?_)
      refine Cov.clsL (HpLe.refl _) (pick_mem [0, 1, 2] rfl) ?_
      refine Cov.toV 0 rfl (fun vb73 po74 va75 vb76 => ?_)
      obtain ⟨u77, hu77, r78⟩ := bind_some r68; clear r68
      refine Cov.callS (b1 := []) (b2 := [_, _, _]) (s1 := [_]) [_, _, _] [] .d1 rfl rfl Try.call20 rfl rfl (law19_possible_c (G := G59) List.mem_cons_self (SlR.mono (HpLe.trans e51 e60) s33) (SlR.mono e60 s53) va75 o71 hu77) rfl (fun v80 bo so h79 => ?_)
      obtain ⟨cs81, rfl, rfl, rfl, o82, hl83⟩ := h79
      refine Cov.same (bl' := [_, _, _]) (sl' := [_]) rfl rfl rfl ?_
      refine Cov.ofV 0 rfl vb76 hl83 o82 rfl ?_
      refine Cov.reval 40 hl83 rfl ?_
      refine Cov.clsL (HpLe.refl _) (pick_mem [0, 1, 2] rfl) ?_
      refine Cov.dq (.neq_b Try.underlying4 rfl rfl) rfl ?_
      refine Cov.dq (.move rfl) rfl ?_
      refine Cov.cutD 7 (β := Unit) (fun y => [(50, .bool (decide (((decide (u55.2 = 0)) ≠ u77.1) ∨ ((u55.2 ≠ 0) ∧ (u55.2 ≠ 15)))))]) [(4, _), (5, _), (6, _), (7, _)] (fun y => G59 :: Fs) (fun y => []) [_, _, _] (fun y => []) [_] (fun y => True) ⟨rfl, rfl, rfl, rfl, trivial⟩ [0, 1, 2] rfl [0] rfl ?_ ?_
      · rintro _ _
        refine Cov.prune [(50, .bool (decide (((decide (u55.2 = 0)) ≠ u77.1) ∨ ((u55.2 ≠ 0) ∧ (u55.2 ≠ 15))))), (4, _), (5, _), (6, _), (7, _)] ⟨rfl, rfl, rfl, rfl, rfl, trivial⟩ ?_
        refine Cov.same (bl' := [_, _, _]) (sl' := [_]) (Fs' := G59 :: Fs) rfl rfl rfl ?_
        refine Cov.draw_end ?_
        refine Cov.cond_dec rfl (fun c93 => ?_) (fun c93 => ?_)
        · have r94 := ifT r78 c93; clear r78
          refine Cov.seq ?_
          refine Cov.region rfl ?_
          refine Cov.q .ro (.assign rfl) rfl ?_
          refine Cov.region_end ?_
          cases r94
          refine Cov.drop 3 0 [] _ rfl rfl ?_
          refine Cov.drop 0 1 _ [] rfl rfl ?_
          refine Cov.retS (c := ⟨6, none⟩) (.inr ⟨_, rfl⟩) [.tmp 2] [_] rfl Try.func6 Try.results6 ⟨RV.tmp rfl, trivial⟩ (fun _ h => List.mem_cons_of_mem _ h) ⟨rfl, rfl, rfl⟩
        · have r95 := ifF r78 c93; clear r78
          refine Cov.skip ?_
          refine Cov.seq ?_
          refine Cov.seq ?_
          refine Cov.region rfl ?_
          refine Cov.q .ro (.move rfl) rfl ?_
          refine Cov.q .ro (.neq rfl rfl) rfl ?_
          refine Cov.region_end ?_
          refine Cov.cond_dec rfl (fun c96 => ?_) (fun c96 => ?_)
          · have r97 := ifT r95 c96; clear r95
            refine Cov.seq ?_
            refine Cov.region rfl ?_
            refine Cov.q .ro (.assign rfl) rfl ?_
            refine Cov.region_end ?_
            cases r97
            refine Cov.drop 3 0 [] _ rfl rfl ?_
            refine Cov.drop 0 1 _ [] rfl rfl ?_
            refine Cov.retS (c := ⟨6, none⟩) (.inr ⟨_, rfl⟩) [.tmp 2] [_] rfl Try.func6 Try.results6 ⟨RV.tmp rfl, trivial⟩ (fun _ h => List.mem_cons_of_mem _ h) ⟨rfl, rfl, rfl⟩
          · have r98 := ifF r95 c96; clear r95
            refine Cov.skip ?_
            refine Cov.seq ?_
            refine Cov.seq ?_
            refine Cov.region rfl ?_
            refine Cov.q .ro (.load_own_a 2 [_, _] rfl rfl ty25 rfl) rfl ?_
            refine Cov.q .ro (.move rfl) rfl ?_
            refine Cov.q .ro (.load_own_a 0 [_] rfl rfl ty43 rfl) rfl ?_
            obtain ⟨u99, hu99, r100⟩ := bind_some r98; clear r98
            refine Cov.callS (b1 := []) (b2 := [_, _, _]) (s1 := []) [_, _, _] [] .ro rfl rfl Try.call19 rfl rfl (cuckoo_Fits_c (G := G59) List.mem_cons_self (SlR.mono (HpLe.trans e51 e60) s33) (SlR.mono e60 s53) s65 hu99) rfl (fun v102 bo so h101 => ?_)
            obtain ⟨rfl, rfl, rfl⟩ := h101
            refine Cov.same (bl' := [_, _, _]) (sl' := [_]) rfl rfl rfl ?_
            refine Cov.q .ro (.not rfl) rfl ?_
            refine Cov.region_end ?_
            refine Cov.cond rfl (fun c103 => ?_) (fun c103 => ?_)
            · have r104 := ifT r100 c103; clear r100
              refine Cov.seq ?_
              refine Cov.region rfl ?_
              refine Cov.q .ro (.assign rfl) rfl ?_
              refine Cov.region_end ?_
              cases r104
              refine Cov.drop 3 0 [] _ rfl rfl ?_
              refine Cov.drop 0 1 _ [] rfl rfl ?_
              refine Cov.retS (c := ⟨6, none⟩) (.inr ⟨_, rfl⟩) [.tmp 2] [_] rfl Try.func6 Try.results6 ⟨RV.tmp rfl, trivial⟩ (fun _ h => List.mem_cons_of_mem _ h) ⟨rfl, rfl, rfl⟩
            · have r105 := ifBF r100 c103; clear r100
              refine Cov.skip ?_
              refine Cov.seq ?_
              refine Cov.region rfl ?_
              refine Cov.q .ro (.fieldAddr 0 rfl fl25_0 ty3.sz rfl) rfl ?_
              refine Cov.q .ro (.load_own 2 rfl rfl ty3 rfl) rfl ?_
              obtain ⟨u106, hu106, r107⟩ := bind_some r105; clear r105
              refine Cov.makeR (G := G59) (Q := Rep.bool) .ro sl49 ty4 rfl rfl rfl ((Rep.boolI false) :) rfl rfl hu106 rfl rfl (fun b108 cs109 hb108 o110 => ?_)
              refine Cov.q .ro (.assign rfl) rfl ?_
              refine Cov.region_end ?_
              refine Cov.seq ?_
              refine Cov.seq ?_
              refine Cov.region rfl ?_
              refine Cov.q .ro (.move rfl) rfl ?_
              refine Cov.q .ro (.len_sl rfl rfl sl22) rfl ?_
              refine Cov.q .ro (.move rfl) rfl ?_
              refine Cov.region_end ?_
              refine Cov.block ?_
              refine Cov.pull 2 rfl [_, _, _] rfl ?_
              refine Cov.pull 2 rfl [_, _, _] rfl ?_
              refine Cov.loop2 (α := Nat × List Int × List Bool × Option Addr × Nat × List Value × Int × Int) (fun y => [(8, .slice y.2.2.2.1 y.2.2.1.length y.2.2.2.2.1), (63, .int .i64 (y.1 : Int))]) [(4, _), (5, _), (6, _), (61, _), (62, _)] (fun y => []) (fun y => [(b19, .cells #[.slice a47 u38.2.1.length k48, .int .i64 y.2.2.2.2.2.2.1] 64 (0, 0)), (b37, .cells #[.int .i64 y.2.2.2.2.2.2.2, .slice a31 u23.1.2.length k32] 25 (0, 0))]) [_] (fun y => [.s (.slice y.2.2.2.1 y.2.2.1.length y.2.2.2.2.1) 4 1 y.2.2.1.length y.2.2.2.2.2.1]) [_] (fun y => OL Rep.bool G59 y.2.2.2.2.2.1 y.2.2.1 ∧ List.drop y.1 u38.1 = y.2.1 ∧ law19_CuckooPlaces_L2 u38.1 u23.1.2 u55.1 y.2.1 y.1 y.2.2.1 y.2.2.2.2.2.2.1 y.2.2.2.2.2.2.2 = some r) (fun y => y.2.1.length) (0, u38.1, u106, (some ⟨b108, 0, none⟩), u106.length, cs109, u38.2.2, u23.1.1) ⟨o110, rfl, r107⟩ ⟨rfl, rfl, rfl, rfl, rfl, rfl, rfl, trivial⟩ rfl rfl rfl (fun y hI hb355 => ?_)
              obtain ⟨i343, w344, v346, a347, k348, cs349, v352, v353⟩ := y
              obtain ⟨o350, g345, r354⟩ := hI
              try dsimp only at o350 g345 r354
              refine Cov.prune [(8, .slice a347 v346.length k348), (63, .int .i64 (i343 : Int)), (4, _), (5, _), (6, _), (61, _), (62, _)] ⟨rfl, rfl, rfl, rfl, rfl, rfl, rfl, trivial⟩ ?_
              refine Cov.same (bl' := [(b19, .cells #[.slice a47 u38.2.1.length k48, .int .i64 v352] 64 (0, 0)), (b37, .cells #[.int .i64 v353, .slice a31 u23.1.2.length k32] 25 (0, 0)), _]) (sl' := [.s (.slice a347 v346.length k348) 4 1 v346.length cs349, _]) (Fs' := G59 :: Fs) rfl rfl rfl ?_
              cases w344 with
              | nil =>
                rw [law19_CuckooPlaces_L2] at r354; try dsimp only at r354
                refine Cov.seq ?_
                refine Cov.region rfl ?_
                refine Cov.q .ro (.lss rfl rfl) rfl ?_
                refine Cov.region_end ?_
                refine Cov.seq ?_
                refine Cov.cond_dec rfl (fun c => absurd c (drop_nil g345)) (fun _ => ?_)
                refine Cov.exit rfl ?_
                refine Cov.seq ?_
                refine Cov.region rfl ?_
                refine Cov.q .ro (.assign rfl) rfl ?_
                refine Cov.region_end ?_
                cases r354
                refine Cov.drop 3 0 [] _ rfl rfl ?_
                refine Cov.drop 0 2 _ [] rfl rfl ?_
                refine Cov.retS (c := ⟨6, none⟩) (.inr ⟨_, rfl⟩) [.tmp 2] [_] rfl Try.func6 Try.results6 ⟨RV.tmp rfl, trivial⟩ (fun _ h => List.mem_cons_of_mem _ h) ⟨rfl, rfl, rfl⟩
              | cons x363 xs364 =>
                have r362 : law19_CuckooPlaces_B2 u38.1 u23.1.2 u55.1 (law19_CuckooPlaces_L2 u38.1 u23.1.2 u55.1 xs364 (i343 + 1)) x363 i343 v346 v352 v353 = some r := r354; clear r354; unfold law19_CuckooPlaces_B2 at r362; try dsimp only at r362
                refine Cov.seq ?_
                refine Cov.region rfl ?_
                refine Cov.q .ro (.lss rfl rfl) rfl ?_
                refine Cov.region_end ?_
                refine Cov.seq ?_
                refine Cov.cond_dec rfl (fun _ => ?_) (fun c => absurd (drop_lt g345) c)
                refine Cov.skip ?_
                refine Cov.seq ?_
                refine Cov.block ?_
                refine Cov.seq ?_
                refine Cov.region rfl ?_
                refine Cov.q .ro (.move rfl) rfl ?_
                obtain ⟨c365, p366, h367⟩ := SlR.get (SlR.mono e60 s53) (drop_idx g345)
                obtain rfl := h367
                refine Cov.q .ro (.idxR (SlR.mono e60 s53) rfl rfl (drop_idx g345) sl22 ty3.sz) rfl ?_
                refine Cov.q .ro (.load_rp p366 List.mem_cons_self rfl ty3 rfl) rfl ?_
                refine Cov.q .ro (.assign rfl) rfl ?_
                refine Cov.q .ro (.assign rfl) rfl ?_
                refine Cov.region_end ?_
                refine Cov.seq ?_
                refine Cov.region rfl ?_
                refine Cov.q .ro (.load_own_a 1 [_, _] rfl rfl ty25 rfl) rfl ?_
                refine Cov.q .ro (.move rfl) rfl ?_
                obtain ⟨u368, hu368, r369⟩ := bind_some r362; clear r362
                refine Cov.callS (b1 := []) (b2 := [_, _, _]) (s1 := []) [_, _] [] .ro rfl rfl Try.call21 rfl rfl (cuckoo_Homes_c (G := G59) List.mem_cons_self (SlR.mono (HpLe.trans e51 e60) s33) hu368) rfl (fun v371 bo so h370 => ?_)
                obtain ⟨a373, k374, cs375, rfl, rfl, rfl, o376⟩ := h370
                refine Cov.same (bl' := [_, _, _]) (sl' := [_, _, _]) rfl rfl rfl ?_
                refine Cov.q .ro (.move rfl) rfl ?_
                refine Cov.q .ro (.extract rfl rfl) rfl ?_
                refine Cov.q .ro (.extract rfl rfl) rfl ?_
                refine Cov.q .ro (.assign rfl) rfl ?_
                refine Cov.q .ro (.assign rfl) rfl ?_
                refine Cov.region_end ?_
                refine Cov.seq ?_
                refine Cov.seq ?_
                refine Cov.region rfl ?_
                refine Cov.q .ro (.move rfl) rfl ?_
                refine Cov.q .ro (.neq rfl rfl) rfl ?_
                refine Cov.region_end ?_
                refine Cov.prune [(8, _), (63, _), (4, _), (5, _), (6, _), (61, _), (62, _), (9, _), (11, _), (75, _)] ⟨rfl, rfl, rfl, rfl, rfl, rfl, rfl, rfl, rfl, rfl, trivial⟩ ?_
                refine Cov.cond_dec rfl (fun c377 => ?_) (fun c377 => ?_)
                · have r378 := ifT r369 c377; clear r369
                  refine Cov.seq ?_
                  refine Cov.region rfl ?_
                  refine Cov.q .ro (.assign rfl) rfl ?_
                  refine Cov.region_end ?_
                  cases r378
                  refine Cov.drop 3 0 [] _ rfl rfl ?_
                  refine Cov.drop 0 3 _ [] rfl rfl ?_
                  refine Cov.retS (c := ⟨6, none⟩) (.inr ⟨_, rfl⟩) [.tmp 2] [_] rfl Try.func6 Try.results6 ⟨RV.tmp rfl, trivial⟩ (fun _ h => List.mem_cons_of_mem _ h) ⟨rfl, rfl, rfl⟩
                · have r379 := ifF r369 c377; clear r369
                  refine Cov.skip ?_
                  refine Cov.seq ?_
                  refine Cov.region rfl ?_
                  refine Cov.q .ro (.move rfl) rfl ?_
                  refine Cov.q .ro (.len_sl rfl rfl sl22) rfl ?_
                  refine Cov.q .ro (.move rfl) rfl ?_
                  refine Cov.region_end ?_
                  refine Cov.block ?_
                  refine Cov.pullS 1 rfl [_, _, _] rfl ?_
                  refine Cov.loop2 (α := Nat × List Int × List Bool × Option Addr × Nat × List Value) (fun y => [(8, .slice y.2.2.2.1 y.2.2.1.length y.2.2.2.2.1), (78, .int .i64 (y.1 : Int))]) [(63, _), (4, _), (5, _), (6, _), (61, _), (62, _), (9, _), (76, _), (77, _)] (fun y => []) (fun y => []) [_, _, _] (fun y => [.s (.slice y.2.2.2.1 y.2.2.1.length y.2.2.2.2.1) 4 1 y.2.2.1.length y.2.2.2.2.2]) [_, _] (fun y => OL Rep.bool G59 y.2.2.2.2.2 y.2.2.1 ∧ List.drop y.1 u368.1 = y.2.1 ∧ law19_CuckooPlaces_L1 (law19_CuckooPlaces_L2 u38.1 u23.1.2 u55.1 xs364 (i343 + 1)) (i343 : Int) u38.1 v352 v353 u23.1.2 u55.1 y.2.1 y.2.2.1 = some r) (fun y => y.2.1.length) (0, u368.1, v346, a347, k348, cs349) ⟨o350, rfl, r379⟩ ⟨rfl, rfl, rfl, rfl, rfl, rfl, rfl, rfl, rfl, rfl, rfl, trivial⟩ rfl rfl rfl (fun y hI hb486 => ?_)
                  obtain ⟨i476, w477, v479, a480, k481, cs482⟩ := y
                  obtain ⟨o483, g478, r485⟩ := hI
                  try dsimp only at o483 g478 r485
                  refine Cov.prune [(8, .slice a480 v479.length k481), (78, .int .i64 (i476 : Int)), (63, _), (4, _), (5, _), (6, _), (61, _), (62, _), (9, _), (76, _), (77, _)] ⟨rfl, rfl, rfl, rfl, rfl, rfl, rfl, rfl, rfl, rfl, rfl, trivial⟩ ?_
                  refine Cov.same (bl' := [_, _, _]) (sl' := [.s (.slice a480 v479.length k481) 4 1 v479.length cs482, _, _]) (Fs' := G59 :: Fs) rfl rfl rfl ?_
                  cases w477 with
                  | nil =>
                    rw [law19_CuckooPlaces_L1] at r485; try dsimp only at r485
                    refine Cov.seq ?_
                    refine Cov.region rfl ?_
                    refine Cov.q .ro (.lss rfl rfl) rfl ?_
                    refine Cov.region_end ?_
                    refine Cov.seq ?_
                    refine Cov.cond_dec rfl (fun c => absurd c (drop_nil g478)) (fun _ => ?_)
                    refine Cov.exit rfl ?_
                    refine Cov.inBlock ?_
                    refine Cov.region rfl ?_
                    refine Cov.q .ro (.addw rfl rfl) rfl ?_
                    refine Cov.q .ro (.move rfl) rfl ?_
                    refine Cov.region_end ?_
                    refine Cov.pullS 2 rfl [_, _, _] rfl ?_
                    refine Cov.pullS 1 rfl [_, _, _] rfl ?_
                    refine Cov.pullS 2 rfl [_, _, _] rfl ?_
                    refine Cov.drop 0 1 _ [_, _] rfl rfl ?_
                    refine Cov.prune _ ?_ (Cov.same rfl rfl rfl (hb355 ((i343 + 1), xs364, v479, a480, k481, cs482, v352, v353) ⟨o483, (drop_succ g345), r485⟩ (Nat.lt_succ_self _)))
                    exact ⟨rfl, (congrArg (fun z => some (Value.int .i64 z)) (idx_wrap (SlR.len (SlR.mono e60 s53)) g345)), rfl, rfl, rfl, rfl, rfl, trivial⟩
                  | cons x499 xs500 =>
                    have r498 : law19_CuckooPlaces_B1 (law19_CuckooPlaces_L2 u38.1 u23.1.2 u55.1 xs364 (i343 + 1)) (i343 : Int) u38.1 v352 v353 u23.1.2 u55.1 (law19_CuckooPlaces_L1 (law19_CuckooPlaces_L2 u38.1 u23.1.2 u55.1 xs364 (i343 + 1)) (i343 : Int) u38.1 v352 v353 u23.1.2 u55.1 xs500) x499 v479 = some r := r485; clear r485; unfold law19_CuckooPlaces_B1 at r498; try dsimp only at r498
                    refine Cov.seq ?_
                    refine Cov.region rfl ?_
                    refine Cov.q .ro (.lss rfl rfl) rfl ?_
                    refine Cov.region_end ?_
                    refine Cov.seq ?_
                    refine Cov.cond_dec rfl (fun _ => ?_) (fun c => absurd (drop_lt g478) c)
                    refine Cov.skip ?_
                    refine Cov.seq ?_
                    refine Cov.block ?_
                    refine Cov.seq ?_
                    refine Cov.region rfl ?_
                    obtain ⟨c501, p502, h503⟩ := OL.get o376 (drop_idx g478)
                    obtain rfl := h503
                    refine Cov.q .ro (.idxO 1 rfl rfl rfl (drop_idx g478) sl22 ty3.sz) rfl ?_
                    refine Cov.q .ro (.loadO 1 0 rfl (drop_idx g478) p502 rfl (.inl ⟨rfl, rfl⟩) ty3 rfl) rfl ?_
                    refine Cov.q .ro (.assign rfl) rfl ?_
                    refine Cov.region_end ?_
                    refine Cov.seq ?_
                    refine Cov.seq ?_
                    refine Cov.region rfl ?_
                    refine Cov.q .ro (.fieldAddr 0 rfl fl43_0 ty22.sz rfl) rfl ?_
                    refine Cov.q .ro (.load_own 2 rfl rfl ty22 rfl) rfl ?_
                    refine Cov.q .ro (.move rfl) rfl ?_
                    obtain ⟨u504, hu504, r505⟩ := bind_some r498; clear r498
                    obtain ⟨c506, p507, h508⟩ := SlR.get s65 hu504
                    obtain rfl := h508
                    refine Cov.q .ro (.idxR s65 rfl rfl hu504 sl22 ty3.sz) rfl ?_
                    refine Cov.q .ro (.load_rp p507 List.mem_cons_self rfl ty3 rfl) rfl ?_
                    refine Cov.q .ro (.move rfl) rfl ?_
                    refine Cov.q .ro (.eql rfl rfl) rfl ?_
                    refine Cov.region_end ?_
                    refine Cov.cond_dec rfl (fun c509 => ?_) (fun c509 => ?_)
                    · have r510 := ifT r505 c509; clear r505
                      refine Cov.seq ?_
                      refine Cov.region rfl ?_
                      refine Cov.q .ro (.move rfl) rfl ?_
                      refine Cov.q .ro (.move rfl) rfl ?_
                      obtain ⟨u511, hu511, r512⟩ := bind_some r510; clear r510
                      obtain ⟨c513, p514, h515⟩ := OL.get o483 hu511
                      obtain rfl := h515
                      refine Cov.q .ro (.idxO 0 rfl rfl rfl hu511 sl49 ty4.sz) rfl ?_
                      obtain ⟨u516, hu516, r517⟩ := bind_some r512; clear r512
                      refine Cov.storeR 0 0 (Q := Rep.bool) .ro rfl rfl o483 hu516 rfl (.inl ⟨rfl, rfl⟩) rfl ty4 p514 ((Rep.boolI true) :) rfl rfl (fun cs518 hlcs518 o519 => ?_)
                      refine Cov.reval 8 hlcs518 rfl ?_
                      refine Cov.reval 89 hlcs518 rfl ?_
                      refine Cov.region_end ?_
                      refine Cov.prune [(8, _), (63, _), (4, _), (5, _), (6, _), (61, _), (62, _)] ⟨rfl, rfl, rfl, rfl, rfl, rfl, rfl, trivial⟩ ?_
                      refine Cov.exit rfl ?_
                      refine Cov.inBlock ?_
                      refine Cov.region rfl ?_
                      refine Cov.q .ro (.addw rfl rfl) rfl ?_
                      refine Cov.q .ro (.move rfl) rfl ?_
                      refine Cov.region_end ?_
                      refine Cov.pullS 2 rfl [_, _, _] rfl ?_
                      refine Cov.pullS 1 rfl [_, _, _] rfl ?_
                      refine Cov.pullS 2 rfl [_, _, _] rfl ?_
                      refine Cov.drop 0 1 _ [_, _] rfl rfl ?_
                      refine Cov.prune _ ?_ (Cov.same rfl rfl rfl (hb355 ((i343 + 1), xs364, u516, a480, k481, cs518, v352, v353) ⟨o519, (drop_succ g345), r517⟩ (Nat.lt_succ_self _)))
                      exact ⟨rfl, (congrArg (fun z => some (Value.int .i64 z)) (idx_wrap (SlR.len (SlR.mono e60 s53)) g345)), rfl, rfl, rfl, rfl, rfl, trivial⟩
                    · have r521 := ifF r505 c509; clear r505
                      refine Cov.skip ?_
                      refine Cov.seq ?_
                      refine Cov.seq ?_
                      refine Cov.region rfl ?_
                      refine Cov.q .ro (.move rfl) rfl ?_
                      refine Cov.q .ro (.move rfl) rfl ?_
                      obtain ⟨u522, hu522, r523⟩ := bind_some r521; clear r521
                      obtain ⟨c524, p525, h526⟩ := OL.get o483 hu522
                      obtain rfl := h526
                      refine Cov.q .ro (.idxO 0 rfl rfl rfl hu522 sl49 ty4.sz) rfl ?_
                      refine Cov.q .ro (.loadO 0 0 rfl hu522 p525 rfl (.inl ⟨rfl, rfl⟩) ty4 rfl) rfl ?_
                      refine Cov.region_end ?_
                      refine Cov.prune [(8, _), (78, _), (63, _), (4, _), (5, _), (6, _), (61, _), (62, _), (9, _), (76, _), (77, _), (14, _), (95, _)] ⟨rfl, rfl, rfl, rfl, rfl, rfl, rfl, rfl, rfl, rfl, rfl, rfl, rfl, trivial⟩ ?_
                      refine Cov.cond rfl (fun c527 => ?_) (fun c527 => ?_)
                      · have r528 := ifT r523 c527; clear r523
                        refine Cov.exit rfl ?_
                        refine Cov.region rfl ?_
                        refine Cov.q .ro (.addw rfl rfl) rfl ?_
                        refine Cov.q .ro (.move rfl) rfl ?_
                        refine Cov.region_end ?_
                        refine Cov.prune _ ?_ (Cov.same rfl rfl rfl (hb486 ((i476 + 1), xs500, v479, a480, k481, cs482) ⟨o483, (drop_succ g478), r528⟩ (Nat.lt_succ_self _)))
                        exact ⟨rfl, (congrArg (fun z => some (Value.int .i64 z)) (idx_wrap (OL.len' o376) g478)), rfl, rfl, rfl, rfl, rfl, rfl, rfl, rfl, rfl, trivial⟩
                      · have r529 := ifBF r523 c527; clear r523
                        refine Cov.skip ?_
                        refine Cov.seq ?_
                        refine Cov.region rfl ?_
                        refine Cov.q .ro (.move rfl) rfl ?_
                        refine Cov.q .ro (.move rfl) rfl ?_
                        obtain ⟨u530, hu530, r531⟩ := bind_some r529; clear r529
                        obtain ⟨c532, p533, h534⟩ := OL.get o483 hu530
                        obtain rfl := h534
                        refine Cov.q .ro (.idxO 0 rfl rfl rfl hu530 sl49 ty4.sz) rfl ?_
                        obtain ⟨u535, hu535, r536⟩ := bind_some r531; clear r531
                        refine Cov.storeR 0 0 (Q := Rep.bool) .ro rfl rfl o483 hu535 rfl (.inl ⟨rfl, rfl⟩) rfl ty4 p533 ((Rep.boolI true) :) rfl rfl (fun cs537 hlcs537 o538 => ?_)
                        refine Cov.reval 8 hlcs537 rfl ?_
                        refine Cov.reval 96 hlcs537 rfl ?_
                        refine Cov.region_end ?_
                        refine Cov.seq ?_
                        refine Cov.seq ?_
                        refine Cov.drawL (.q 0 (.q 1 (.q 2 (.q 3 (.q 4 (.q 5 (.e 6 1 (.e 7 2 .nil)))))))) [_, _, _] (by kernel_rfl) (by kernel_rfl) (pick_mem [0, 1, 2] rfl) ?_
                        refine Cov.dq (.load_own_a 1 [_, _] rfl rfl ty25 rfl) rfl ?_
                        refine Cov.dq (.move rfl) rfl ?_
                        refine Cov.dq (.move rfl) rfl ?_
                        refine Cov.dq (.addw rfl rfl) rfl ?_
                        obtain ⟨u540, hu540, r541⟩ := bind_some r536; clear r536
                        obtain ⟨a542, k543, h544, s545⟩ := SlR.sub (SlR.mono e60 s53) hu540
                        refine Cov.dq (.sliceR (SlR.mono e60 s53) rfl hu540 sl22 ty3.sz (fun h => .yes' rfl h) (fun _ => .no) h544) rfl ?_
                        refine Cov.dq (.move rfl) rfl ?_
                        refine Cov.own_nil 4 1 ?_
                        refine Cov.pullS 1 rfl [_, _, _, _] rfl ?_
                        refine Cov.openB (sB := [_]) (s2 := [_, _, _]) rfl B61 (fun G547 e548 B549 hr550 hc551 => ?_)
                        have s553 := SlR.rd o538 rfl e548 (hr550 _ (List.mem_of_getElem? (i := 0) rfl))
                        obtain ⟨u558, hu558, r559⟩ := bind_some r541; clear r541
                        refine Cov.appR (Q := Rep.bool) 0 .d1 sl49 ty4 rfl rfl rfl rfl rfl (OL.mono e548 (OL.nil (Rp' := Rep.bool))) rfl rfl s553 rfl List.mem_cons_self hu558 rfl (fun a554 k555 cs556 o557 => ?_)
                        refine Cov.clsL e548 (pick_mem [0, 1, 2] rfl) ?_
                        refine Cov.toV 0 rfl (fun vb561 po562 va563 vb564 => ?_)
                        obtain ⟨u565, hu565, r566⟩ := bind_some r559; clear r559
                        refine Cov.callS (b1 := []) (b2 := [_, _, _]) (s1 := [_]) [_, _, _] [] .d2 rfl rfl Try.call20 rfl rfl (law19_possible_c (G := G547) List.mem_cons_self (SlR.mono (HpLe.trans (HpLe.trans e51 e60) e548) s33) (SlR.mono e548 s545) va563 o557 hu565) rfl (fun v568 bo so h567 => ?_)
                        obtain ⟨cs569, rfl, rfl, rfl, o570, hl571⟩ := h567
                        refine Cov.same (bl' := [_, _, _]) (sl' := [_, _, _]) rfl rfl rfl ?_
                        refine Cov.ofV 0 rfl vb564 hl571 o570 rfl ?_
                        refine Cov.reval 105 hl571 rfl ?_
                        have o573 := OL.flat (G := G59) Rep.flat_bool o570
                        refine hc551 _ _ _ _ _ _ (HpLe.refl _) ?_
                        refine Cov.draw_end ?_
                        refine Cov.cond rfl (fun c574 => ?_) (fun c574 => ?_)
                        · have r575 := ifT r566 c574; clear r566
                          refine Cov.seq ?_
                          refine Cov.region rfl ?_
                          refine Cov.q .ro (.assign rfl) rfl ?_
                          refine Cov.region_end ?_
                          refine Cov.prune [(2, _)] ⟨rfl, trivial⟩ ?_
                          cases r575
                          refine Cov.drop 3 0 [] _ rfl rfl ?_
                          refine Cov.drop 0 4 _ [] rfl rfl ?_
                          refine Cov.retS (c := ⟨6, none⟩) (.inr ⟨_, rfl⟩) [.tmp 2] [_] rfl Try.func6 Try.results6 ⟨RV.tmp rfl, trivial⟩ (fun _ h => List.mem_cons_of_mem _ h) ⟨rfl, rfl, rfl⟩
                        · have r576 := ifBF r566 c574; clear r566
                          refine Cov.skip ?_
                          refine Cov.region rfl ?_
                          refine Cov.q .ro (.move rfl) rfl ?_
                          refine Cov.q .ro (.move rfl) rfl ?_
                          obtain ⟨u577, hu577, r578⟩ := bind_some r576; clear r576
                          obtain ⟨c579, p580, h581⟩ := OL.get o538 hu577
                          obtain rfl := h581
                          refine Cov.q .ro (.idxO 0 rfl rfl rfl hu577 sl49 ty4.sz) rfl ?_
                          obtain ⟨u582, hu582, r583⟩ := bind_some r578; clear r578
                          refine Cov.storeR 0 0 (Q := Rep.bool) .ro rfl rfl o538 hu582 rfl (.inl ⟨rfl, rfl⟩) rfl ty4 p580 ((Rep.boolI false) :) rfl rfl (fun cs584 hlcs584 o585 => ?_)
                          refine Cov.reval 8 hlcs584 rfl ?_
                          refine Cov.reval 96 hlcs584 rfl ?_
                          refine Cov.reval 104 hlcs584 rfl ?_
                          refine Cov.reval 107 hlcs584 rfl ?_
                          refine Cov.region_end ?_
                          refine Cov.prune [(8, _), (78, _), (63, _), (4, _), (5, _), (6, _), (61, _), (62, _), (9, _), (76, _), (77, _)] ⟨rfl, rfl, rfl, rfl, rfl, rfl, rfl, rfl, rfl, rfl, rfl, trivial⟩ ?_
                          refine Cov.inBlock ?_
                          refine Cov.region rfl ?_
                          refine Cov.q .ro (.addw rfl rfl) rfl ?_
                          refine Cov.q .ro (.move rfl) rfl ?_
                          refine Cov.region_end ?_
                          refine Cov.pullS 3 rfl [_, _, _, _] rfl ?_
                          refine Cov.pullS 3 rfl [_, _, _, _] rfl ?_
                          refine Cov.pullS 2 rfl [_, _, _, _] rfl ?_
                          refine Cov.pullS 3 rfl [_, _, _, _] rfl ?_
                          refine Cov.drop 0 1 _ [_, _, _] rfl rfl ?_
                          refine Cov.prune _ ?_ (Cov.same rfl rfl rfl (hb486 ((i476 + 1), xs500, u582, a480, k481, cs584) ⟨o585, (drop_succ g478), r583⟩ (Nat.lt_succ_self _)))
                          exact ⟨rfl, (congrArg (fun z => some (Value.int .i64 z)) (idx_wrap (OL.len' o376) g478)), rfl, rfl, rfl, rfl, rfl, rfl, rfl, rfl, rfl, trivial⟩
      · intro hb90
        refine Cov.split 43 rfl (fun c89 => ?_) (fun c89 => ?_)
        · refine Cov.dgq_off rfl rfl rfl ?_
          refine Cov.dgq_off rfl rfl rfl ?_
          refine Cov.dgq_off rfl rfl rfl ?_
          refine Cov.dgqu_off rfl rfl ?_
          refine Cov.dgqu_off rfl rfl ?_
          refine Cov.dgq_off rfl rfl rfl ?_
          refine Cov.dq (.pick_t rfl rfl) rfl ?_
          refine Cov.prune _ ?_ (Cov.same rfl rfl rfl (hb90 () trivial))
          exact ⟨dor_t c89, rfl, rfl, rfl, rfl, trivial⟩
        · refine Cov.dgq_on rfl ?_
          refine Cov.dq (.move rfl) rfl ?_
          refine Cov.dgq_on rfl ?_
          refine Cov.dq (.neq rfl rfl) rfl ?_
          refine Cov.dgq_on rfl ?_
          refine Cov.dq (.move rfl) rfl ?_
          refine Cov.cutD 3 (β := Unit) (fun y => [(49, .bool (decide ((u55.2 ≠ 0) ∧ (u55.2 ≠ 15))))]) [(4, _), (5, _), (6, _), (7, _), (43, _)] (fun y => G59 :: Fs) (fun y => []) [_, _, _] (fun y => []) [_] (fun y => True) ⟨rfl, rfl, rfl, rfl, rfl, trivial⟩ [0, 1, 2] rfl [0] rfl ?_ ?_
          · rintro _ _
            refine Cov.prune [(49, .bool (decide ((u55.2 ≠ 0) ∧ (u55.2 ≠ 15)))), (4, _), (5, _), (6, _), (7, _), (43, _)] ⟨rfl, rfl, rfl, rfl, rfl, rfl, trivial⟩ ?_
            refine Cov.same (bl' := [_, _, _]) (sl' := [_]) (Fs' := G59 :: Fs) rfl rfl rfl ?_
            refine Cov.dq (.pick_f rfl rfl) rfl ?_
            refine Cov.prune _ ?_ (Cov.same rfl rfl rfl (hb90 () trivial))
            exact ⟨dor_f c89, rfl, rfl, rfl, rfl, trivial⟩
          · intro hb588
            refine Cov.split 46 rfl (fun c587 => ?_) (fun c587 => ?_)
            · refine Cov.dgq_on rfl ?_
              refine Cov.dq (.move rfl) rfl ?_
              refine Cov.dgq_on rfl ?_
              refine Cov.dq (.neq rfl rfl) rfl ?_
              refine Cov.dgq_on rfl ?_
              refine Cov.dq (.pick_t rfl rfl) rfl ?_
              refine Cov.prune _ ?_ (Cov.same rfl rfl rfl (hb588 () trivial))
              exact ⟨dand_t c587, rfl, rfl, rfl, rfl, rfl, trivial⟩
            · refine Cov.dgq_off rfl rfl rfl ?_
              refine Cov.dgq_off rfl rfl rfl ?_
              refine Cov.dgq_on rfl ?_
              refine Cov.dq (.pick_f rfl rfl) rfl ?_
              refine Cov.prune _ ?_ (Cov.same rfl rfl rfl (hb588 () trivial))
              exact ⟨dand_f c587, rfl, rfl, rfl, rfl, rfl, trivial⟩

end Go.Proofs.Ytbhmhindommaeaa
