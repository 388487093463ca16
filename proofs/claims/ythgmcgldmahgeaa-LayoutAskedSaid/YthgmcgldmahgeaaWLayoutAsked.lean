/- The walks. Printed by wip/lift/drive.py. -/
import Derived.Test.YthgmcgldmahgeaaW3
namespace Go.Proofs.Ythgmcgldmahgeaa
open Go.RowKit
set_option linter.unusedSimpArgs false
set_option linter.unusedVariables false
set_option synthInstance.maxSize 2000
set_option synthInstance.maxHeartbeats 400000

set_option maxHeartbeats 4000000 in
set_option maxRecDepth 100000 in
theorem law13_LayoutAsked_c {Fs : List Hp} {G : Hp} {a0 : Option Addr} {k0 : Nat} {x0 : List Int} {r : Bool} (hG : G ∈ Fs) (s0 : SlR (Rep.int .i64) G a0 k0 x0) (h : law13_LayoutAsked x0 = some r) : RetS Try.prog 9 #[.slice a0 x0.length k0] Fs [] [] (fun v bo so => v = .bool r ∧ bo = [] ∧ so = []) := by
  unfold law13_LayoutAsked at h
  try dsimp only at h
  refine RetS.of (vs := [_]) Try.func9 rfl Try.ntmps9 [(0, _)] ⟨rfl, trivial⟩ rfl hG fun w0 S0 hS0 B0 => ?_
  refine Cov.seq ?_
  refine Cov.region rfl ?_
  refine Cov.q .ro (.assign rfl) rfl ?_
  refine Cov.region_end ?_
  refine Cov.seq ?_
  refine Cov.seq ?_
  refine Cov.region rfl ?_
  obtain ⟨u1, hu1, r2⟩ := bind_some h; clear h
  refine Cov.callS (b1 := []) (b2 := []) (s1 := []) [] [] .ro rfl rfl Try.call10 rfl rfl (law13_sane_c (G := G) List.mem_cons_self  hu1) rfl (fun v4 bo so h3 => ?_)
  obtain ⟨rfl, rfl, rfl⟩ := h3
  refine Cov.same (bl' := []) (sl' := []) rfl rfl rfl ?_
  refine Cov.q .ro (.not rfl) rfl ?_
  refine Cov.region_end ?_
  refine Cov.cond rfl (fun c5 => ?_) (fun c5 => ?_)
  · have r6 := ifT r2 c5; clear r2
    refine Cov.seq ?_
    refine Cov.region rfl ?_
    refine Cov.q .ro (.assign rfl) rfl ?_
    refine Cov.region_end ?_
    cases r6
    refine Cov.retS (c := ⟨9, none⟩) (.inr ⟨_, rfl⟩) [.tmp 2] [_] rfl Try.func9 Try.results9 ⟨RV.tmp rfl, trivial⟩ (fun _ h => List.mem_cons_of_mem _ h) ⟨rfl, rfl, rfl⟩
  · have r7 := ifBF r2 c5; clear r2
    refine Cov.skip ?_
    refine Cov.seq ?_
    refine Cov.seq ?_
    refine Cov.region rfl ?_
    refine Cov.q .ro (.move rfl) rfl ?_
    obtain ⟨u8, hu8, r9⟩ := bind_some r7; clear r7
    refine Cov.callS (b1 := []) (b2 := []) (s1 := []) [_] [] .ro rfl rfl Try.call11 rfl rfl (make_Few_c (G := G) List.mem_cons_self s0 hu8) rfl (fun v11 bo so h10 => ?_)
    obtain ⟨rfl, rfl, rfl⟩ := h10
    refine Cov.same (bl' := []) (sl' := []) rfl rfl rfl ?_
    refine Cov.q .ro (.not rfl) rfl ?_
    refine Cov.region_end ?_
    refine Cov.cond rfl (fun c12 => ?_) (fun c12 => ?_)
    · have r13 := ifT r9 c12; clear r9
      refine Cov.seq ?_
      refine Cov.region rfl ?_
      refine Cov.q .ro (.assign rfl) rfl ?_
      refine Cov.region_end ?_
      cases r13
      refine Cov.retS (c := ⟨9, none⟩) (.inr ⟨_, rfl⟩) [.tmp 2] [_] rfl Try.func9 Try.results9 ⟨RV.tmp rfl, trivial⟩ (fun _ h => List.mem_cons_of_mem _ h) ⟨rfl, rfl, rfl⟩
    · have r14 := ifBF r9 c12; clear r9
      refine Cov.skip ?_
      refine Cov.seq ?_
      refine Cov.region rfl ?_
      refine Cov.q .ro (.move rfl) rfl ?_
      obtain ⟨u15, hu15, r16⟩ := bind_some r14; clear r14
      refine Cov.callS (b1 := []) (b2 := []) (s1 := []) [_] [] .ro rfl rfl Try.call13 rfl rfl (make_New_c (G := G) List.mem_cons_self s0 hu15) rfl (fun v18 bo so h17 => ?_)
      obtain ⟨a20, k21, b19, rfl, rfl, rfl, s22⟩ := h17
      refine Cov.same (bl' := [_]) (sl' := []) rfl rfl rfl ?_
      obtain ⟨u23, hu23, r24⟩ := bind_some r16; clear r16
      refine Cov.callW (b1 := [_]) (b2 := []) (s1 := []) [_] [] .ro rfl rfl Try.call14 rfl rfl (make_Laid_c (G := G) List.mem_cons_self s22 hu23) rfl B0 (fun v26 bo so G27 e28 B29 h25 => ?_)
      obtain ⟨a31, k32, a34, k35, a37, k38, a40, k41, rfl, rfl, rfl, s33, s36, s39, s42⟩ := h25
      refine Cov.same (bl' := [_]) (sl' := []) rfl rfl rfl ?_
      refine Cov.q .ro (.move rfl) rfl ?_
      refine Cov.q .ro (.extract rfl rfl) rfl ?_
      refine Cov.q .ro (.extract rfl rfl) rfl ?_
      refine Cov.q .ro (.extract rfl rfl) rfl ?_
      refine Cov.q .ro (.extract rfl rfl) rfl ?_
      refine Cov.alloc .ro ty24 rfl (fun b43 hb43 => ?_)
      refine Cov.alloc .ro ty34 rfl (fun b44 hb44 => ?_)
      refine Cov.store 1 [_] [_, _, _] .ro rfl rfl rfl ty24 rfl rfl rfl rfl ?_
      refine Cov.q .ro (.assign rfl) rfl ?_
      refine Cov.q .ro (.assign rfl) rfl ?_
      refine Cov.store 0 [_, _] [_, _, _] .ro rfl rfl rfl ty34 rfl rfl rfl rfl ?_
      refine Cov.region_end ?_
      refine Cov.prune [(3, _), (6, _), (4, _), (5, _)] ⟨rfl, rfl, rfl, rfl, trivial⟩ ?_
      refine Cov.seq ?_
      refine Cov.region rfl ?_
      refine Cov.q .ro (.load_own_a 0 [_, _] rfl rfl ty34 rfl) rfl ?_
      obtain ⟨u45, hu45, r46⟩ := bind_some r24; clear r24
      refine Cov.callS (b1 := []) (b2 := [_, _, _]) (s1 := []) [_] [] .ro rfl rfl Try.call29 rfl rfl (layout_Most_c (G := G27) List.mem_cons_self s39 hu45) rfl (fun v48 bo so h47 => ?_)
      obtain ⟨rfl, rfl, rfl⟩ := h47
      refine Cov.same (bl' := [_, _, _]) (sl' := []) rfl rfl rfl ?_
      refine Cov.q .ro (.assign rfl) rfl ?_
      refine Cov.region_end ?_
      refine Cov.seq ?_
      refine Cov.seq ?_
      refine Cov.region rfl ?_
      refine Cov.q .ro (.move rfl) rfl ?_
      refine Cov.q .ro (.len_sl rfl rfl sl25) rfl ?_
      refine Cov.q .ro (.move rfl) rfl ?_
      refine Cov.region_end ?_
      refine Cov.cutB (β := Hp × Int × Int × Int) (fun y => []) [(4, _), (7, _)] (fun y => y.1 :: Fs) (fun y => [(b44, .cells #[.int .i64 y.2.1, .slice a37 u23.2.2.2.1.2.length k38] 34 (0, 0)), (b43, .cells #[.int .i64 y.2.2.1] 24 (0, 0)), (b19, .cells #[.slice a40 u23.2.2.2.2.1.length k41, .int .i64 y.2.2.2] 69 (0, 0))]) [] (fun y => []) [] (fun y => HpLe G27 y.1 ∧ Bd w0 S0 Fs y.1 ∧ (law13_LayoutAsked_J1 u23.2.1 u45) y.2.1 y.2.2.1 y.2.2.2 = some r) ⟨rfl, rfl, trivial⟩ [] rfl [] rfl ?_ ?_
      · intro y hI
        obtain ⟨G1122, v1126, v1127, v1128⟩ := y
        obtain ⟨e1123, B1124, r1130⟩ := hI
        try dsimp only at e1123 B1124 r1130
        refine Cov.prune [(4, _), (7, _)] ⟨rfl, rfl, trivial⟩ ?_
        refine Cov.same (bl' := [(b44, .cells #[.int .i64 v1126, .slice a37 u23.2.2.2.1.2.length k38] 34 (0, 0)), (b43, .cells #[.int .i64 v1127] 24 (0, 0)), (b19, .cells #[.slice a40 u23.2.2.2.2.1.length k41, .int .i64 v1128] 69 (0, 0))]) (sl' := []) (Fs' := G1122 :: Fs) rfl rfl rfl ?_
        unfold law13_LayoutAsked_J1 at r1130
        try dsimp only at r1130
        refine Cov.seq ?_
        refine Cov.region rfl ?_
        refine Cov.q .ro (.move rfl) rfl ?_
        refine Cov.q .ro (.len_sl rfl rfl sl25) rfl ?_
        refine Cov.q .ro (.gtr rfl rfl) rfl ?_
        refine Cov.q .ro (.move rfl) rfl ?_
        refine Cov.cutR 3 (β := Unit) (fun y => [(148, .bool (decide ((0 < (u23.2.1.length : Int)) ∨ (u45 = 0))))]) [] (fun y => G1122 :: Fs) (fun y => []) [_, _, _] (fun y => []) [] (fun y => True) trivial [0, 1, 2] rfl [] rfl ?_ ?_
        · rintro _ _
          refine Cov.prune [(148, .bool (decide ((0 < (u23.2.1.length : Int)) ∨ (u45 = 0))))] ⟨rfl, trivial⟩ ?_
          refine Cov.same (bl' := [_, _, _]) (sl' := []) (Fs' := G1122 :: Fs) rfl rfl rfl ?_
          refine Cov.q .ro (.assign rfl) rfl ?_
          refine Cov.region_end ?_
          cases r1130
          refine Cov.drop 3 0 [] _ rfl rfl ?_
          refine Cov.retS (c := ⟨9, none⟩) (.inr ⟨_, rfl⟩) [.tmp 2] [_] rfl Try.func9 Try.results9 ⟨RV.tmp rfl, trivial⟩ (fun _ h => List.mem_cons_of_mem _ h) ⟨rfl, rfl, rfl⟩
        · intro hb1136
          refine Cov.split 145 rfl (fun c1135 => ?_) (fun c1135 => ?_)
          · refine Cov.g_off rfl rfl rfl ?_
            refine Cov.g_off rfl rfl rfl ?_
            refine Cov.q .ro (.pick_t rfl rfl) rfl ?_
            refine Cov.prune _ ?_ (Cov.same rfl rfl rfl (hb1136 () trivial))
            exact ⟨dor_t c1135, trivial⟩
          · refine Cov.g_on rfl ?_
            refine Cov.q .ro (.move rfl) rfl ?_
            refine Cov.g_on rfl ?_
            refine Cov.q .ro (.eql rfl rfl) rfl ?_
            refine Cov.q .ro (.pick_f rfl rfl) rfl ?_
            refine Cov.prune _ ?_ (Cov.same rfl rfl rfl (hb1136 () trivial))
            exact ⟨dor_f c1135, trivial⟩
      · intro hb1139
        refine Cov.block ?_
        refine Cov.pull 2 rfl [_, _, _] rfl ?_
        refine Cov.pull 2 rfl [_, _, _] rfl ?_
        refine Cov.pull 2 rfl [_, _, _] rfl ?_
        refine Cov.loop2 (α := Nat × List ByteArray × Hp × Int × Int × Int) (fun y => [(35, .int .i64 (y.1 : Int))]) [(3, _), (6, _), (4, _), (5, _), (7, _), (33, _), (34, _)] (fun y => [y.2.2.1]) (fun y => [(b44, .cells #[.int .i64 y.2.2.2.1, .slice a37 u23.2.2.2.1.2.length k38] 34 (0, 0)), (b43, .cells #[.int .i64 y.2.2.2.2.1] 24 (0, 0)), (b19, .cells #[.slice a40 u23.2.2.2.2.1.length k41, .int .i64 y.2.2.2.2.2] 69 (0, 0))]) [] (fun y => []) [] (fun y => HpLe G27 y.2.2.1 ∧ Bd w0 S0 Fs y.2.2.1 ∧ List.drop y.1 u23.2.1 = y.2.1 ∧ law13_LayoutAsked_L4 (law13_LayoutAsked_J1 u23.2.1 u45) u23.2.2.1 u45 u23.2.2.2.1.2 y.2.1 y.1 y.2.2.2.1 y.2.2.2.2.1 y.2.2.2.2.2 = some r) (fun y => y.2.1.length) (0, u23.2.1, G27, u23.2.2.2.1.1, u23.1, u23.2.2.2.2.2) ⟨(HpLe.refl _), B29, rfl, r46⟩ ⟨rfl, rfl, rfl, rfl, rfl, rfl, rfl, rfl, trivial⟩ rfl rfl rfl (fun y hI hb1681 => ?_)
        obtain ⟨i1670, w1671, G1673, v1677, v1678, v1679⟩ := y
        obtain ⟨e1674, B1675, g1672, r1680⟩ := hI
        try dsimp only at e1674 B1675 g1672 r1680
        refine Cov.prune [(35, .int .i64 (i1670 : Int)), (3, _), (6, _), (4, _), (5, _), (7, _), (33, _), (34, _)] ⟨rfl, rfl, rfl, rfl, rfl, rfl, rfl, rfl, trivial⟩ ?_
        refine Cov.same (bl' := [(b44, .cells #[.int .i64 v1677, .slice a37 u23.2.2.2.1.2.length k38] 34 (0, 0)), (b43, .cells #[.int .i64 v1678] 24 (0, 0)), (b19, .cells #[.slice a40 u23.2.2.2.2.1.length k41, .int .i64 v1679] 69 (0, 0))]) (sl' := []) (Fs' := G1673 :: Fs) rfl rfl rfl ?_
        cases w1671 with
        | nil =>
          rw [law13_LayoutAsked_L4] at r1680; try dsimp only at r1680
          refine Cov.seq ?_
          refine Cov.region rfl ?_
          refine Cov.q .ro (.lss rfl rfl) rfl ?_
          refine Cov.region_end ?_
          refine Cov.seq ?_
          refine Cov.cond_dec rfl (fun c => absurd c (drop_nil g1672)) (fun _ => ?_)
          refine Cov.exit rfl ?_
          refine Cov.prune _ ?_ (Cov.same rfl rfl rfl (hb1139 (G1673, v1677, v1678, v1679) ⟨e1674, B1675, r1680⟩))
          exact ⟨rfl, rfl, trivial⟩
        | cons x1689 xs1690 =>
          have r1688 : law13_LayoutAsked_B4 (law13_LayoutAsked_J1 u23.2.1 u45) u23.2.2.1 u45 u23.2.2.2.1.2 (law13_LayoutAsked_L4 (law13_LayoutAsked_J1 u23.2.1 u45) u23.2.2.1 u45 u23.2.2.2.1.2 xs1690 (i1670 + 1)) x1689 i1670 v1677 v1678 v1679 = some r := r1680; clear r1680; unfold law13_LayoutAsked_B4 at r1688; try dsimp only at r1688
          refine Cov.seq ?_
          refine Cov.region rfl ?_
          refine Cov.q .ro (.lss rfl rfl) rfl ?_
          refine Cov.region_end ?_
          refine Cov.seq ?_
          refine Cov.cond_dec rfl (fun _ => ?_) (fun c => absurd (drop_lt g1672) c)
          refine Cov.skip ?_
          refine Cov.seq ?_
          refine Cov.block ?_
          refine Cov.seq ?_
          refine Cov.region rfl ?_
          refine Cov.q .ro (.move rfl) rfl ?_
          obtain ⟨c1691, p1692, h1693⟩ := SlR.get (SlR.mono e1674 s33) (drop_idx g1672)
          obtain rfl := h1693
          refine Cov.q .ro (.idxR (SlR.mono e1674 s33) rfl rfl (drop_idx g1672) sl25 ty9.sz) rfl ?_
          refine Cov.q .ro (.load_rp p1692 List.mem_cons_self rfl ty9 rfl) rfl ?_
          refine Cov.q .ro (.assign rfl) rfl ?_
          refine Cov.q .ro (.assign rfl) rfl ?_
          refine Cov.region_end ?_
          refine Cov.seq ?_
          refine Cov.region rfl ?_
          refine Cov.q .ro (.fieldAddr 1 rfl fl34_1 ty32.sz rfl) rfl ?_
          refine Cov.q .ro (.load_own 0 rfl rfl ty32 rfl) rfl ?_
          refine Cov.q .ro (.move rfl) rfl ?_
          obtain ⟨u1694, hu1694, r1695⟩ := bind_some r1688; clear r1688
          obtain ⟨c1696, p1697, h1698⟩ := SlR.get (SlR.mono e1674 s39) hu1694
          obtain ⟨_, _, rfl, rfl, _, _, rfl, rfl, rfl⟩ := h1698
          refine Cov.q .ro (.idxR (SlR.mono e1674 s39) rfl rfl hu1694 sl32 ty56.sz) rfl ?_
          refine Cov.q .ro (.load_rp_a [_, _, _] p1697 List.mem_cons_self rfl ty56 rfl) rfl ?_
          refine Cov.alloc .ro ty56 rfl (fun b1699 hb1699 => ?_)
          refine Cov.store 0 [_, _, _] [_, _, _, _] .ro rfl rfl rfl ty56 rfl rfl rfl rfl ?_
          refine Cov.region_end ?_
          refine Cov.seq ?_
          refine Cov.region rfl ?_
          refine Cov.q .ro (.load_own_a 1 [_, _] rfl rfl ty34 rfl) rfl ?_
          refine Cov.q .ro (.move rfl) rfl ?_
          refine Cov.q .ro (.len_sl rfl rfl sl26) rfl ?_
          refine Cov.q .ro (.move rfl) rfl ?_
          obtain ⟨u1700, hu1700, r1701⟩ := bind_some r1695; clear r1695
          refine Cov.callS (b1 := []) (b2 := [_, _, _, _]) (s1 := []) [_, _, _] [] .ro rfl rfl Try.call32 rfl rfl (layout_Asked_c (G := G1673) List.mem_cons_self (SlR.mono e1674 s39) hu1700) rfl (fun v1703 bo so h1702 => ?_)
          obtain ⟨a1705, k1706, cs1707, rfl, rfl, rfl, o1708⟩ := h1702
          refine Cov.same (bl' := [_, _, _, _]) (sl' := [_]) rfl rfl rfl ?_
          refine Cov.q .ro (.move rfl) rfl ?_
          refine Cov.q .ro (.extract rfl rfl) rfl ?_
          refine Cov.q .ro (.extract rfl rfl) rfl ?_
          refine Cov.q .ro (.assign rfl) rfl ?_
          refine Cov.q .ro (.assign rfl) rfl ?_
          refine Cov.region_end ?_
          refine Cov.prune [(35, _), (3, _), (6, _), (4, _), (5, _), (7, _), (33, _), (34, _), (9, _), (10, _), (11, _), (12, _)] ⟨rfl, rfl, rfl, rfl, rfl, rfl, rfl, rfl, rfl, rfl, rfl, rfl, trivial⟩ ?_
          refine Cov.seq ?_
          refine Cov.seq ?_
          refine Cov.region rfl ?_
          refine Cov.q .ro (.move rfl) rfl ?_
          refine Cov.q .ro (.neq rfl rfl) rfl ?_
          refine Cov.q .ro (.move rfl) rfl ?_
          refine Cov.cutR 5 (β := Unit) (fun y => [(60, .bool (decide ((u1700.2 ≠ 0) ∨ ((u1700.1.length : Int) ≠ u45))))]) [(35, _), (3, _), (6, _), (4, _), (5, _), (7, _), (33, _), (34, _), (9, _), (10, _), (11, _)] (fun y => G1673 :: Fs) (fun y => []) [_, _, _, _] (fun y => []) [_] (fun y => True) ⟨rfl, rfl, rfl, rfl, rfl, rfl, rfl, rfl, rfl, rfl, rfl, trivial⟩ [0, 1, 2, 3] rfl [0] rfl ?_ ?_
          · rintro _ _
            refine Cov.prune [(60, .bool (decide ((u1700.2 ≠ 0) ∨ ((u1700.1.length : Int) ≠ u45)))), (35, _), (3, _), (6, _), (4, _), (5, _), (7, _), (33, _), (34, _), (9, _), (10, _), (11, _)] ⟨rfl, rfl, rfl, rfl, rfl, rfl, rfl, rfl, rfl, rfl, rfl, rfl, trivial⟩ ?_
            refine Cov.same (bl' := [_, _, _, _]) (sl' := [_]) (Fs' := G1673 :: Fs) rfl rfl rfl ?_
            refine Cov.q .ro (.move rfl) rfl ?_
            refine Cov.cutR 5 (β := Unit) (fun y => [(66, .bool (decide (((u1700.2 ≠ 0) ∨ ((u1700.1.length : Int) ≠ u45)) ∨ (u45 < u1694.2.1))))]) [(35, _), (3, _), (6, _), (4, _), (5, _), (7, _), (33, _), (34, _), (9, _), (10, _), (11, _)] (fun y => G1673 :: Fs) (fun y => []) [_, _, _, _] (fun y => []) [_] (fun y => True) ⟨rfl, rfl, rfl, rfl, rfl, rfl, rfl, rfl, rfl, rfl, rfl, trivial⟩ [0, 1, 2, 3] rfl [0] rfl ?_ ?_
            · rintro _ _
              refine Cov.prune [(66, .bool (decide (((u1700.2 ≠ 0) ∨ ((u1700.1.length : Int) ≠ u45)) ∨ (u45 < u1694.2.1)))), (35, _), (3, _), (6, _), (4, _), (5, _), (7, _), (33, _), (34, _), (9, _), (10, _), (11, _)] ⟨rfl, rfl, rfl, rfl, rfl, rfl, rfl, rfl, rfl, rfl, rfl, rfl, trivial⟩ ?_
              refine Cov.same (bl' := [_, _, _, _]) (sl' := [_]) (Fs' := G1673 :: Fs) rfl rfl rfl ?_
              refine Cov.region_end ?_
              refine Cov.cond_dec rfl (fun c1717 => ?_) (fun c1717 => ?_)
              · have r1718 := ifT r1701 c1717; clear r1701
                refine Cov.seq ?_
                refine Cov.region rfl ?_
                refine Cov.q .ro (.assign rfl) rfl ?_
                refine Cov.region_end ?_
                cases r1718
                refine Cov.drop 4 0 [] _ rfl rfl ?_
                refine Cov.drop 0 1 _ [] rfl rfl ?_
                refine Cov.retS (c := ⟨9, none⟩) (.inr ⟨_, rfl⟩) [.tmp 2] [_] rfl Try.func9 Try.results9 ⟨RV.tmp rfl, trivial⟩ (fun _ h => List.mem_cons_of_mem _ h) ⟨rfl, rfl, rfl⟩
              · have r1719 := ifF r1701 c1717; clear r1701
                refine Cov.skip ?_
                refine Cov.seq ?_
                refine Cov.region rfl ?_
                refine Cov.q .ro (.assign rfl) rfl ?_
                refine Cov.region_end ?_
                refine Cov.seq ?_
                refine Cov.seq ?_
                refine Cov.region rfl ?_
                refine Cov.q .ro (.move rfl) rfl ?_
                refine Cov.q .ro (.len_sl rfl rfl sl22) rfl ?_
                refine Cov.q .ro (.move rfl) rfl ?_
                refine Cov.region_end ?_
                refine Cov.cutB (β := List (List Int) × Option Addr × Nat × List Value × Int × Int × Int × Int × Int × Int) (fun y => [(13, .slice y.2.1 y.1.length y.2.2.1)]) [(35, _), (3, _), (6, _), (4, _), (5, _), (7, _), (33, _), (34, _), (9, _), (10, _)] (fun y => G1673 :: Fs) (fun y => [(b1699, .cells #[.int .i64 y.2.2.2.2.1, .int .i64 y.2.2.2.2.2.1, .int .i64 y.2.2.2.2.2.2.1] 56 (0, 0)), (b44, .cells #[.int .i64 y.2.2.2.2.2.2.2.1, .slice a37 u23.2.2.2.1.2.length k38] 34 (0, 0)), (b43, .cells #[.int .i64 y.2.2.2.2.2.2.2.2.1] 24 (0, 0)), (b19, .cells #[.slice a40 u23.2.2.2.2.1.length k41, .int .i64 y.2.2.2.2.2.2.2.2.2] 69 (0, 0))]) [] (fun y => [.s (.slice y.2.1 y.1.length y.2.2.1) 22 1 y.1.length y.2.2.2.1]) [_] (fun y => OL (Rep.sl (Rep.int .i64)) G1673 y.2.2.2.1 y.1 ∧ (law13_LayoutAsked_J2 (law13_LayoutAsked_L4 (law13_LayoutAsked_J1 u23.2.1 u45) u23.2.2.1 u45 u23.2.2.2.1.2 xs1690 (i1670 + 1)) x1689) y.1 y.2.2.2.2.1 y.2.2.2.2.2.1 y.2.2.2.2.2.2.1 y.2.2.2.2.2.2.2.1 y.2.2.2.2.2.2.2.2.1 y.2.2.2.2.2.2.2.2.2 = some r) ⟨rfl, rfl, rfl, rfl, rfl, rfl, rfl, rfl, rfl, rfl, trivial⟩ [] rfl [0] rfl ?_ ?_
                · intro y hI
                  obtain ⟨v1946, a1947, k1948, cs1949, v1952, v1953, v1954, v1955, v1956, v1957⟩ := y
                  obtain ⟨o1950, r1959⟩ := hI
                  try dsimp only at o1950 r1959
                  refine Cov.prune [(13, .slice a1947 v1946.length k1948), (35, _), (3, _), (6, _), (4, _), (5, _), (7, _), (33, _), (34, _), (9, _), (10, _)] ⟨rfl, rfl, rfl, rfl, rfl, rfl, rfl, rfl, rfl, rfl, rfl, trivial⟩ ?_
                  refine Cov.same (bl' := [(b1699, .cells #[.int .i64 v1952, .int .i64 v1953, .int .i64 v1954] 56 (0, 0)), (b44, .cells #[.int .i64 v1955, .slice a37 u23.2.2.2.1.2.length k38] 34 (0, 0)), (b43, .cells #[.int .i64 v1956] 24 (0, 0)), (b19, .cells #[.slice a40 u23.2.2.2.2.1.length k41, .int .i64 v1957] 69 (0, 0))]) (sl' := [.s (.slice a1947 v1946.length k1948) 22 1 v1946.length cs1949, _]) (Fs' := G1673 :: Fs) rfl rfl rfl ?_
                  unfold law13_LayoutAsked_J2 at r1959
                  try dsimp only at r1959
                  refine Cov.seq ?_
                  refine Cov.region rfl ?_
                  refine Cov.q .ro (.load_own_a 2 [_] rfl rfl ty24 rfl) rfl ?_
                  refine Cov.q .ro (.fieldAddr 0 rfl fl34_0 ty3.sz rfl) rfl ?_
                  refine Cov.q .ro (.load_own 1 rfl rfl ty3 rfl) rfl ?_
                  refine Cov.q .ro (.fieldAddr 2 rfl fl56_2 ty3.sz rfl) rfl ?_
                  refine Cov.q .ro (.load_own 0 rfl rfl ty3 rfl) rfl ?_
                  refine Cov.q .ro (.move rfl) rfl ?_
                  refine Cov.freezeR 0 rfl rfl o1950 [_] rfl B1675 (fun G1969 e1970 B1971 s1972 => ?_)
                  obtain ⟨u1974, hu1974, r1975⟩ := bind_some r1959; clear r1959
                  refine Cov.callS (b1 := []) (b2 := [_, _, _, _]) (s1 := []) [_, _, _, _] [] .ro rfl rfl Try.call23 rfl rfl (layout_Decode_c (G := G1969) List.mem_cons_self s1972 hu1974) rfl (fun v1977 bo so h1976 => ?_)
                  obtain ⟨rfl, rfl, rfl⟩ := h1976
                  refine Cov.same (bl' := [_, _, _, _]) (sl' := [_]) rfl rfl rfl ?_
                  refine Cov.q .ro (.move rfl) rfl ?_
                  refine Cov.q .ro (.extract rfl rfl) rfl ?_
                  refine Cov.q .ro (.extract rfl rfl) rfl ?_
                  refine Cov.q .ro (.assign rfl) rfl ?_
                  refine Cov.q .ro (.assign rfl) rfl ?_
                  refine Cov.region_end ?_
                  refine Cov.seq ?_
                  refine Cov.region rfl ?_
                  refine Cov.q .ro (.move rfl) rfl ?_
                  refine Cov.q .ro (.neq rfl rfl) rfl ?_
                  refine Cov.q .ro (.move rfl) rfl ?_
                  refine Cov.cutR 4 (β := Unit) (fun y => [(140, .bool (decide ((u1974.2 ≠ 0) ∨ (u1974.1 ≠ x1689))))]) [(35, _), (3, _), (6, _), (4, _), (5, _), (7, _), (33, _), (34, _)] (fun y => G1969 :: Fs) (fun y => []) [_, _, _, _] (fun y => []) [_] (fun y => True) ⟨rfl, rfl, rfl, rfl, rfl, rfl, rfl, rfl, trivial⟩ [0, 1, 2, 3] rfl [0] rfl ?_ ?_
                  · rintro _ _
                    refine Cov.prune [(140, .bool (decide ((u1974.2 ≠ 0) ∨ (u1974.1 ≠ x1689)))), (35, _), (3, _), (6, _), (4, _), (5, _), (7, _), (33, _), (34, _)] ⟨rfl, rfl, rfl, rfl, rfl, rfl, rfl, rfl, rfl, trivial⟩ ?_
                    refine Cov.same (bl' := [_, _, _, _]) (sl' := [_]) (Fs' := G1969 :: Fs) rfl rfl rfl ?_
                    refine Cov.region_end ?_
                    refine Cov.cond_dec rfl (fun c1982 => ?_) (fun c1982 => ?_)
                    · have r1983 := ifT r1975 c1982; clear r1975
                      refine Cov.seq ?_
                      refine Cov.region rfl ?_
                      refine Cov.q .ro (.assign rfl) rfl ?_
                      refine Cov.region_end ?_
                      cases r1983
                      refine Cov.drop 4 0 [] _ rfl rfl ?_
                      refine Cov.drop 0 1 _ [] rfl rfl ?_
                      refine Cov.retS (c := ⟨9, none⟩) (.inr ⟨_, rfl⟩) [.tmp 2] [_] rfl Try.func9 Try.results9 ⟨RV.tmp rfl, trivial⟩ (fun _ h => List.mem_cons_of_mem _ h) ⟨rfl, rfl, rfl⟩
                    · have r1984 := ifF r1975 c1982; clear r1975
                      refine Cov.skip ?_
                      refine Cov.inBlock ?_
                      refine Cov.region rfl ?_
                      refine Cov.q .ro (.addw rfl rfl) rfl ?_
                      refine Cov.q .ro (.move rfl) rfl ?_
                      refine Cov.region_end ?_
                      refine Cov.drop 1 0 [_, _, _] _ rfl rfl ?_
                      refine Cov.drop 0 1 _ [] rfl rfl ?_
                      refine Cov.prune _ ?_ (Cov.same rfl rfl rfl (hb1681 ((i1670 + 1), xs1690, G1969, v1955, v1956, v1957) ⟨(HpLe.trans e1674 e1970), B1971, (drop_succ g1672), r1984⟩ (Nat.lt_succ_self _)))
                      exact ⟨(congrArg (fun z => some (Value.int .i64 z)) (idx_wrap (SlR.len s33) g1672)), rfl, rfl, rfl, rfl, rfl, rfl, rfl, trivial⟩
                  · intro hb1979
                    refine Cov.split 136 rfl (fun c1978 => ?_) (fun c1978 => ?_)
                    · refine Cov.g_off rfl rfl rfl ?_
                      refine Cov.g_off rfl rfl rfl ?_
                      refine Cov.g_off rfl rfl rfl ?_
                      refine Cov.q .ro (.pick_t rfl rfl) rfl ?_
                      refine Cov.prune _ ?_ (Cov.same rfl rfl rfl (hb1979 () trivial))
                      exact ⟨dor_t c1978, rfl, rfl, rfl, rfl, rfl, rfl, rfl, rfl, trivial⟩
                    · refine Cov.g_on rfl ?_
                      refine Cov.q .ro (.move rfl) rfl ?_
                      refine Cov.g_on rfl ?_
                      refine Cov.q .ro (.move rfl) rfl ?_
                      refine Cov.g_on rfl ?_
                      refine Cov.q .ro (.neq_s rfl rfl) rfl ?_
                      refine Cov.q .ro (.pick_f rfl rfl) rfl ?_
                      refine Cov.prune _ ?_ (Cov.same rfl rfl rfl (hb1979 () trivial))
                      exact ⟨dor_f c1978, rfl, rfl, rfl, rfl, rfl, rfl, rfl, rfl, trivial⟩
                · intro hb1985
                  refine Cov.block ?_
                  refine Cov.own_nil 22 1 ?_
                  refine Cov.loop2 (α := Nat × List Int × List (List Int) × Option Addr × Nat × List Value) (fun y => [(13, .slice y.2.2.2.1 y.2.2.1.length y.2.2.2.2.1), (69, .int .i64 (y.1 : Int))]) [(35, _), (3, _), (6, _), (4, _), (5, _), (7, _), (33, _), (34, _), (9, _), (10, _), (67, _), (68, _)] (fun y => []) (fun y => []) [_, _, _, _] (fun y => [.s (.slice y.2.2.2.1 y.2.2.1.length y.2.2.2.2.1) 22 1 y.2.2.1.length y.2.2.2.2.2]) [_] (fun y => OL (Rep.sl (Rep.int .i64)) G1673 y.2.2.2.2.2 y.2.2.1 ∧ List.drop y.1 u1700.1 = y.2.1 ∧ law13_LayoutAsked_L3 (law13_LayoutAsked_J2 (law13_LayoutAsked_L4 (law13_LayoutAsked_J1 u23.2.1 u45) u23.2.2.1 u45 u23.2.2.2.1.2 xs1690 (i1670 + 1)) x1689) u23.2.2.1 u1694.1 u1694.2.1 u1694.2.2 v1677 v1678 v1679 y.2.1 y.1 y.2.2.1 = some r) (fun y => y.2.1.length) (0, u1700.1, ([] : List (List Int)), none, 0, []) ⟨(OL.nil (Rp' := (Rep.sl (Rep.int .i64)))), rfl, r1719⟩ ⟨rfl, rfl, rfl, rfl, rfl, rfl, rfl, rfl, rfl, rfl, rfl, rfl, rfl, rfl, trivial⟩ rfl rfl rfl (fun y hI hb2138 => ?_)
                  obtain ⟨i2128, w2129, v2131, a2132, k2133, cs2134⟩ := y
                  obtain ⟨o2135, g2130, r2137⟩ := hI
                  try dsimp only at o2135 g2130 r2137
                  refine Cov.prune [(13, .slice a2132 v2131.length k2133), (69, .int .i64 (i2128 : Int)), (35, _), (3, _), (6, _), (4, _), (5, _), (7, _), (33, _), (34, _), (9, _), (10, _), (67, _), (68, _)] ⟨rfl, rfl, rfl, rfl, rfl, rfl, rfl, rfl, rfl, rfl, rfl, rfl, rfl, rfl, trivial⟩ ?_
                  refine Cov.same (bl' := [_, _, _, _]) (sl' := [.s (.slice a2132 v2131.length k2133) 22 1 v2131.length cs2134, _]) (Fs' := G1673 :: Fs) rfl rfl rfl ?_
                  cases w2129 with
                  | nil =>
                    rw [law13_LayoutAsked_L3] at r2137; try dsimp only at r2137
                    refine Cov.seq ?_
                    refine Cov.region rfl ?_
                    refine Cov.q .ro (.lss rfl rfl) rfl ?_
                    refine Cov.region_end ?_
                    refine Cov.seq ?_
                    refine Cov.cond_dec rfl (fun c => absurd c (drop_nil g2130)) (fun _ => ?_)
                    refine Cov.exit rfl ?_
                    refine Cov.prune _ ?_ (Cov.same rfl rfl rfl (hb1985 (v2131, a2132, k2133, cs2134, u1694.1, u1694.2.1, u1694.2.2, v1677, v1678, v1679) ⟨o2135, r2137⟩))
                    exact ⟨rfl, rfl, rfl, rfl, rfl, rfl, rfl, rfl, rfl, rfl, rfl, trivial⟩
                  | cons x2156 xs2157 =>
                    have r2155 : law13_LayoutAsked_B3 (law13_LayoutAsked_J2 (law13_LayoutAsked_L4 (law13_LayoutAsked_J1 u23.2.1 u45) u23.2.2.1 u45 u23.2.2.2.1.2 xs1690 (i1670 + 1)) x1689) u23.2.2.1 u1694.1 u1694.2.1 u1694.2.2 v1677 v1678 v1679 (law13_LayoutAsked_L3 (law13_LayoutAsked_J2 (law13_LayoutAsked_L4 (law13_LayoutAsked_J1 u23.2.1 u45) u23.2.2.1 u45 u23.2.2.2.1.2 xs1690 (i1670 + 1)) x1689) u23.2.2.1 u1694.1 u1694.2.1 u1694.2.2 v1677 v1678 v1679 xs2157 (i2128 + 1)) x2156 i2128 v2131 = some r := r2137; clear r2137; unfold law13_LayoutAsked_B3 at r2155; try dsimp only at r2155
                    refine Cov.seq ?_
                    refine Cov.region rfl ?_
                    refine Cov.q .ro (.lss rfl rfl) rfl ?_
                    refine Cov.region_end ?_
                    refine Cov.seq ?_
                    refine Cov.cond_dec rfl (fun _ => ?_) (fun c => absurd (drop_lt g2130) c)
                    refine Cov.skip ?_
                    refine Cov.seq ?_
                    refine Cov.block ?_
                    refine Cov.seq ?_
                    refine Cov.region rfl ?_
                    refine Cov.q .ro (.move rfl) rfl ?_
                    obtain ⟨c2158, p2159, h2160⟩ := OL.get o1708 (drop_idx g2130)
                    obtain rfl := h2160
                    refine Cov.q .ro (.idxO 1 rfl rfl rfl (drop_idx g2130) sl22 ty3.sz) rfl ?_
                    refine Cov.q .ro (.loadO 1 0 rfl (drop_idx g2130) p2159 rfl (.inl ⟨rfl, rfl⟩) ty3 rfl) rfl ?_
                    refine Cov.q .ro (.assign rfl) rfl ?_
                    refine Cov.q .ro (.assign rfl) rfl ?_
                    refine Cov.region_end ?_
                    refine Cov.seq ?_
                    refine Cov.seq ?_
                    refine Cov.region rfl ?_
                    refine Cov.q .ro (.move rfl) rfl ?_
                    refine Cov.q .ro (.lss rfl rfl) rfl ?_
                    refine Cov.q .ro (.move rfl) rfl ?_
                    refine Cov.cutR 5 (β := Unit) (fun y => [(81, .bool (decide ((x2156 < 0) ∨ ((u23.2.2.1.length : Int) ≤ x2156))))]) [(13, _), (69, _), (35, _), (3, _), (6, _), (4, _), (5, _), (7, _), (33, _), (34, _), (9, _), (10, _), (67, _), (68, _), (14, _), (15, _)] (fun y => G1673 :: Fs) (fun y => []) [_, _, _, _] (fun y => []) [_, _] (fun y => True) ⟨rfl, rfl, rfl, rfl, rfl, rfl, rfl, rfl, rfl, rfl, rfl, rfl, rfl, rfl, rfl, rfl, trivial⟩ [0, 1, 2, 3] rfl [0, 1] rfl ?_ ?_
                    · rintro _ _
                      refine Cov.prune [(81, .bool (decide ((x2156 < 0) ∨ ((u23.2.2.1.length : Int) ≤ x2156)))), (13, _), (69, _), (35, _), (3, _), (6, _), (4, _), (5, _), (7, _), (33, _), (34, _), (9, _), (10, _), (67, _), (68, _), (14, _), (15, _)] ⟨rfl, rfl, rfl, rfl, rfl, rfl, rfl, rfl, rfl, rfl, rfl, rfl, rfl, rfl, rfl, rfl, rfl, trivial⟩ ?_
                      refine Cov.same (bl' := [_, _, _, _]) (sl' := [_, _]) (Fs' := G1673 :: Fs) rfl rfl rfl ?_
                      refine Cov.q .ro (.move rfl) rfl ?_
                      refine Cov.cutR 13 (β := Unit) (fun y => [(95, .bool (decide (((x2156 < 0) ∨ ((u23.2.2.1.length : Int) ≤ x2156)) ∨ (((i2128 : Int) < u1694.2.1) ∧ (x2156 ≠ (w64 (u1694.1 + (i2128 : Int))))))))]) [(13, _), (69, _), (35, _), (3, _), (6, _), (4, _), (5, _), (7, _), (33, _), (34, _), (9, _), (10, _), (67, _), (68, _), (14, _), (15, _)] (fun y => G1673 :: Fs) (fun y => []) [_, _, _, _] (fun y => []) [_, _] (fun y => True) ⟨rfl, rfl, rfl, rfl, rfl, rfl, rfl, rfl, rfl, rfl, rfl, rfl, rfl, rfl, rfl, rfl, trivial⟩ [0, 1, 2, 3] rfl [0, 1] rfl ?_ ?_
                      · rintro _ _
                        refine Cov.prune [(95, .bool (decide (((x2156 < 0) ∨ ((u23.2.2.1.length : Int) ≤ x2156)) ∨ (((i2128 : Int) < u1694.2.1) ∧ (x2156 ≠ (w64 (u1694.1 + (i2128 : Int)))))))), (13, _), (69, _), (35, _), (3, _), (6, _), (4, _), (5, _), (7, _), (33, _), (34, _), (9, _), (10, _), (67, _), (68, _), (14, _), (15, _)] ⟨rfl, rfl, rfl, rfl, rfl, rfl, rfl, rfl, rfl, rfl, rfl, rfl, rfl, rfl, rfl, rfl, rfl, trivial⟩ ?_
                        refine Cov.same (bl' := [_, _, _, _]) (sl' := [_, _]) (Fs' := G1673 :: Fs) rfl rfl rfl ?_
                        refine Cov.q .ro (.move rfl) rfl ?_
                        refine Cov.cutR 15 (β := Unit) (fun y => [(111, .bool (decide ((((x2156 < 0) ∨ ((u23.2.2.1.length : Int) ≤ x2156)) ∨ (((i2128 : Int) < u1694.2.1) ∧ (x2156 ≠ (w64 (u1694.1 + (i2128 : Int)))))) ∨ ((u1694.2.1 ≤ (i2128 : Int)) ∧ (x2156 ≠ (w64 ((w64 (u1694.1 + u1694.2.1)) - 1)))))))]) [(13, _), (69, _), (35, _), (3, _), (6, _), (4, _), (5, _), (7, _), (33, _), (34, _), (9, _), (10, _), (67, _), (68, _), (14, _), (15, _)] (fun y => G1673 :: Fs) (fun y => []) [_, _, _, _] (fun y => []) [_, _] (fun y => True) ⟨rfl, rfl, rfl, rfl, rfl, rfl, rfl, rfl, rfl, rfl, rfl, rfl, rfl, rfl, rfl, rfl, trivial⟩ [0, 1, 2, 3] rfl [0, 1] rfl ?_ ?_
                        · rintro _ _
                          refine Cov.prune [(111, .bool (decide ((((x2156 < 0) ∨ ((u23.2.2.1.length : Int) ≤ x2156)) ∨ (((i2128 : Int) < u1694.2.1) ∧ (x2156 ≠ (w64 (u1694.1 + (i2128 : Int)))))) ∨ ((u1694.2.1 ≤ (i2128 : Int)) ∧ (x2156 ≠ (w64 ((w64 (u1694.1 + u1694.2.1)) - 1))))))), (13, _), (69, _), (35, _), (3, _), (6, _), (4, _), (5, _), (7, _), (33, _), (34, _), (9, _), (10, _), (67, _), (68, _), (14, _), (15, _)] ⟨rfl, rfl, rfl, rfl, rfl, rfl, rfl, rfl, rfl, rfl, rfl, rfl, rfl, rfl, rfl, rfl, rfl, trivial⟩ ?_
                          refine Cov.same (bl' := [_, _, _, _]) (sl' := [_, _]) (Fs' := G1673 :: Fs) rfl rfl rfl ?_
                          refine Cov.region_end ?_
                          refine Cov.cond_dec rfl (fun c2181 => ?_) (fun c2181 => ?_)
                          · have r2182 := ifT r2155 c2181; clear r2155
                            refine Cov.seq ?_
                            refine Cov.region rfl ?_
                            refine Cov.q .ro (.assign rfl) rfl ?_
                            refine Cov.region_end ?_
                            refine Cov.prune [(2, _)] ⟨rfl, trivial⟩ ?_
                            cases r2182
                            refine Cov.drop 4 0 [] _ rfl rfl ?_
                            refine Cov.drop 0 2 _ [] rfl rfl ?_
                            refine Cov.retS (c := ⟨9, none⟩) (.inr ⟨_, rfl⟩) [.tmp 2] [_] rfl Try.func9 Try.results9 ⟨RV.tmp rfl, trivial⟩ (fun _ h => List.mem_cons_of_mem _ h) ⟨rfl, rfl, rfl⟩
                          · have r2183 := ifF r2155 c2181; clear r2155
                            refine Cov.skip ?_
                            refine Cov.seq ?_
                            refine Cov.region rfl ?_
                            refine Cov.q .ro (.move rfl) rfl ?_
                            refine Cov.q .ro (.fieldAddr 1 rfl fl56_1 ty3.sz rfl) rfl ?_
                            refine Cov.q .ro (.load_own 0 rfl rfl ty3 rfl) rfl ?_
                            refine Cov.q .ro (.lss rfl rfl) rfl ?_
                            refine Cov.region_end ?_
                            refine Cov.cond_dec rfl (fun c2184 => ?_) (fun c2184 => ?_)
                            · have r2185 := ifT r2183 c2184; clear r2183
                              refine Cov.region rfl ?_
                              refine Cov.q .ro (.move rfl) rfl ?_
                              refine Cov.q .ro (.move rfl) rfl ?_
                              refine Cov.q .ro (.move rfl) rfl ?_
                              obtain ⟨u2186, hu2186, r2187⟩ := bind_some r2185; clear r2185
                              obtain ⟨c2188, p2189, h2190⟩ := SlR.get (SlR.mono e1674 s36) hu2186
                              obtain ⟨a2191, k2192, rfl, s2193⟩ := h2190
                              refine Cov.q .ro (.idxR (SlR.mono e1674 s36) rfl rfl hu2186 sl26 ty22.sz) rfl ?_
                              refine Cov.q .ro (.load_rp p2189 List.mem_cons_self rfl ty22 rfl) rfl ?_
                              refine Cov.lit [_] [(0, _)] .ro sl26 ty22 rfl rfl rfl rfl rfl rfl (fun b2194 hb2194 => ?_)
                              have o2195 : OL (Rep.sl (Rep.int .i64)) G1673 [.slice a2191 u2186.length k2192] ([u2186] : List (List Int)) := ((OL.cons rfl (Rep.slI s2193) (OL.nil (Rp' := (Rep.sl (Rep.int .i64))))) :)
                              refine Cov.reval 121 (n' := ([u2186] : List (List Int)).length) rfl rfl ?_
                              obtain ⟨u2201, hu2201, r2202⟩ := bind_some r2187; clear r2187
                              refine Cov.appO (Q := (Rep.sl (Rep.int .i64))) 0 .ro sl26 ty22 rfl rfl rfl rfl rfl rfl o2135 o2195 rfl rfl rfl B1675 hu2201 rfl (fun a2197 k2198 cs2199 o2200 => ?_)
                              refine Cov.q .ro (.assign rfl) rfl ?_
                              refine Cov.region_end ?_
                              refine Cov.prune [(13, _), (69, _), (35, _), (3, _), (6, _), (4, _), (5, _), (7, _), (33, _), (34, _), (9, _), (10, _), (67, _), (68, _)] ⟨rfl, rfl, rfl, rfl, rfl, rfl, rfl, rfl, rfl, rfl, rfl, rfl, rfl, rfl, trivial⟩ ?_
                              refine Cov.inBlock ?_
                              refine Cov.region rfl ?_
                              refine Cov.q .ro (.addw rfl rfl) rfl ?_
                              refine Cov.q .ro (.move rfl) rfl ?_
                              refine Cov.region_end ?_
                              refine Cov.prune _ ?_ (Cov.same rfl rfl rfl (hb2138 ((i2128 + 1), xs2157, u2201, a2197, k2198, cs2199) ⟨o2200, (drop_succ g2130), r2202⟩ (Nat.lt_succ_self _)))
                              exact ⟨rfl, (congrArg (fun z => some (Value.int .i64 z)) (idx_wrap (OL.len' o1708) g2130)), rfl, rfl, rfl, rfl, rfl, rfl, rfl, rfl, rfl, rfl, rfl, rfl, trivial⟩
                            · have r2204 := ifF r2183 c2184; clear r2183
                              refine Cov.skip ?_
                              refine Cov.inBlock ?_
                              refine Cov.region rfl ?_
                              refine Cov.q .ro (.addw rfl rfl) rfl ?_
                              refine Cov.q .ro (.move rfl) rfl ?_
                              refine Cov.region_end ?_
                              refine Cov.prune _ ?_ (Cov.same rfl rfl rfl (hb2138 ((i2128 + 1), xs2157, v2131, a2132, k2133, cs2134) ⟨o2135, (drop_succ g2130), r2204⟩ (Nat.lt_succ_self _)))
                              exact ⟨rfl, (congrArg (fun z => some (Value.int .i64 z)) (idx_wrap (OL.len' o1708) g2130)), rfl, rfl, rfl, rfl, rfl, rfl, rfl, rfl, rfl, rfl, rfl, rfl, trivial⟩
                        · intro hb2178
                          refine Cov.split 96 rfl (fun c2177 => ?_) (fun c2177 => ?_)
                          · refine Cov.g_off rfl rfl rfl ?_
                            refine Cov.g_off rfl rfl rfl ?_
                            refine Cov.g_off rfl rfl rfl ?_
                            refine Cov.g_off rfl rfl rfl ?_
                            refine Cov.g_off rfl rfl rfl ?_
                            refine Cov.gu_off rfl rfl ?_
                            refine Cov.gu_off rfl rfl ?_
                            refine Cov.gu_off rfl rfl ?_
                            refine Cov.gu_off rfl rfl ?_
                            refine Cov.gu_off rfl rfl ?_
                            refine Cov.gu_off rfl rfl ?_
                            refine Cov.gu_off rfl rfl ?_
                            refine Cov.gu_off rfl rfl ?_
                            refine Cov.g_off rfl rfl rfl ?_
                            refine Cov.q .ro (.pick_t rfl rfl) rfl ?_
                            refine Cov.prune _ ?_ (Cov.same rfl rfl rfl (hb2178 () trivial))
                            exact ⟨dor_t c2177, rfl, rfl, rfl, rfl, rfl, rfl, rfl, rfl, rfl, rfl, rfl, rfl, rfl, rfl, rfl, rfl, trivial⟩
                          · refine Cov.g_on rfl ?_
                            refine Cov.q .ro (.move rfl) rfl ?_
                            refine Cov.g_on rfl ?_
                            refine Cov.q .ro (.fieldAddr 1 rfl fl56_1 ty3.sz rfl) rfl ?_
                            refine Cov.g_on rfl ?_
                            refine Cov.q .ro (.load_own 0 rfl rfl ty3 rfl) rfl ?_
                            refine Cov.g_on rfl ?_
                            refine Cov.q .ro (.geq rfl rfl) rfl ?_
                            refine Cov.g_on rfl ?_
                            refine Cov.q .ro (.move rfl) rfl ?_
                            refine Cov.cutR 9 (β := Unit) (fun y => [(110, .bool (decide ((u1694.2.1 ≤ (i2128 : Int)) ∧ (x2156 ≠ (w64 ((w64 (u1694.1 + u1694.2.1)) - 1))))))]) [(13, _), (69, _), (35, _), (3, _), (6, _), (4, _), (5, _), (7, _), (33, _), (34, _), (9, _), (10, _), (67, _), (68, _), (14, _), (15, _), (96, _), (97, _), (98, _), (99, _), (100, _)] (fun y => G1673 :: Fs) (fun y => []) [_, _, _, _] (fun y => []) [_, _] (fun y => True) ⟨rfl, rfl, rfl, rfl, rfl, rfl, rfl, rfl, rfl, rfl, rfl, rfl, rfl, rfl, rfl, rfl, rfl, rfl, rfl, rfl, rfl, trivial⟩ [0, 1, 2, 3] rfl [0, 1] rfl ?_ ?_
                            · rintro _ _
                              refine Cov.prune [(110, .bool (decide ((u1694.2.1 ≤ (i2128 : Int)) ∧ (x2156 ≠ (w64 ((w64 (u1694.1 + u1694.2.1)) - 1)))))), (13, _), (69, _), (35, _), (3, _), (6, _), (4, _), (5, _), (7, _), (33, _), (34, _), (9, _), (10, _), (67, _), (68, _), (14, _), (15, _), (96, _), (97, _), (98, _), (99, _), (100, _)] ⟨rfl, rfl, rfl, rfl, rfl, rfl, rfl, rfl, rfl, rfl, rfl, rfl, rfl, rfl, rfl, rfl, rfl, rfl, rfl, rfl, rfl, rfl, trivial⟩ ?_
                              refine Cov.same (bl' := [_, _, _, _]) (sl' := [_, _]) (Fs' := G1673 :: Fs) rfl rfl rfl ?_
                              refine Cov.q .ro (.pick_f rfl rfl) rfl ?_
                              refine Cov.prune _ ?_ (Cov.same rfl rfl rfl (hb2178 () trivial))
                              exact ⟨dor_f c2177, rfl, rfl, rfl, rfl, rfl, rfl, rfl, rfl, rfl, rfl, rfl, rfl, rfl, rfl, rfl, rfl, trivial⟩
                            · intro hb2206
                              refine Cov.split 101 rfl (fun c2205 => ?_) (fun c2205 => ?_)
                              · refine Cov.g_on rfl ?_
                                refine Cov.q .ro (.move rfl) rfl ?_
                                refine Cov.g_on rfl ?_
                                refine Cov.q .ro (.fieldAddr 0 rfl fl56_0 ty3.sz rfl) rfl ?_
                                refine Cov.g_on rfl ?_
                                refine Cov.q .ro (.load_own 0 rfl rfl ty3 rfl) rfl ?_
                                refine Cov.g_on rfl ?_
                                refine Cov.q .ro (.fieldAddr 1 rfl fl56_1 ty3.sz rfl) rfl ?_
                                refine Cov.g_on rfl ?_
                                refine Cov.q .ro (.load_own 0 rfl rfl ty3 rfl) rfl ?_
                                refine Cov.g_on rfl ?_
                                refine Cov.q .ro (.addw rfl rfl) rfl ?_
                                refine Cov.g_on rfl ?_
                                refine Cov.q .ro (.subw rfl rfl) rfl ?_
                                refine Cov.g_on rfl ?_
                                refine Cov.q .ro (.neq rfl rfl) rfl ?_
                                refine Cov.g_on rfl ?_
                                refine Cov.q .ro (.pick_t rfl rfl) rfl ?_
                                refine Cov.prune _ ?_ (Cov.same rfl rfl rfl (hb2206 () trivial))
                                exact ⟨dand_t c2205, rfl, rfl, rfl, rfl, rfl, rfl, rfl, rfl, rfl, rfl, rfl, rfl, rfl, rfl, rfl, rfl, rfl, rfl, rfl, rfl, rfl, trivial⟩
                              · refine Cov.g_off rfl rfl rfl ?_
                                refine Cov.g_off rfl rfl rfl ?_
                                refine Cov.g_off rfl rfl rfl ?_
                                refine Cov.g_off rfl rfl rfl ?_
                                refine Cov.g_off rfl rfl rfl ?_
                                refine Cov.g_off rfl rfl rfl ?_
                                refine Cov.g_off rfl rfl rfl ?_
                                refine Cov.g_off rfl rfl rfl ?_
                                refine Cov.g_on rfl ?_
                                refine Cov.q .ro (.pick_f rfl rfl) rfl ?_
                                refine Cov.prune _ ?_ (Cov.same rfl rfl rfl (hb2206 () trivial))
                                exact ⟨dand_f c2205, rfl, rfl, rfl, rfl, rfl, rfl, rfl, rfl, rfl, rfl, rfl, rfl, rfl, rfl, rfl, rfl, rfl, rfl, rfl, rfl, rfl, trivial⟩
                      · intro hb2170
                        refine Cov.split 82 rfl (fun c2169 => ?_) (fun c2169 => ?_)
                        · refine Cov.g_off rfl rfl rfl ?_
                          refine Cov.g_off rfl rfl rfl ?_
                          refine Cov.g_off rfl rfl rfl ?_
                          refine Cov.g_off rfl rfl rfl ?_
                          refine Cov.g_off rfl rfl rfl ?_
                          refine Cov.gu_off rfl rfl ?_
                          refine Cov.gu_off rfl rfl ?_
                          refine Cov.gu_off rfl rfl ?_
                          refine Cov.gu_off rfl rfl ?_
                          refine Cov.gu_off rfl rfl ?_
                          refine Cov.gu_off rfl rfl ?_
                          refine Cov.g_off rfl rfl rfl ?_
                          refine Cov.q .ro (.pick_t rfl rfl) rfl ?_
                          refine Cov.prune _ ?_ (Cov.same rfl rfl rfl (hb2170 () trivial))
                          exact ⟨dor_t c2169, rfl, rfl, rfl, rfl, rfl, rfl, rfl, rfl, rfl, rfl, rfl, rfl, rfl, rfl, rfl, rfl, trivial⟩
                        · refine Cov.g_on rfl ?_
                          refine Cov.q .ro (.move rfl) rfl ?_
                          refine Cov.g_on rfl ?_
                          refine Cov.q .ro (.fieldAddr 1 rfl fl56_1 ty3.sz rfl) rfl ?_
                          refine Cov.g_on rfl ?_
                          refine Cov.q .ro (.load_own 0 rfl rfl ty3 rfl) rfl ?_
                          refine Cov.g_on rfl ?_
                          refine Cov.q .ro (.lss rfl rfl) rfl ?_
                          refine Cov.g_on rfl ?_
                          refine Cov.q .ro (.move rfl) rfl ?_
                          refine Cov.cutR 7 (β := Unit) (fun y => [(94, .bool (decide (((i2128 : Int) < u1694.2.1) ∧ (x2156 ≠ (w64 (u1694.1 + (i2128 : Int)))))))]) [(13, _), (69, _), (35, _), (3, _), (6, _), (4, _), (5, _), (7, _), (33, _), (34, _), (9, _), (10, _), (67, _), (68, _), (14, _), (15, _), (82, _), (83, _), (84, _), (85, _), (86, _)] (fun y => G1673 :: Fs) (fun y => []) [_, _, _, _] (fun y => []) [_, _] (fun y => True) ⟨rfl, rfl, rfl, rfl, rfl, rfl, rfl, rfl, rfl, rfl, rfl, rfl, rfl, rfl, rfl, rfl, rfl, rfl, rfl, rfl, rfl, trivial⟩ [0, 1, 2, 3] rfl [0, 1] rfl ?_ ?_
                          · rintro _ _
                            refine Cov.prune [(94, .bool (decide (((i2128 : Int) < u1694.2.1) ∧ (x2156 ≠ (w64 (u1694.1 + (i2128 : Int))))))), (13, _), (69, _), (35, _), (3, _), (6, _), (4, _), (5, _), (7, _), (33, _), (34, _), (9, _), (10, _), (67, _), (68, _), (14, _), (15, _), (82, _), (83, _), (84, _), (85, _), (86, _)] ⟨rfl, rfl, rfl, rfl, rfl, rfl, rfl, rfl, rfl, rfl, rfl, rfl, rfl, rfl, rfl, rfl, rfl, rfl, rfl, rfl, rfl, rfl, trivial⟩ ?_
                            refine Cov.same (bl' := [_, _, _, _]) (sl' := [_, _]) (Fs' := G1673 :: Fs) rfl rfl rfl ?_
                            refine Cov.q .ro (.pick_f rfl rfl) rfl ?_
                            refine Cov.prune _ ?_ (Cov.same rfl rfl rfl (hb2170 () trivial))
                            exact ⟨dor_f c2169, rfl, rfl, rfl, rfl, rfl, rfl, rfl, rfl, rfl, rfl, rfl, rfl, rfl, rfl, rfl, rfl, trivial⟩
                          · intro hb2210
                            refine Cov.split 87 rfl (fun c2209 => ?_) (fun c2209 => ?_)
                            · refine Cov.g_on rfl ?_
                              refine Cov.q .ro (.move rfl) rfl ?_
                              refine Cov.g_on rfl ?_
                              refine Cov.q .ro (.fieldAddr 0 rfl fl56_0 ty3.sz rfl) rfl ?_
                              refine Cov.g_on rfl ?_
                              refine Cov.q .ro (.load_own 0 rfl rfl ty3 rfl) rfl ?_
                              refine Cov.g_on rfl ?_
                              refine Cov.q .ro (.move rfl) rfl ?_
                              refine Cov.g_on rfl ?_
                              refine Cov.q .ro (.addw rfl rfl) rfl ?_
                              refine Cov.g_on rfl ?_
                              refine Cov.q .ro (.neq rfl rfl) rfl ?_
                              refine Cov.g_on rfl ?_
                              refine Cov.q .ro (.pick_t rfl rfl) rfl ?_
                              refine Cov.prune _ ?_ (Cov.same rfl rfl rfl (hb2210 () trivial))
                              exact ⟨dand_t c2209, rfl, rfl, rfl, rfl, rfl, rfl, rfl, rfl, rfl, rfl, rfl, rfl, rfl, rfl, rfl, rfl, rfl, rfl, rfl, rfl, rfl, trivial⟩
                            · refine Cov.g_off rfl rfl rfl ?_
                              refine Cov.g_off rfl rfl rfl ?_
                              refine Cov.g_off rfl rfl rfl ?_
                              refine Cov.g_off rfl rfl rfl ?_
                              refine Cov.g_off rfl rfl rfl ?_
                              refine Cov.g_off rfl rfl rfl ?_
                              refine Cov.g_on rfl ?_
                              refine Cov.q .ro (.pick_f rfl rfl) rfl ?_
                              refine Cov.prune _ ?_ (Cov.same rfl rfl rfl (hb2210 () trivial))
                              exact ⟨dand_f c2209, rfl, rfl, rfl, rfl, rfl, rfl, rfl, rfl, rfl, rfl, rfl, rfl, rfl, rfl, rfl, rfl, rfl, rfl, rfl, rfl, rfl, trivial⟩
                    · intro hb2162
                      refine Cov.split 76 rfl (fun c2161 => ?_) (fun c2161 => ?_)
                      · refine Cov.g_off rfl rfl rfl ?_
                        refine Cov.g_off rfl rfl rfl ?_
                        refine Cov.g_off rfl rfl rfl ?_
                        refine Cov.g_off rfl rfl rfl ?_
                        refine Cov.q .ro (.pick_t rfl rfl) rfl ?_
                        refine Cov.prune _ ?_ (Cov.same rfl rfl rfl (hb2162 () trivial))
                        exact ⟨dor_t c2161, rfl, rfl, rfl, rfl, rfl, rfl, rfl, rfl, rfl, rfl, rfl, rfl, rfl, rfl, rfl, rfl, trivial⟩
                      · refine Cov.g_on rfl ?_
                        refine Cov.q .ro (.move rfl) rfl ?_
                        refine Cov.g_on rfl ?_
                        refine Cov.q .ro (.move rfl) rfl ?_
                        refine Cov.g_on rfl ?_
                        refine Cov.q .ro (.len_sl rfl rfl sl26) rfl ?_
                        refine Cov.g_on rfl ?_
                        refine Cov.q .ro (.geq rfl rfl) rfl ?_
                        refine Cov.q .ro (.pick_f rfl rfl) rfl ?_
                        refine Cov.prune _ ?_ (Cov.same rfl rfl rfl (hb2162 () trivial))
                        exact ⟨dor_f c2161, rfl, rfl, rfl, rfl, rfl, rfl, rfl, rfl, rfl, rfl, rfl, rfl, rfl, rfl, rfl, rfl, trivial⟩
            · intro hb1714
              refine Cov.split 61 rfl (fun c1713 => ?_) (fun c1713 => ?_)
              · refine Cov.g_off rfl rfl rfl ?_
                refine Cov.g_off rfl rfl rfl ?_
                refine Cov.g_off rfl rfl rfl ?_
                refine Cov.g_off rfl rfl rfl ?_
                refine Cov.q .ro (.pick_t rfl rfl) rfl ?_
                refine Cov.prune _ ?_ (Cov.same rfl rfl rfl (hb1714 () trivial))
                exact ⟨dor_t c1713, rfl, rfl, rfl, rfl, rfl, rfl, rfl, rfl, rfl, rfl, rfl, trivial⟩
              · refine Cov.g_on rfl ?_
                refine Cov.q .ro (.fieldAddr 1 rfl fl56_1 ty3.sz rfl) rfl ?_
                refine Cov.g_on rfl ?_
                refine Cov.q .ro (.load_own 0 rfl rfl ty3 rfl) rfl ?_
                refine Cov.g_on rfl ?_
                refine Cov.q .ro (.move rfl) rfl ?_
                refine Cov.g_on rfl ?_
                refine Cov.q .ro (.gtr rfl rfl) rfl ?_
                refine Cov.q .ro (.pick_f rfl rfl) rfl ?_
                refine Cov.prune _ ?_ (Cov.same rfl rfl rfl (hb1714 () trivial))
                exact ⟨dor_f c1713, rfl, rfl, rfl, rfl, rfl, rfl, rfl, rfl, rfl, rfl, rfl, trivial⟩
          · intro hb1710
            refine Cov.split 55 rfl (fun c1709 => ?_) (fun c1709 => ?_)
            · refine Cov.g_off rfl rfl rfl ?_
              refine Cov.g_off rfl rfl rfl ?_
              refine Cov.g_off rfl rfl rfl ?_
              refine Cov.g_off rfl rfl rfl ?_
              refine Cov.q .ro (.pick_t rfl rfl) rfl ?_
              refine Cov.prune _ ?_ (Cov.same rfl rfl rfl (hb1710 () trivial))
              exact ⟨dor_t c1709, rfl, rfl, rfl, rfl, rfl, rfl, rfl, rfl, rfl, rfl, rfl, trivial⟩
            · refine Cov.g_on rfl ?_
              refine Cov.q .ro (.move rfl) rfl ?_
              refine Cov.g_on rfl ?_
              refine Cov.q .ro (.len_sl rfl rfl sl22) rfl ?_
              refine Cov.g_on rfl ?_
              refine Cov.q .ro (.move rfl) rfl ?_
              refine Cov.g_on rfl ?_
              refine Cov.q .ro (.neq rfl rfl) rfl ?_
              refine Cov.q .ro (.pick_f rfl rfl) rfl ?_
              refine Cov.prune _ ?_ (Cov.same rfl rfl rfl (hb1710 () trivial))
              exact ⟨dor_f c1709, rfl, rfl, rfl, rfl, rfl, rfl, rfl, rfl, rfl, rfl, rfl, trivial⟩

end Go.Proofs.Ythgmcgldmahgeaa
