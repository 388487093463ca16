/- The walks. Printed by wip/lift/drive.py. -/
import Derived.Test.YtbhmhindommaeaaW3
namespace Go.Proofs.Ytbhmhindommaeaa
open Go.RowKit
set_option linter.unusedSimpArgs false
set_option linter.unusedVariables false
set_option synthInstance.maxSize 2000
set_option synthInstance.maxHeartbeats 400000

set_option maxHeartbeats 4000000 in
set_option maxRecDepth 100000 in
theorem law19_CuckooSpots_c {Fs : List Hp} {G : Hp} {a0 : Option Addr} {k0 : Nat} {x0 : List Int} {r : Bool} (hG : G ∈ Fs) (s0 : SlR (Rep.int .i64) G a0 k0 x0) (h : law19_CuckooSpots x0 = some r) : RetS Try.prog 8 #[.slice a0 x0.length k0] Fs [] [] (fun v bo so => v = .bool r ∧ bo = [] ∧ so = []) := by
  unfold law19_CuckooSpots at h
  try dsimp only at h
  refine RetS.of (vs := [_]) Try.func8 rfl Try.ntmps8 [(0, _)] ⟨rfl, trivial⟩ rfl hG fun w0 S0 hS0 B0 => ?_
  refine Cov.seq ?_
  refine Cov.region rfl ?_
  refine Cov.q .ro (.assign rfl) rfl ?_
  refine Cov.region_end ?_
  refine Cov.seq ?_
  refine Cov.seq ?_
  refine Cov.region rfl ?_
  obtain ⟨u1, hu1, r2⟩ := bind_some h; clear h
  refine Cov.callS (b1 := []) (b2 := []) (s1 := []) [] [] .ro rfl rfl Try.call9 rfl rfl (law19_sane_c (G := G) List.mem_cons_self  hu1) rfl (fun v4 bo so h3 => ?_)
  obtain ⟨rfl, rfl, rfl⟩ := h3
  refine Cov.same (bl' := []) (sl' := []) rfl rfl rfl ?_
  refine Cov.q .ro (.not rfl) rfl ?_
  refine Cov.region_end ?_
  refine Cov.cond rfl (fun c5 => ?_) (fun c5 => ?_)
  · have r6 := ifT r2 c5; clear r2
    refine Cov.seq ?_
    refine Cov.region rfl ?_
    refine Cov.q .ro (.assign rfl) rfl ?_
    refine Cov.region_end ?_
    cases r6
    refine Cov.retS (c := ⟨8, none⟩) (.inr ⟨_, rfl⟩) [.tmp 2] [_] rfl Try.func8 Try.results8 ⟨RV.tmp rfl, trivial⟩ (fun _ h => List.mem_cons_of_mem _ h) ⟨rfl, rfl, rfl⟩
  · have r7 := ifBF r2 c5; clear r2
    refine Cov.skip ?_
    refine Cov.seq ?_
    refine Cov.seq ?_
    refine Cov.region rfl ?_
    refine Cov.q .ro (.move rfl) rfl ?_
    obtain ⟨u8, hu8, r9⟩ := bind_some r7; clear r7
    refine Cov.callS (b1 := []) (b2 := []) (s1 := []) [_] [] .ro rfl rfl Try.call10 rfl rfl (make_Few_c (G := G) List.mem_cons_self s0 hu8) rfl (fun v11 bo so h10 => ?_)
    obtain ⟨rfl, rfl, rfl⟩ := h10
    refine Cov.same (bl' := []) (sl' := []) rfl rfl rfl ?_
    refine Cov.q .ro (.not rfl) rfl ?_
    refine Cov.region_end ?_
    refine Cov.cond rfl (fun c12 => ?_) (fun c12 => ?_)
    · have r13 := ifT r9 c12; clear r9
      refine Cov.seq ?_
      refine Cov.region rfl ?_
      refine Cov.q .ro (.assign rfl) rfl ?_
      refine Cov.region_end ?_
      cases r13
      refine Cov.retS (c := ⟨8, none⟩) (.inr ⟨_, rfl⟩) [.tmp 2] [_] rfl Try.func8 Try.results8 ⟨RV.tmp rfl, trivial⟩ (fun _ h => List.mem_cons_of_mem _ h) ⟨rfl, rfl, rfl⟩
    · have r14 := ifBF r9 c12; clear r9
      refine Cov.skip ?_
      refine Cov.seq ?_
      refine Cov.region rfl ?_
      refine Cov.q .ro (.move rfl) rfl ?_
      obtain ⟨u15, hu15, r16⟩ := bind_some r14; clear r14
      refine Cov.callS (b1 := []) (b2 := []) (s1 := []) [_] [] .ro rfl rfl Try.call12 rfl rfl (make_New_c (G := G) List.mem_cons_self s0 hu15) rfl (fun v18 bo so h17 => ?_)
      obtain ⟨a20, k21, b19, rfl, rfl, rfl, s22⟩ := h17
      refine Cov.same (bl' := [_]) (sl' := []) rfl rfl rfl ?_
      refine Cov.q .ro (.assign rfl) rfl ?_
      refine Cov.region_end ?_
      refine Cov.seq ?_
      refine Cov.region rfl ?_
      refine Cov.q .ro (.move rfl) rfl ?_
      obtain ⟨u23, hu23, r24⟩ := bind_some r16; clear r16
      refine Cov.callW (b1 := [_]) (b2 := []) (s1 := []) [_] [] .ro rfl rfl Try.call11 rfl rfl (make_Hashing_c (G := G) List.mem_cons_self s22 hu23) rfl B0 (fun v26 bo so G27 e28 B29 h25 => ?_)
      obtain ⟨a31, k32, a34, k35, rfl, rfl, rfl, s33, s36⟩ := h25
      refine Cov.same (bl' := [_]) (sl' := []) rfl rfl rfl ?_
      refine Cov.alloc .ro ty25 rfl (fun b37 hb37 => ?_)
      refine Cov.store 0 [_, _] [_, _] .ro rfl rfl rfl ty25 rfl rfl rfl rfl ?_
      refine Cov.region_end ?_
      refine Cov.seq ?_
      refine Cov.region rfl ?_
      refine Cov.q .ro (.load_own_a 0 [_, _] rfl rfl ty25 rfl) rfl ?_
      obtain ⟨u38, hu38, r39⟩ := bind_some r24; clear r24
      refine Cov.callW (b1 := []) (b2 := [_, _]) (s1 := []) [_, _] [] .ro rfl rfl Try.call26 rfl rfl (cuckoo_Layout_c (G := G27) List.mem_cons_self s33 hu38) rfl B29 (fun v41 bo so G42 e43 B44 h40 => ?_)
      obtain ⟨a46, k47, rfl, rfl, rfl, s48⟩ := h40
      refine Cov.same (bl' := [_, _]) (sl' := []) rfl rfl rfl ?_
      refine Cov.q .ro (.move rfl) rfl ?_
      refine Cov.q .ro (.extract rfl rfl) rfl ?_
      refine Cov.q .ro (.extract rfl rfl) rfl ?_
      refine Cov.q .ro (.assign rfl) rfl ?_
      refine Cov.q .ro (.assign rfl) rfl ?_
      refine Cov.region_end ?_
      refine Cov.prune [(3, _), (4, _), (5, _), (6, _)] ⟨rfl, rfl, rfl, rfl, trivial⟩ ?_
      refine Cov.seq ?_
      refine Cov.seq ?_
      refine Cov.region rfl ?_
      refine Cov.q .ro (.move rfl) rfl ?_
      refine Cov.q .ro (.neq rfl rfl) rfl ?_
      refine Cov.q .ro (.move rfl) rfl ?_
      refine Cov.cutR 6 (β := Unit) (fun y => [(51, .bool (decide ((u38.2 ≠ 0) ∨ ((u38.1.length : Int) ≠ u23.1.1))))]) [(3, _), (4, _), (5, _)] (fun y => G42 :: Fs) (fun y => []) [_, _] (fun y => []) [] (fun y => True) ⟨rfl, rfl, rfl, trivial⟩ [0, 1] rfl [] rfl ?_ ?_
      · rintro _ _
        refine Cov.prune [(51, .bool (decide ((u38.2 ≠ 0) ∨ ((u38.1.length : Int) ≠ u23.1.1)))), (3, _), (4, _), (5, _)] ⟨rfl, rfl, rfl, rfl, trivial⟩ ?_
        refine Cov.same (bl' := [_, _]) (sl' := []) (Fs' := G42 :: Fs) rfl rfl rfl ?_
        refine Cov.region_end ?_
        refine Cov.cond_dec rfl (fun c53 => ?_) (fun c53 => ?_)
        · have r54 := ifT r39 c53; clear r39
          refine Cov.seq ?_
          refine Cov.region rfl ?_
          refine Cov.q .ro (.assign rfl) rfl ?_
          refine Cov.region_end ?_
          cases r54
          refine Cov.drop 2 0 [] _ rfl rfl ?_
          refine Cov.retS (c := ⟨8, none⟩) (.inr ⟨_, rfl⟩) [.tmp 2] [_] rfl Try.func8 Try.results8 ⟨RV.tmp rfl, trivial⟩ (fun _ h => List.mem_cons_of_mem _ h) ⟨rfl, rfl, rfl⟩
        · have r55 := ifF r39 c53; clear r39
          refine Cov.skip ?_
          refine Cov.seq ?_
          refine Cov.region rfl ?_
          refine Cov.q .ro (.assign rfl) rfl ?_
          refine Cov.q .ro (.assign rfl) rfl ?_
          refine Cov.region_end ?_
          refine Cov.seq ?_
          refine Cov.seq ?_
          refine Cov.region rfl ?_
          refine Cov.q .ro (.assign rfl) rfl ?_
          refine Cov.region_end ?_
          refine Cov.cutB (β := Hp × Int × Int × Int) (fun y => [(8, .int .i64 y.2.1)]) [(3, _), (4, _), (5, _), (7, _)] (fun y => y.1 :: Fs) (fun y => [(b37, .cells #[.int .i64 y.2.2.1, .slice a31 u23.1.2.length k32] 25 (0, 0)), (b19, .cells #[.slice a34 u23.2.1.length k35, .int .i64 y.2.2.2] 64 (0, 0))]) [] (fun y => []) [] (fun y => HpLe G42 y.1 ∧ Bd w0 S0 Fs y.1 ∧ (law19_CuckooSpots_J4 u38.1 u23.1.2 u23.2.1) y.2.1 y.2.2.1 y.2.2.2 = some r) ⟨rfl, rfl, rfl, rfl, trivial⟩ [] rfl [] rfl ?_ ?_
          · intro y hI
            obtain ⟨G1630, v1634, v1635, v1636⟩ := y
            obtain ⟨e1631, B1632, r1638⟩ := hI
            try dsimp only at e1631 B1632 r1638
            refine Cov.prune [(8, .int .i64 v1634), (3, _), (4, _), (5, _), (7, _)] ⟨rfl, rfl, rfl, rfl, rfl, trivial⟩ ?_
            refine Cov.same (bl' := [(b37, .cells #[.int .i64 v1635, .slice a31 u23.1.2.length k32] 25 (0, 0)), (b19, .cells #[.slice a34 u23.2.1.length k35, .int .i64 v1636] 64 (0, 0))]) (sl' := []) (Fs' := G1630 :: Fs) rfl rfl rfl ?_
            unfold law19_CuckooSpots_J4 at r1638
            try dsimp only at r1638
            refine Cov.seq ?_
            refine Cov.seq ?_
            refine Cov.region rfl ?_
            refine Cov.q .ro (.move rfl) rfl ?_
            refine Cov.q .ro (.len_sl rfl rfl sl54) rfl ?_
            refine Cov.q .ro (.move rfl) rfl ?_
            refine Cov.region_end ?_
            refine Cov.cutB (β := Int × Int × Int) (fun y => [(7, .int .i64 y.1)]) [(8, _), (3, _), (4, _), (5, _)] (fun y => G1630 :: Fs) (fun y => [(b37, .cells #[.int .i64 y.2.1, .slice a31 u23.1.2.length k32] 25 (0, 0)), (b19, .cells #[.slice a34 u23.2.1.length k35, .int .i64 y.2.2] 64 (0, 0))]) [] (fun y => []) [] (fun y => (law19_CuckooSpots_J2 v1634 u38.1 u23.1.2 u23.2.1) y.1 y.2.1 y.2.2 = some r) ⟨rfl, rfl, rfl, rfl, trivial⟩ [] rfl [] rfl ?_ ?_
            · intro y hI
              obtain ⟨v1681, v1682, v1683⟩ := y
              have r1685 := hI; clear hI
              try dsimp only at r1685
              refine Cov.prune [(7, .int .i64 v1681), (8, _), (3, _), (4, _), (5, _)] ⟨rfl, rfl, rfl, rfl, rfl, trivial⟩ ?_
              refine Cov.same (bl' := [(b37, .cells #[.int .i64 v1682, .slice a31 u23.1.2.length k32] 25 (0, 0)), (b19, .cells #[.slice a34 u23.2.1.length k35, .int .i64 v1683] 64 (0, 0))]) (sl' := []) (Fs' := G1630 :: Fs) rfl rfl rfl ?_
              unfold law19_CuckooSpots_J2 at r1685
              try dsimp only at r1685
              refine Cov.seq ?_
              refine Cov.region rfl ?_
              refine Cov.q .ro (.move rfl) rfl ?_
              refine Cov.q .ro (.fieldAddr 0 rfl fl25_0 ty3.sz rfl) rfl ?_
              refine Cov.q .ro (.load_own 0 rfl rfl ty3 rfl) rfl ?_
              obtain ⟨u1690, hu1690, r1691⟩ := bind_some r1685; clear r1685
              refine Cov.pull 1 rfl [_, _] rfl ?_
              refine Cov.callS (b1 := [_]) (b2 := [_]) (s1 := []) [_, _] [] .ro rfl rfl Try.call16 rfl rfl (law19_items_c (G := G1630) List.mem_cons_self (SlR.mono (HpLe.trans e43 e1631) s36) hu1690) rfl (fun v1693 bo so h1692 => ?_)
              obtain ⟨a1699, k1700, a1695, k1696, cs1697, rfl, rfl, rfl, s1701, o1698⟩ := h1692
              refine Cov.same (bl' := [_, _]) (sl' := [_]) rfl rfl rfl ?_
              refine Cov.q .ro (.assign rfl) rfl ?_
              refine Cov.region_end ?_
              refine Cov.seq ?_
              refine Cov.region rfl ?_
              refine Cov.q .ro (.load_own_a 1 [_, _] rfl rfl ty25 rfl) rfl ?_
              refine Cov.q .ro (.move rfl) rfl ?_
              refine Cov.freezeR 0 rfl rfl o1698 [] rfl B1632 (fun G1702 e1703 B1704 s1705 => ?_)
              obtain ⟨u1707, hu1707, r1708⟩ := bind_some r1691; clear r1691
              refine Cov.callW (b1 := []) (b2 := [_, _]) (s1 := []) [_, _] [] .ro rfl rfl Try.call17 rfl rfl (cuckoo_Assign_c (G := G1702) List.mem_cons_self (SlR.mono (HpLe.trans (HpLe.trans e43 e1631) e1703) s33) s1705 hu1707) rfl B1704 (fun v1710 bo so G1711 e1712 B1713 h1709 => ?_)
              obtain ⟨a1715, k1716, rfl, rfl, rfl, s1717⟩ := h1709
              refine Cov.same (bl' := [_, _]) (sl' := []) rfl rfl rfl ?_
              refine Cov.q .ro (.move rfl) rfl ?_
              refine Cov.q .ro (.extract rfl rfl) rfl ?_
              refine Cov.q .ro (.extract rfl rfl) rfl ?_
              refine Cov.alloc .ro ty43 rfl (fun b1718 hb1718 => ?_)
              refine Cov.store 0 [_] [_, _, _] .ro rfl rfl rfl ty43 rfl rfl rfl rfl ?_
              refine Cov.q .ro (.assign rfl) rfl ?_
              refine Cov.region_end ?_
              refine Cov.seq ?_
              refine Cov.seq ?_
              refine Cov.region rfl ?_
              refine Cov.q .ro (.move rfl) rfl ?_
              refine Cov.q .ro (.neq rfl rfl) rfl ?_
              refine Cov.region_end ?_
              refine Cov.cond_dec rfl (fun c1719 => ?_) (fun c1719 => ?_)
              · have r1720 := ifT r1708 c1719; clear r1708
                refine Cov.seq ?_
                refine Cov.region rfl ?_
                refine Cov.q .ro (.move rfl) rfl ?_
                refine Cov.q .ro (.move rfl) rfl ?_
                refine Cov.q .ro (.eql rfl rfl) rfl ?_
                refine Cov.q .ro (.move rfl) rfl ?_
                refine Cov.cutR 3 (β := Unit) (fun y => [(145, .bool (decide ((v1681 = v1634) ∧ (u1707.2 = 15))))]) [] (fun y => G1711 :: Fs) (fun y => []) [_, _, _] (fun y => []) [] (fun y => True) trivial [0, 1, 2] rfl [] rfl ?_ ?_
                · rintro _ _
                  refine Cov.prune [(145, .bool (decide ((v1681 = v1634) ∧ (u1707.2 = 15))))] ⟨rfl, trivial⟩ ?_
                  refine Cov.same (bl' := [_, _, _]) (sl' := []) (Fs' := G1711 :: Fs) rfl rfl rfl ?_
                  refine Cov.q .ro (.assign rfl) rfl ?_
                  refine Cov.region_end ?_
                  cases r1720
                  refine Cov.drop 3 0 [] _ rfl rfl ?_
                  refine Cov.retS (c := ⟨8, none⟩) (.inr ⟨_, rfl⟩) [.tmp 2] [_] rfl Try.func8 Try.results8 ⟨RV.tmp rfl, trivial⟩ (fun _ h => List.mem_cons_of_mem _ h) ⟨rfl, rfl, rfl⟩
                · intro hb1722
                  refine Cov.split 142 rfl (fun c1721 => ?_) (fun c1721 => ?_)
                  · refine Cov.g_on rfl ?_
                    refine Cov.q .ro (.move rfl) rfl ?_
                    refine Cov.g_on rfl ?_
                    refine Cov.q .ro (.eql rfl rfl) rfl ?_
                    refine Cov.q .ro (.pick_t rfl rfl) rfl ?_
                    refine Cov.prune _ ?_ (Cov.same rfl rfl rfl (hb1722 () trivial))
                    exact ⟨dand_t c1721, trivial⟩
                  · refine Cov.g_off rfl rfl rfl ?_
                    refine Cov.g_off rfl rfl rfl ?_
                    refine Cov.q .ro (.pick_f rfl rfl) rfl ?_
                    refine Cov.prune _ ?_ (Cov.same rfl rfl rfl (hb1722 () trivial))
                    exact ⟨dand_f c1721, trivial⟩
              · have r1725 := ifF r1708 c1719; clear r1708
                refine Cov.skip ?_
                refine Cov.seq ?_
                refine Cov.region rfl ?_
                refine Cov.q .ro (.load_own_a 2 [_, _] rfl rfl ty25 rfl) rfl ?_
                refine Cov.q .ro (.move rfl) rfl ?_
                refine Cov.q .ro (.load_own_a 0 [_] rfl rfl ty43 rfl) rfl ?_
                obtain ⟨u1726, hu1726, r1727⟩ := bind_some r1725; clear r1725
                refine Cov.callS (b1 := []) (b2 := [_, _, _]) (s1 := []) [_, _, _] [] .ro rfl rfl Try.call33 rfl rfl (cuckoo_Spots_c (G := G1711) List.mem_cons_self (SlR.mono (HpLe.trans (HpLe.trans (HpLe.trans e43 e1631) e1703) e1712) s33) (SlR.mono e1712 s1705) s1717 hu1726) rfl (fun v1729 bo so h1728 => ?_)
                obtain ⟨a1731, k1732, cs1733, rfl, rfl, rfl, o1734⟩ := h1728
                refine Cov.same (bl' := [_, _, _]) (sl' := [_]) rfl rfl rfl ?_
                refine Cov.q .ro (.move rfl) rfl ?_
                refine Cov.q .ro (.extract rfl rfl) rfl ?_
                refine Cov.q .ro (.extract rfl rfl) rfl ?_
                refine Cov.q .ro (.assign rfl) rfl ?_
                refine Cov.q .ro (.assign rfl) rfl ?_
                refine Cov.region_end ?_
                refine Cov.prune [(7, _), (8, _), (5, _), (22, _), (23, _), (25, _), (26, _)] ⟨rfl, rfl, rfl, rfl, rfl, rfl, rfl, trivial⟩ ?_
                refine Cov.seq ?_
                refine Cov.seq ?_
                refine Cov.region rfl ?_
                refine Cov.q .ro (.move rfl) rfl ?_
                refine Cov.q .ro (.neq rfl rfl) rfl ?_
                refine Cov.q .ro (.move rfl) rfl ?_
                refine Cov.cutR 6 (β := Unit) (fun y => [(161, .bool (decide ((u1726.2 ≠ 0) ∨ ((u1726.1.length : Int) ≠ (u1690.1.length : Int)))))]) [(7, _), (8, _), (5, _), (22, _), (23, _), (25, _)] (fun y => G1711 :: Fs) (fun y => []) [_, _, _] (fun y => []) [_] (fun y => True) ⟨rfl, rfl, rfl, rfl, rfl, rfl, trivial⟩ [0, 1, 2] rfl [0] rfl ?_ ?_
                · rintro _ _
                  refine Cov.prune [(161, .bool (decide ((u1726.2 ≠ 0) ∨ ((u1726.1.length : Int) ≠ (u1690.1.length : Int))))), (7, _), (8, _), (5, _), (22, _), (23, _), (25, _)] ⟨rfl, rfl, rfl, rfl, rfl, rfl, rfl, trivial⟩ ?_
                  refine Cov.same (bl' := [_, _, _]) (sl' := [_]) (Fs' := G1711 :: Fs) rfl rfl rfl ?_
                  refine Cov.region_end ?_
                  refine Cov.cond_dec rfl (fun c1739 => ?_) (fun c1739 => ?_)
                  · have r1740 := ifT r1727 c1739; clear r1727
                    refine Cov.seq ?_
                    refine Cov.region rfl ?_
                    refine Cov.q .ro (.assign rfl) rfl ?_
                    refine Cov.region_end ?_
                    cases r1740
                    refine Cov.drop 3 0 [] _ rfl rfl ?_
                    refine Cov.drop 0 1 _ [] rfl rfl ?_
                    refine Cov.retS (c := ⟨8, none⟩) (.inr ⟨_, rfl⟩) [.tmp 2] [_] rfl Try.func8 Try.results8 ⟨RV.tmp rfl, trivial⟩ (fun _ h => List.mem_cons_of_mem _ h) ⟨rfl, rfl, rfl⟩
                  · have r1741 := ifF r1727 c1739; clear r1727
                    refine Cov.skip ?_
                    refine Cov.seq ?_
                    refine Cov.seq ?_
                    refine Cov.region rfl ?_
                    refine Cov.q .ro (.fieldAddr 0 rfl fl43_0 ty22.sz rfl) rfl ?_
                    refine Cov.q .ro (.load_own 0 rfl rfl ty22 rfl) rfl ?_
                    refine Cov.q .ro (.len_sl rfl rfl sl22) rfl ?_
                    refine Cov.q .ro (.move rfl) rfl ?_
                    refine Cov.region_end ?_
                    refine Cov.block ?_
                    refine Cov.freezeR 0 rfl rfl o1734 [] rfl B1713 (fun G1965 e1966 B1967 s1968 => ?_)
                    refine Cov.loop2 (α := Nat × List Int) (fun y => [(165, .int .i64 (y.1 : Int))]) [(7, _), (8, _), (5, _), (22, _), (25, _), (163, _), (164, _)] (fun y => []) (fun y => []) [_, _, _] (fun y => []) [] (fun y => List.drop y.1 u1707.1 = y.2 ∧ law19_CuckooSpots_L1 v1681 v1634 u38.1 u1690.1 u1726.1 y.2 y.1  = some r) (fun y => y.2.length) (0, u1707.1) ⟨rfl, r1741⟩ ⟨rfl, rfl, rfl, rfl, rfl, rfl, rfl, rfl, trivial⟩ rfl rfl rfl (fun y hI hb2188 => ?_)
                    obtain ⟨i2184, w2185⟩ := y
                    obtain ⟨g2186, r2187⟩ := hI
                    try dsimp only at g2186 r2187
                    refine Cov.prune [(165, .int .i64 (i2184 : Int)), (7, _), (8, _), (5, _), (22, _), (25, _), (163, _), (164, _)] ⟨rfl, rfl, rfl, rfl, rfl, rfl, rfl, rfl, trivial⟩ ?_
                    refine Cov.same (bl' := [_, _, _]) (sl' := []) (Fs' := G1965 :: Fs) rfl rfl rfl ?_
                    cases w2185 with
                    | nil =>
                      rw [law19_CuckooSpots_L1] at r2187; try dsimp only at r2187
                      refine Cov.seq ?_
                      refine Cov.region rfl ?_
                      refine Cov.q .ro (.lss rfl rfl) rfl ?_
                      refine Cov.region_end ?_
                      refine Cov.seq ?_
                      refine Cov.cond_dec rfl (fun c => absurd c (drop_nil g2186)) (fun _ => ?_)
                      refine Cov.exit rfl ?_
                      refine Cov.seq ?_
                      refine Cov.region rfl ?_
                      refine Cov.q .ro (.move rfl) rfl ?_
                      refine Cov.q .ro (.move rfl) rfl ?_
                      refine Cov.q .ro (.eql rfl rfl) rfl ?_
                      refine Cov.q .ro (.assign rfl) rfl ?_
                      refine Cov.region_end ?_
                      cases r2187
                      refine Cov.drop 3 0 [] _ rfl rfl ?_
                      refine Cov.retS (c := ⟨8, none⟩) (.inr ⟨_, rfl⟩) [.tmp 2] [_] rfl Try.func8 Try.results8 ⟨RV.tmp rfl, trivial⟩ (fun _ h => List.mem_cons_of_mem _ h) ⟨rfl, rfl, rfl⟩
                    | cons x2201 xs2202 =>
                      have r2200 : law19_CuckooSpots_B1 v1681 v1634 u38.1 u1690.1 u1726.1 (law19_CuckooSpots_L1 v1681 v1634 u38.1 u1690.1 u1726.1 xs2202 (i2184 + 1)) x2201 i2184  = some r := r2187; clear r2187; unfold law19_CuckooSpots_B1 at r2200; try dsimp only at r2200
                      refine Cov.seq ?_
                      refine Cov.region rfl ?_
                      refine Cov.q .ro (.lss rfl rfl) rfl ?_
                      refine Cov.region_end ?_
                      refine Cov.seq ?_
                      refine Cov.cond_dec rfl (fun _ => ?_) (fun c => absurd (drop_lt g2186) c)
                      refine Cov.skip ?_
                      refine Cov.seq ?_
                      refine Cov.block ?_
                      refine Cov.seq ?_
                      refine Cov.region rfl ?_
                      refine Cov.q .ro (.move rfl) rfl ?_
                      obtain ⟨c2203, p2204, h2205⟩ := SlR.get (SlR.mono e1966 s1717) (drop_idx g2186)
                      obtain rfl := h2205
                      refine Cov.q .ro (.idxR (SlR.mono e1966 s1717) rfl rfl (drop_idx g2186) sl22 ty3.sz) rfl ?_
                      refine Cov.q .ro (.load_rp p2204 List.mem_cons_self rfl ty3 rfl) rfl ?_
                      refine Cov.q .ro (.assign rfl) rfl ?_
                      refine Cov.q .ro (.assign rfl) rfl ?_
                      refine Cov.region_end ?_
                      refine Cov.seq ?_
                      refine Cov.drawL (.q 0 (.q 1 (.q 2 (.q 3 (.q 4 (.q 5 (.q 6 (.q 7 (.q 8 (.q 9 (.q 10 (.q 11 (.q 12 (.q 13 (.q 14 (.q 15 (.q 16 (.q 17 (.q 18 (.q 19 (.q 20 (.q 21 (.q 22 (.q 23 (.q 24 (.q 25 (.q 26 (.q 27 (.q 28 (.q 29 (.q 30 (.q 31 (.q 32 (.q 33 (.q 34 (.q 35 (.q 36 (.q 37 .nil)))))))))))))))))))))))))))))))))))))) [_, _, _] (by kernel_rfl) (by kernel_rfl) (pick_mem [0, 1, 2] rfl) ?_
                      refine Cov.dq (.move rfl) rfl ?_
                      refine Cov.dq (.geq rfl rfl) rfl ?_
                      refine Cov.dq (.move rfl) rfl ?_
                      obtain ⟨u2303, h2304, r2305⟩ := bind_some r2200; clear r2200
                      refine Cov.cutD 35 (β := Unit) (fun y => [(207, .bool u2303)]) [(165, _), (7, _), (8, _), (5, _), (22, _), (25, _), (163, _), (164, _)] (fun y => G1965 :: Fs) (fun y => []) [_, _, _] (fun y => []) [] (fun y => True) ⟨rfl, rfl, rfl, rfl, rfl, rfl, rfl, rfl, trivial⟩ [0, 1, 2] rfl [] rfl ?_ ?_
                      · rintro _ _
                        refine Cov.prune [(207, .bool u2303), (165, _), (7, _), (8, _), (5, _), (22, _), (25, _), (163, _), (164, _)] ⟨rfl, rfl, rfl, rfl, rfl, rfl, rfl, rfl, rfl, trivial⟩ ?_
                        refine Cov.same (bl' := [_, _, _]) (sl' := []) (Fs' := G1965 :: Fs) rfl rfl rfl ?_
                        refine Cov.draw_end ?_
                        refine Cov.cond rfl (fun c2308 => ?_) (fun c2308 => ?_)
                        · have r2309 := ifT r2305 c2308; clear r2305
                          refine Cov.seq ?_
                          refine Cov.region rfl ?_
                          refine Cov.q .ro (.assign rfl) rfl ?_
                          refine Cov.region_end ?_
                          cases r2309
                          refine Cov.drop 3 0 [] _ rfl rfl ?_
                          refine Cov.retS (c := ⟨8, none⟩) (.inr ⟨_, rfl⟩) [.tmp 2] [_] rfl Try.func8 Try.results8 ⟨RV.tmp rfl, trivial⟩ (fun _ h => List.mem_cons_of_mem _ h) ⟨rfl, rfl, rfl⟩
                        · have r2310 := ifBF r2305 c2308; clear r2305
                          refine Cov.skip ?_
                          refine Cov.inBlock ?_
                          refine Cov.region rfl ?_
                          refine Cov.q .ro (.addw rfl rfl) rfl ?_
                          refine Cov.q .ro (.move rfl) rfl ?_
                          refine Cov.region_end ?_
                          refine Cov.prune _ ?_ (Cov.same rfl rfl rfl (hb2188 ((i2184 + 1), xs2202) ⟨(drop_succ g2186), r2310⟩ (Nat.lt_succ_self _)))
                          exact ⟨(congrArg (fun z => some (Value.int .i64 z)) (idx_wrap (SlR.len s1717) g2186)), rfl, rfl, rfl, rfl, rfl, rfl, rfl, trivial⟩
                      · intro hb2302
                        refine Cov.split 172 rfl (fun c2301 => ?_) (fun c2301 => ?_)
                        · have r2311 := ifT h2304 c2301
                          refine Cov.dgq_on rfl ?_
                          refine Cov.dq (.move rfl) rfl ?_
                          refine Cov.dgq_on rfl ?_
                          refine Cov.dq (.move rfl) rfl ?_
                          refine Cov.dgq_on rfl ?_
                          obtain ⟨u2312, hu2312, r2313⟩ := bind_some r2311; clear r2311
                          obtain ⟨c2314, p2315, h2316⟩ := SlR.get s1968 hu2312
                          obtain rfl := h2316
                          refine Cov.dq (.idxR s1968 rfl rfl hu2312 sl22 ty3.sz) rfl ?_
                          refine Cov.dgq_on rfl ?_
                          refine Cov.dq (.load_rp p2315 List.mem_cons_self rfl ty3 rfl) rfl ?_
                          refine Cov.dgq_on rfl ?_
                          refine Cov.dq (.lss rfl rfl) rfl ?_
                          refine Cov.dgq_on rfl ?_
                          refine Cov.dq (.move rfl) rfl ?_
                          obtain ⟨u2332, h2333, r2334⟩ := bind_some r2313; clear r2313
                          refine Cov.cutD 11 (β := Unit) (fun y => [(189, .bool u2332)]) [(165, _), (7, _), (8, _), (5, _), (22, _), (25, _), (163, _), (164, _), (27, _), (28, _), (172, _), (173, _), (174, _), (175, _), (176, _), (177, _)] (fun y => G1965 :: Fs) (fun y => []) [_, _, _] (fun y => []) [] (fun y => True) ⟨rfl, rfl, rfl, rfl, rfl, rfl, rfl, rfl, rfl, rfl, rfl, rfl, rfl, rfl, rfl, rfl, trivial⟩ [0, 1, 2] rfl [] rfl ?_ ?_
                          · rintro _ _
                            refine Cov.prune [(189, .bool u2332), (165, _), (7, _), (8, _), (5, _), (22, _), (25, _), (163, _), (164, _), (27, _), (28, _), (172, _), (173, _), (174, _), (175, _), (176, _), (177, _)] ⟨rfl, rfl, rfl, rfl, rfl, rfl, rfl, rfl, rfl, rfl, rfl, rfl, rfl, rfl, rfl, rfl, rfl, trivial⟩ ?_
                            refine Cov.same (bl' := [_, _, _]) (sl' := []) (Fs' := G1965 :: Fs) rfl rfl rfl ?_
                            refine Cov.dgq_on rfl ?_
                            refine Cov.dq (.move rfl) rfl ?_
                            obtain ⟨u2362, h2363, r2364⟩ := bind_some r2334; clear r2334
                            refine Cov.cutD 16 (β := Unit) (fun y => [(206, .bool u2362)]) [(165, _), (7, _), (8, _), (5, _), (22, _), (25, _), (163, _), (164, _), (172, _), (173, _), (174, _), (175, _), (176, _), (177, _), (189, _)] (fun y => G1965 :: Fs) (fun y => []) [_, _, _] (fun y => []) [] (fun y => True) ⟨rfl, rfl, rfl, rfl, rfl, rfl, rfl, rfl, rfl, rfl, rfl, rfl, rfl, rfl, rfl, trivial⟩ [0, 1, 2] rfl [] rfl ?_ ?_
                            · rintro _ _
                              refine Cov.prune [(206, .bool u2362), (165, _), (7, _), (8, _), (5, _), (22, _), (25, _), (163, _), (164, _), (172, _), (173, _), (174, _), (175, _), (176, _), (177, _), (189, _)] ⟨rfl, rfl, rfl, rfl, rfl, rfl, rfl, rfl, rfl, rfl, rfl, rfl, rfl, rfl, rfl, rfl, trivial⟩ ?_
                              refine Cov.same (bl' := [_, _, _]) (sl' := []) (Fs' := G1965 :: Fs) rfl rfl rfl ?_
                              refine Cov.dq (.pick_t rfl rfl) rfl ?_
                              refine Cov.prune _ ?_ (Cov.same rfl rfl rfl (hb2302 () trivial))
                              exact ⟨sval r2364, rfl, rfl, rfl, rfl, rfl, rfl, rfl, rfl, trivial⟩
                            · intro hb2361
                              refine Cov.split_b 190 rfl (fun c2360 => ?_) (fun c2360 => ?_)
                              · have r2367 := ifT h2363 c2360
                                refine Cov.dgq_off rfl rfl rfl ?_
                                refine Cov.dgq_off rfl rfl rfl ?_
                                refine Cov.dgq_off rfl rfl rfl ?_
                                refine Cov.dgq_off rfl rfl rfl ?_
                                refine Cov.dgq_off rfl rfl rfl ?_
                                refine Cov.dgq_off rfl rfl rfl ?_
                                refine Cov.dgq_off rfl rfl rfl ?_
                                refine Cov.dgq_off rfl rfl rfl ?_
                                refine Cov.dgq_off rfl rfl rfl ?_
                                refine Cov.dgq_off rfl rfl rfl ?_
                                refine Cov.dgq_off rfl rfl rfl ?_
                                refine Cov.dgq_off rfl rfl rfl ?_
                                refine Cov.dgq_off rfl rfl rfl ?_
                                refine Cov.dgq_off rfl rfl rfl ?_
                                refine Cov.dgq_off rfl rfl rfl ?_
                                refine Cov.dgq_on rfl ?_
                                refine Cov.dq (.pick_t rfl rfl) rfl ?_
                                refine Cov.prune _ ?_ (Cov.same rfl rfl rfl (hb2361 () trivial))
                                exact ⟨sval r2367, rfl, rfl, rfl, rfl, rfl, rfl, rfl, rfl, rfl, rfl, rfl, rfl, rfl, rfl, rfl, trivial⟩
                              · have r2368 := ifBF h2363 c2360
                                refine Cov.dgq_on rfl ?_
                                refine Cov.dq (.move rfl) rfl ?_
                                refine Cov.dgq_on rfl ?_
                                refine Cov.dq (.move rfl) rfl ?_
                                refine Cov.dgq_on rfl ?_
                                obtain ⟨u2369, hu2369, r2370⟩ := bind_some r2368; clear r2368
                                obtain ⟨c2371, p2372, h2373⟩ := SlR.get (SlR.mono (HpLe.trans (HpLe.trans (HpLe.trans e1631 e1703) e1712) e1966) s48) hu2369
                                obtain ⟨a2374, k2375, rfl, s2376⟩ := h2373
                                refine Cov.dq (.idxR (SlR.mono (HpLe.trans (HpLe.trans (HpLe.trans e1631 e1703) e1712) e1966) s48) rfl rfl hu2369 sl54 ty22.sz) rfl ?_
                                refine Cov.dgq_on rfl ?_
                                refine Cov.dq (.load_rp p2372 List.mem_cons_self rfl ty22 rfl) rfl ?_
                                refine Cov.dgq_on rfl ?_
                                refine Cov.dq (.move rfl) rfl ?_
                                refine Cov.dgq_on rfl ?_
                                refine Cov.dq (.move rfl) rfl ?_
                                refine Cov.dgq_on rfl ?_
                                obtain ⟨u2377, hu2377, r2378⟩ := bind_some r2370; clear r2370
                                obtain ⟨c2379, p2380, h2381⟩ := SlR.get s1968 hu2377
                                obtain rfl := h2381
                                refine Cov.dq (.idxR s1968 rfl rfl hu2377 sl22 ty3.sz) rfl ?_
                                refine Cov.dgq_on rfl ?_
                                refine Cov.dq (.load_rp p2380 List.mem_cons_self rfl ty3 rfl) rfl ?_
                                refine Cov.dgq_on rfl ?_
                                obtain ⟨u2382, hu2382, r2383⟩ := bind_some r2378; clear r2378
                                obtain ⟨c2384, p2385, h2386⟩ := SlR.get s2376 hu2382
                                obtain rfl := h2386
                                refine Cov.dq (.idxR s2376 rfl rfl hu2382 sl22 ty3.sz) rfl ?_
                                refine Cov.dgq_on rfl ?_
                                refine Cov.dq (.load_rp p2385 List.mem_cons_self rfl ty3 rfl) rfl ?_
                                refine Cov.dgq_on rfl ?_
                                refine Cov.dq (.move rfl) rfl ?_
                                refine Cov.dgq_on rfl ?_
                                refine Cov.dq (.move rfl) rfl ?_
                                refine Cov.dgq_on rfl ?_
                                obtain ⟨u2387, hu2387, r2388⟩ := bind_some r2383; clear r2383
                                obtain ⟨c2389, p2390, h2391⟩ := SlR.get (SlR.mono (HpLe.trans e1712 e1966) s1705) hu2387
                                obtain rfl := h2391
                                refine Cov.dq (.idxR (SlR.mono (HpLe.trans e1712 e1966) s1705) rfl rfl hu2387 sl22 ty3.sz) rfl ?_
                                refine Cov.dgq_on rfl ?_
                                refine Cov.dq (.load_rp p2390 List.mem_cons_self rfl ty3 rfl) rfl ?_
                                refine Cov.dgq_on rfl ?_
                                refine Cov.dq (.neq rfl rfl) rfl ?_
                                refine Cov.dgq_on rfl ?_
                                refine Cov.dq (.pick_f rfl rfl) rfl ?_
                                refine Cov.prune _ ?_ (Cov.same rfl rfl rfl (hb2361 () trivial))
                                exact ⟨sval r2388, rfl, rfl, rfl, rfl, rfl, rfl, rfl, rfl, rfl, rfl, rfl, rfl, rfl, rfl, rfl, trivial⟩
                          · intro hb2331
                            refine Cov.split 178 rfl (fun c2330 => ?_) (fun c2330 => ?_)
                            · have r2392 := ifT h2333 c2330
                              refine Cov.dgq_off rfl rfl rfl ?_
                              refine Cov.dgq_off rfl rfl rfl ?_
                              refine Cov.dgq_off rfl rfl rfl ?_
                              refine Cov.dgq_off rfl rfl rfl ?_
                              refine Cov.dgq_off rfl rfl rfl ?_
                              refine Cov.dgq_off rfl rfl rfl ?_
                              refine Cov.dgq_off rfl rfl rfl ?_
                              refine Cov.dgq_off rfl rfl rfl ?_
                              refine Cov.dgq_off rfl rfl rfl ?_
                              refine Cov.dgq_off rfl rfl rfl ?_
                              refine Cov.dgq_on rfl ?_
                              refine Cov.dq (.pick_t rfl rfl) rfl ?_
                              refine Cov.prune _ ?_ (Cov.same rfl rfl rfl (hb2331 () trivial))
                              exact ⟨sval r2392, rfl, rfl, rfl, rfl, rfl, rfl, rfl, rfl, rfl, rfl, rfl, rfl, rfl, rfl, rfl, rfl, trivial⟩
                            · have r2393 := ifF h2333 c2330
                              refine Cov.dgq_on rfl ?_
                              refine Cov.dq (.move rfl) rfl ?_
                              refine Cov.dgq_on rfl ?_
                              refine Cov.dq (.move rfl) rfl ?_
                              refine Cov.dgq_on rfl ?_
                              obtain ⟨u2394, hu2394, r2395⟩ := bind_some r2393; clear r2393
                              obtain ⟨c2396, p2397, h2398⟩ := SlR.get s1968 hu2394
                              obtain rfl := h2398
                              refine Cov.dq (.idxR s1968 rfl rfl hu2394 sl22 ty3.sz) rfl ?_
                              refine Cov.dgq_on rfl ?_
                              refine Cov.dq (.load_rp p2397 List.mem_cons_self rfl ty3 rfl) rfl ?_
                              refine Cov.dgq_on rfl ?_
                              refine Cov.dq (.move rfl) rfl ?_
                              refine Cov.dgq_on rfl ?_
                              refine Cov.dq (.move rfl) rfl ?_
                              refine Cov.dgq_on rfl ?_
                              obtain ⟨u2399, hu2399, r2400⟩ := bind_some r2395; clear r2395
                              obtain ⟨c2401, p2402, h2403⟩ := SlR.get (SlR.mono (HpLe.trans (HpLe.trans (HpLe.trans e1631 e1703) e1712) e1966) s48) hu2399
                              obtain ⟨a2404, k2405, rfl, s2406⟩ := h2403
                              refine Cov.dq (.idxR (SlR.mono (HpLe.trans (HpLe.trans (HpLe.trans e1631 e1703) e1712) e1966) s48) rfl rfl hu2399 sl54 ty22.sz) rfl ?_
                              refine Cov.dgq_on rfl ?_
                              refine Cov.dq (.load_rp p2402 List.mem_cons_self rfl ty22 rfl) rfl ?_
                              refine Cov.dgq_on rfl ?_
                              refine Cov.dq (.len_sl rfl rfl sl22) rfl ?_
                              refine Cov.dgq_on rfl ?_
                              refine Cov.dq (.geq rfl rfl) rfl ?_
                              refine Cov.dgq_on rfl ?_
                              refine Cov.dq (.pick_f rfl rfl) rfl ?_
                              refine Cov.prune _ ?_ (Cov.same rfl rfl rfl (hb2331 () trivial))
                              exact ⟨sval r2400, rfl, rfl, rfl, rfl, rfl, rfl, rfl, rfl, rfl, rfl, rfl, rfl, rfl, rfl, rfl, rfl, trivial⟩
                        · have r2407 := ifF h2304 c2301
                          refine Cov.dgq_off rfl rfl rfl ?_
                          refine Cov.dgq_off rfl rfl rfl ?_
                          refine Cov.dgq_off rfl rfl rfl ?_
                          refine Cov.dgq_off rfl rfl rfl ?_
                          refine Cov.dgq_off rfl rfl rfl ?_
                          refine Cov.dgq_off rfl rfl rfl ?_
                          refine Cov.dgqu_off rfl rfl ?_
                          refine Cov.dgqu_off rfl rfl ?_
                          refine Cov.dgqu_off rfl rfl ?_
                          refine Cov.dgqu_off rfl rfl ?_
                          refine Cov.dgqu_off rfl rfl ?_
                          refine Cov.dgqu_off rfl rfl ?_
                          refine Cov.dgqu_off rfl rfl ?_
                          refine Cov.dgqu_off rfl rfl ?_
                          refine Cov.dgqu_off rfl rfl ?_
                          refine Cov.dgqu_off rfl rfl ?_
                          refine Cov.dgq_off rfl rfl rfl ?_
                          refine Cov.dgq_off rfl rfl rfl ?_
                          refine Cov.dgqu_off rfl rfl ?_
                          refine Cov.dgqu_off rfl rfl ?_
                          refine Cov.dgqu_off rfl rfl ?_
                          refine Cov.dgqu_off rfl rfl ?_
                          refine Cov.dgqu_off rfl rfl ?_
                          refine Cov.dgqu_off rfl rfl ?_
                          refine Cov.dgqu_off rfl rfl ?_
                          refine Cov.dgqu_off rfl rfl ?_
                          refine Cov.dgqu_off rfl rfl ?_
                          refine Cov.dgqu_off rfl rfl ?_
                          refine Cov.dgqu_off rfl rfl ?_
                          refine Cov.dgqu_off rfl rfl ?_
                          refine Cov.dgqu_off rfl rfl ?_
                          refine Cov.dgqu_off rfl rfl ?_
                          refine Cov.dgqu_off rfl rfl ?_
                          refine Cov.dgq_off rfl rfl rfl ?_
                          refine Cov.dq (.pick_f rfl rfl) rfl ?_
                          refine Cov.prune _ ?_ (Cov.same rfl rfl rfl (hb2302 () trivial))
                          exact ⟨sval r2407, rfl, rfl, rfl, rfl, rfl, rfl, rfl, rfl, trivial⟩
                · intro hb1736
                  refine Cov.split 155 rfl (fun c1735 => ?_) (fun c1735 => ?_)
                  · refine Cov.g_off rfl rfl rfl ?_
                    refine Cov.g_off rfl rfl rfl ?_
                    refine Cov.g_off rfl rfl rfl ?_
                    refine Cov.g_off rfl rfl rfl ?_
                    refine Cov.g_off rfl rfl rfl ?_
                    refine Cov.q .ro (.pick_t rfl rfl) rfl ?_
                    refine Cov.prune _ ?_ (Cov.same rfl rfl rfl (hb1736 () trivial))
                    exact ⟨dor_t c1735, rfl, rfl, rfl, rfl, rfl, rfl, trivial⟩
                  · refine Cov.g_on rfl ?_
                    refine Cov.q .ro (.move rfl) rfl ?_
                    refine Cov.g_on rfl ?_
                    refine Cov.q .ro (.len_sl rfl rfl sl22) rfl ?_
                    refine Cov.g_on rfl ?_
                    refine Cov.q .ro (.move rfl) rfl ?_
                    refine Cov.g_on rfl ?_
                    refine Cov.q .ro (.len_sl rfl rfl sl22) rfl ?_
                    refine Cov.g_on rfl ?_
                    refine Cov.q .ro (.neq rfl rfl) rfl ?_
                    refine Cov.q .ro (.pick_f rfl rfl) rfl ?_
                    refine Cov.prune _ ?_ (Cov.same rfl rfl rfl (hb1736 () trivial))
                    exact ⟨dor_f c1735, rfl, rfl, rfl, rfl, rfl, rfl, trivial⟩
            · intro hb2408
              refine Cov.block ?_
              refine Cov.loop2 (α := Nat × List (List Int) × Int) (fun y => [(7, .int .i64 y.2.2), (118, .int .i64 (y.1 : Int))]) [(8, _), (3, _), (4, _), (5, _), (116, _), (117, _)] (fun y => []) (fun y => []) [_, _] (fun y => []) [] (fun y => List.drop y.1 u38.1 = y.2.1 ∧ law19_CuckooSpots_L3 (law19_CuckooSpots_J2 v1634 u38.1 u23.1.2 u23.2.1) v1635 v1636 y.2.1 y.2.2 = some r) (fun y => y.2.1.length) (0, u38.1, 0) ⟨rfl, r1638⟩ ⟨rfl, rfl, rfl, rfl, rfl, rfl, rfl, rfl, trivial⟩ rfl rfl rfl (fun y hI hb2431 => ?_)
              obtain ⟨i2426, w2427, v2429⟩ := y
              obtain ⟨g2428, r2430⟩ := hI
              try dsimp only at g2428 r2430
              refine Cov.prune [(7, .int .i64 v2429), (118, .int .i64 (i2426 : Int)), (8, _), (3, _), (4, _), (5, _), (116, _), (117, _)] ⟨rfl, rfl, rfl, rfl, rfl, rfl, rfl, rfl, trivial⟩ ?_
              refine Cov.same (bl' := [_, _]) (sl' := []) (Fs' := G1630 :: Fs) rfl rfl rfl ?_
              cases w2427 with
              | nil =>
                rw [law19_CuckooSpots_L3] at r2430; try dsimp only at r2430
                refine Cov.seq ?_
                refine Cov.region rfl ?_
                refine Cov.q .ro (.lss rfl rfl) rfl ?_
                refine Cov.region_end ?_
                refine Cov.seq ?_
                refine Cov.cond_dec rfl (fun c => absurd c (drop_nil g2428)) (fun _ => ?_)
                refine Cov.exit rfl ?_
                refine Cov.prune _ ?_ (Cov.same rfl rfl rfl (hb2408 (v2429, v1635, v1636) r2430))
                exact ⟨rfl, rfl, rfl, rfl, rfl, trivial⟩
              | cons x2440 xs2441 =>
                have r2439 : law19_CuckooSpots_B3 (law19_CuckooSpots_J2 v1634 u38.1 u23.1.2 u23.2.1) v1635 v1636 (law19_CuckooSpots_L3 (law19_CuckooSpots_J2 v1634 u38.1 u23.1.2 u23.2.1) v1635 v1636 xs2441) x2440 v2429 = some r := r2430; clear r2430; unfold law19_CuckooSpots_B3 at r2439; try dsimp only at r2439
                refine Cov.seq ?_
                refine Cov.region rfl ?_
                refine Cov.q .ro (.lss rfl rfl) rfl ?_
                refine Cov.region_end ?_
                refine Cov.seq ?_
                refine Cov.cond_dec rfl (fun _ => ?_) (fun c => absurd (drop_lt g2428) c)
                refine Cov.skip ?_
                refine Cov.seq ?_
                refine Cov.block ?_
                refine Cov.seq ?_
                refine Cov.region rfl ?_
                obtain ⟨c2442, p2443, h2444⟩ := SlR.get (SlR.mono e1631 s48) (drop_idx g2428)
                obtain ⟨a2445, k2446, rfl, s2447⟩ := h2444
                refine Cov.q .ro (.idxR (SlR.mono e1631 s48) rfl rfl (drop_idx g2428) sl54 ty22.sz) rfl ?_
                refine Cov.q .ro (.load_rp p2443 List.mem_cons_self rfl ty22 rfl) rfl ?_
                refine Cov.q .ro (.assign rfl) rfl ?_
                refine Cov.region_end ?_
                refine Cov.region rfl ?_
                refine Cov.q .ro (.move rfl) rfl ?_
                refine Cov.q .ro (.move rfl) rfl ?_
                refine Cov.q .ro (.len_sl rfl rfl sl22) rfl ?_
                refine Cov.q .ro (.addw rfl rfl) rfl ?_
                refine Cov.q .ro (.assign rfl) rfl ?_
                refine Cov.region_end ?_
                refine Cov.inBlock ?_
                refine Cov.region rfl ?_
                refine Cov.q .ro (.addw rfl rfl) rfl ?_
                refine Cov.q .ro (.move rfl) rfl ?_
                refine Cov.region_end ?_
                refine Cov.prune _ ?_ (Cov.same rfl rfl rfl (hb2431 ((i2426 + 1), xs2441, (w64 (v2429 + (x2440.length : Int)))) ⟨(drop_succ g2428), r2439⟩ (Nat.lt_succ_self _)))
                exact ⟨rfl, (congrArg (fun z => some (Value.int .i64 z)) (idx_wrap (SlR.len (SlR.mono e1631 s48)) g2428)), rfl, rfl, rfl, rfl, rfl, rfl, trivial⟩
          · intro hb2448
            refine Cov.block ?_
            refine Cov.pull 1 rfl [_, _] rfl ?_
            refine Cov.pull 1 rfl [_, _] rfl ?_
            refine Cov.loop2 (α := Nat × Hp × Int × Int × Int × Int) (fun y => [(8, .int .i64 y.2.2.1), (9, .int .i64 y.2.2.2.1)]) [(3, _), (4, _), (5, _), (7, _)] (fun y => [y.2.1]) (fun y => [(b37, .cells #[.int .i64 y.2.2.2.2.1, .slice a31 u23.1.2.length k32] 25 (0, 0)), (b19, .cells #[.slice a34 u23.2.1.length k35, .int .i64 y.2.2.2.2.2] 64 (0, 0))]) [] (fun y => []) [] (fun y => HpLe G42 y.2.1 ∧ Bd w0 S0 Fs y.2.1 ∧ law19_CuckooSpots_L10 (law19_CuckooSpots_J4 u38.1 u23.1.2 u23.2.1) u38.1 u23.1.2 y.1 y.2.2.1 y.2.2.2.1 y.2.2.2.2.1 y.2.2.2.2.2 = some r) (fun y => y.1) (big, G42, 0, 0, u23.1.1, u23.2.2) ⟨(HpLe.refl _), B44, r55⟩ ⟨rfl, rfl, rfl, rfl, rfl, rfl, trivial⟩ rfl rfl rfl (fun y hI hb3241 => ?_)
            obtain ⟨n3230, G3232, v3236, v3237, v3238, v3239⟩ := y
            obtain ⟨e3233, B3234, r3240⟩ := hI
            try dsimp only at e3233 B3234 r3240
            refine Cov.prune [(8, .int .i64 v3236), (9, .int .i64 v3237), (3, _), (4, _), (5, _), (7, _)] ⟨rfl, rfl, rfl, rfl, rfl, rfl, trivial⟩ ?_
            refine Cov.same (bl' := [(b37, .cells #[.int .i64 v3238, .slice a31 u23.1.2.length k32] 25 (0, 0)), (b19, .cells #[.slice a34 u23.2.1.length k35, .int .i64 v3239] 64 (0, 0))]) (sl' := []) (Fs' := G3232 :: Fs) rfl rfl rfl ?_
            obtain ⟨m3246, rfl⟩ : ∃ m, n3230 = m + 1 := by cases n3230 with | zero => exact absurd (show (none : Option _) = some _ from r3240) (by simp) | succ m => exact ⟨m, rfl⟩
            have r3245 : law19_CuckooSpots_B10 (law19_CuckooSpots_J4 u38.1 u23.1.2 u23.2.1) u38.1 u23.1.2 (law19_CuckooSpots_L10 (law19_CuckooSpots_J4 u38.1 u23.1.2 u23.2.1) u38.1 u23.1.2 m3246) v3236 v3237 v3238 v3239 = some r := r3240; clear r3240; unfold law19_CuckooSpots_B10 at r3245; try dsimp only at r3245
            refine Cov.seq ?_
            refine Cov.seq ?_
            refine Cov.region rfl ?_
            refine Cov.q .ro (.move rfl) rfl ?_
            refine Cov.q .ro (.lss rfl rfl) rfl ?_
            refine Cov.region_end ?_
            refine Cov.cond_dec rfl (fun c3247 => ?_) (fun c3247 => ?_)
            · have r3248 := ifT r3245 c3247; clear r3245
              refine Cov.skip ?_
              refine Cov.seq ?_
              refine Cov.block ?_
              refine Cov.seq ?_
              refine Cov.region rfl ?_
              refine Cov.q .ro (.load_own_a 0 [_, _] rfl rfl ty25 rfl) rfl ?_
              refine Cov.q .ro (.move rfl) rfl ?_
              obtain ⟨u3249, hu3249, r3250⟩ := bind_some r3248; clear r3248
              refine Cov.callS (b1 := []) (b2 := [_, _]) (s1 := []) [_, _] [] .ro rfl rfl Try.call21 rfl rfl (cuckoo_Homes_c (G := G3232) List.mem_cons_self (SlR.mono (HpLe.trans e43 e3233) s33) hu3249) rfl (fun v3252 bo so h3251 => ?_)
              obtain ⟨a3254, k3255, cs3256, rfl, rfl, rfl, o3257⟩ := h3251
              refine Cov.same (bl' := [_, _]) (sl' := [_]) rfl rfl rfl ?_
              refine Cov.q .ro (.move rfl) rfl ?_
              refine Cov.q .ro (.extract rfl rfl) rfl ?_
              refine Cov.q .ro (.extract rfl rfl) rfl ?_
              refine Cov.q .ro (.assign rfl) rfl ?_
              refine Cov.q .ro (.assign rfl) rfl ?_
              refine Cov.region_end ?_
              refine Cov.seq ?_
              refine Cov.seq ?_
              refine Cov.region rfl ?_
              refine Cov.q .ro (.move rfl) rfl ?_
              refine Cov.q .ro (.neq rfl rfl) rfl ?_
              refine Cov.q .ro (.move rfl) rfl ?_
              refine Cov.cutR 7 (β := Unit) (fun y => [(71, .bool (decide ((u3249.2 ≠ 0) ∨ ((u3249.1.length : Int) ≠ (u23.1.2.length : Int)))))]) [(8, _), (9, _), (3, _), (4, _), (5, _), (7, _), (10, _)] (fun y => G3232 :: Fs) (fun y => []) [_, _] (fun y => []) [_] (fun y => True) ⟨rfl, rfl, rfl, rfl, rfl, rfl, rfl, trivial⟩ [0, 1] rfl [0] rfl ?_ ?_
              · rintro _ _
                refine Cov.prune [(71, .bool (decide ((u3249.2 ≠ 0) ∨ ((u3249.1.length : Int) ≠ (u23.1.2.length : Int))))), (8, _), (9, _), (3, _), (4, _), (5, _), (7, _), (10, _)] ⟨rfl, rfl, rfl, rfl, rfl, rfl, rfl, rfl, trivial⟩ ?_
                refine Cov.same (bl' := [_, _]) (sl' := [_]) (Fs' := G3232 :: Fs) rfl rfl rfl ?_
                refine Cov.region_end ?_
                refine Cov.cond_dec rfl (fun c3262 => ?_) (fun c3262 => ?_)
                · have r3263 := ifT r3250 c3262; clear r3250
                  refine Cov.seq ?_
                  refine Cov.region rfl ?_
                  refine Cov.q .ro (.assign rfl) rfl ?_
                  refine Cov.region_end ?_
                  cases r3263
                  refine Cov.drop 2 0 [] _ rfl rfl ?_
                  refine Cov.drop 0 1 _ [] rfl rfl ?_
                  refine Cov.retS (c := ⟨8, none⟩) (.inr ⟨_, rfl⟩) [.tmp 2] [_] rfl Try.func8 Try.results8 ⟨RV.tmp rfl, trivial⟩ (fun _ h => List.mem_cons_of_mem _ h) ⟨rfl, rfl, rfl⟩
                · have r3264 := ifF r3250 c3262; clear r3250
                  refine Cov.skip ?_
                  refine Cov.seq ?_
                  refine Cov.region rfl ?_
                  refine Cov.q .ro (.move rfl) rfl ?_
                  refine Cov.q .ro (.len_sl rfl rfl sl22) rfl ?_
                  refine Cov.q .ro (.move rfl) rfl ?_
                  refine Cov.region_end ?_
                  refine Cov.block ?_
                  refine Cov.freezeR 0 rfl rfl o3257 [] rfl B3234 (fun G3514 e3515 B3516 s3517 => ?_)
                  refine Cov.pull 1 rfl [_, _] rfl ?_
                  refine Cov.pull 1 rfl [_, _] rfl ?_
                  refine Cov.loop2 (α := Nat × List Int × Int × Int × Int) (fun y => [(8, .int .i64 y.2.2.1), (74, .int .i64 (y.1 : Int))]) [(9, _), (3, _), (4, _), (5, _), (7, _), (10, _), (72, _), (73, _)] (fun y => []) (fun y => [(b37, .cells #[.int .i64 y.2.2.2.1, .slice a31 u23.1.2.length k32] 25 (0, 0)), (b19, .cells #[.slice a34 u23.2.1.length k35, .int .i64 y.2.2.2.2] 64 (0, 0))]) [] (fun y => []) [] (fun y => List.drop y.1 u3249.1 = y.2.1 ∧ law19_CuckooSpots_L9 (law19_CuckooSpots_L10 (law19_CuckooSpots_J4 u38.1 u23.1.2 u23.2.1) u38.1 u23.1.2 m3246) v3237 u38.1 u3249.1 y.2.1 y.1 y.2.2.1 y.2.2.2.1 y.2.2.2.2 = some r) (fun y => y.2.1.length) (0, u3249.1, v3236, v3238, v3239) ⟨rfl, r3264⟩ ⟨rfl, rfl, rfl, rfl, rfl, rfl, rfl, rfl, rfl, rfl, trivial⟩ rfl rfl rfl (fun y hI hb3771 => ?_)
                  obtain ⟨i3764, w3765, v3767, v3768, v3769⟩ := y
                  obtain ⟨g3766, r3770⟩ := hI
                  try dsimp only at g3766 r3770
                  refine Cov.prune [(8, .int .i64 v3767), (74, .int .i64 (i3764 : Int)), (9, _), (3, _), (4, _), (5, _), (7, _), (10, _), (72, _), (73, _)] ⟨rfl, rfl, rfl, rfl, rfl, rfl, rfl, rfl, rfl, rfl, trivial⟩ ?_
                  refine Cov.same (bl' := [(b37, .cells #[.int .i64 v3768, .slice a31 u23.1.2.length k32] 25 (0, 0)), (b19, .cells #[.slice a34 u23.2.1.length k35, .int .i64 v3769] 64 (0, 0))]) (sl' := []) (Fs' := G3514 :: Fs) rfl rfl rfl ?_
                  cases w3765 with
                  | nil =>
                    rw [law19_CuckooSpots_L9] at r3770; try dsimp only at r3770
                    refine Cov.seq ?_
                    refine Cov.region rfl ?_
                    refine Cov.q .ro (.lss rfl rfl) rfl ?_
                    refine Cov.region_end ?_
                    refine Cov.seq ?_
                    refine Cov.cond_dec rfl (fun c => absurd c (drop_nil g3766)) (fun _ => ?_)
                    refine Cov.exit rfl ?_
                    refine Cov.inBlock ?_
                    refine Cov.region rfl ?_
                    refine Cov.q .ro (.move rfl) rfl ?_
                    refine Cov.q .ro (.addw rfl rfl) rfl ?_
                    refine Cov.q .ro (.assign rfl) rfl ?_
                    refine Cov.region_end ?_
                    refine Cov.prune _ ?_ (Cov.same rfl rfl rfl (hb3241 (m3246, G3514, v3767, (w64 (v3237 + 1)), v3768, v3769) ⟨(HpLe.trans e3233 e3515), B3516, r3770⟩ (Nat.lt_succ_self _)))
                    exact ⟨rfl, rfl, rfl, rfl, rfl, rfl, trivial⟩
                  | cons x3779 xs3780 =>
                    have r3778 : law19_CuckooSpots_B9 (law19_CuckooSpots_L10 (law19_CuckooSpots_J4 u38.1 u23.1.2 u23.2.1) u38.1 u23.1.2 m3246) v3237 u38.1 u3249.1 (law19_CuckooSpots_L9 (law19_CuckooSpots_L10 (law19_CuckooSpots_J4 u38.1 u23.1.2 u23.2.1) u38.1 u23.1.2 m3246) v3237 u38.1 u3249.1 xs3780 (i3764 + 1)) x3779 i3764 v3767 v3768 v3769 = some r := r3770; clear r3770; unfold law19_CuckooSpots_B9 at r3778; try dsimp only at r3778
                    refine Cov.seq ?_
                    refine Cov.region rfl ?_
                    refine Cov.q .ro (.lss rfl rfl) rfl ?_
                    refine Cov.region_end ?_
                    refine Cov.seq ?_
                    refine Cov.cond_dec rfl (fun _ => ?_) (fun c => absurd (drop_lt g3766) c)
                    refine Cov.skip ?_
                    refine Cov.seq ?_
                    refine Cov.block ?_
                    refine Cov.seq ?_
                    refine Cov.region rfl ?_
                    refine Cov.q .ro (.move rfl) rfl ?_
                    obtain ⟨c3781, p3782, h3783⟩ := SlR.get s3517 (drop_idx g3766)
                    obtain rfl := h3783
                    refine Cov.q .ro (.idxR s3517 rfl rfl (drop_idx g3766) sl22 ty3.sz) rfl ?_
                    refine Cov.q .ro (.load_rp p3782 List.mem_cons_self rfl ty3 rfl) rfl ?_
                    refine Cov.q .ro (.assign rfl) rfl ?_
                    refine Cov.q .ro (.assign rfl) rfl ?_
                    refine Cov.region_end ?_
                    refine Cov.seq ?_
                    refine Cov.region rfl ?_
                    refine Cov.q .ro (.assign rfl) rfl ?_
                    refine Cov.q .ro (.assign rfl) rfl ?_
                    refine Cov.region_end ?_
                    refine Cov.seq ?_
                    refine Cov.seq ?_
                    refine Cov.region rfl ?_
                    refine Cov.q .ro (.move rfl) rfl ?_
                    refine Cov.q .ro (.move rfl) rfl ?_
                    obtain ⟨u3784, hu3784, r3785⟩ := bind_some r3778; clear r3778
                    obtain ⟨a3786, k3787, h3788, s3789⟩ := SlR.sub s3517 hu3784
                    refine Cov.q .ro (.sliceR s3517 rfl hu3784 sl22 ty3.sz (fun _ => .no) (fun h => .yes' rfl h) h3788) rfl ?_
                    refine Cov.q .ro (.len_sl rfl rfl sl22) rfl ?_
                    refine Cov.q .ro (.move rfl) rfl ?_
                    refine Cov.region_end ?_
                    refine Cov.cutB (β := Bool × Int × Int) (fun y => [(14, .bool y.1)]) [(8, _), (74, _), (9, _), (3, _), (4, _), (5, _), (7, _), (10, _), (72, _), (73, _), (13, _), (15, _)] (fun y => G3514 :: Fs) (fun y => [(b37, .cells #[.int .i64 y.2.1, .slice a31 u23.1.2.length k32] 25 (0, 0)), (b19, .cells #[.slice a34 u23.2.1.length k35, .int .i64 y.2.2] 64 (0, 0))]) [] (fun y => []) [] (fun y => (law19_CuckooSpots_J7 (law19_CuckooSpots_L9 (law19_CuckooSpots_L10 (law19_CuckooSpots_J4 u38.1 u23.1.2 u23.2.1) u38.1 u23.1.2 m3246) v3237 u38.1 u3249.1 xs3780 (i3764 + 1)) v3767 v3237 u38.1 x3779) y.1 y.2.1 y.2.2 = some r) ⟨rfl, rfl, rfl, rfl, rfl, rfl, rfl, rfl, rfl, rfl, rfl, rfl, trivial⟩ [] rfl [] rfl ?_ ?_
                    · intro y hI
                      obtain ⟨v3837, v3838, v3839⟩ := y
                      have r3841 := hI; clear hI
                      try dsimp only at r3841
                      refine Cov.prune [(14, .bool v3837), (8, _), (74, _), (9, _), (3, _), (4, _), (5, _), (7, _), (10, _), (72, _), (73, _), (13, _), (15, _)] ⟨rfl, rfl, rfl, rfl, rfl, rfl, rfl, rfl, rfl, rfl, rfl, rfl, rfl, trivial⟩ ?_
                      refine Cov.same (bl' := [(b37, .cells #[.int .i64 v3838, .slice a31 u23.1.2.length k32] 25 (0, 0)), (b19, .cells #[.slice a34 u23.2.1.length k35, .int .i64 v3839] 64 (0, 0))]) (sl' := []) (Fs' := G3514 :: Fs) rfl rfl rfl ?_
                      unfold law19_CuckooSpots_J7 at r3841
                      try dsimp only at r3841
                      refine Cov.seq ?_
                      refine Cov.seq ?_
                      refine Cov.region rfl ?_
                      refine Cov.q .ro (.move rfl) rfl ?_
                      refine Cov.q .ro (.move rfl) rfl ?_
                      obtain ⟨u3851, hu3851, r3852⟩ := bind_some r3841; clear r3841
                      obtain ⟨c3853, p3854, h3855⟩ := SlR.get (SlR.mono (HpLe.trans e3233 e3515) s48) hu3851
                      obtain ⟨a3856, k3857, rfl, s3858⟩ := h3855
                      refine Cov.q .ro (.idxR (SlR.mono (HpLe.trans e3233 e3515) s48) rfl rfl hu3851 sl54 ty22.sz) rfl ?_
                      refine Cov.q .ro (.load_rp p3854 List.mem_cons_self rfl ty22 rfl) rfl ?_
                      refine Cov.q .ro (.len_sl rfl rfl sl22) rfl ?_
                      refine Cov.q .ro (.move rfl) rfl ?_
                      refine Cov.region_end ?_
                      refine Cov.cutB (β := Bool × Int × Int) (fun y => [(15, .bool y.1)]) [(14, _), (8, _), (74, _), (9, _), (3, _), (4, _), (5, _), (7, _), (10, _), (72, _), (73, _)] (fun y => G3514 :: Fs) (fun y => [(b37, .cells #[.int .i64 y.2.1, .slice a31 u23.1.2.length k32] 25 (0, 0)), (b19, .cells #[.slice a34 u23.2.1.length k35, .int .i64 y.2.2] 64 (0, 0))]) [] (fun y => []) [] (fun y => (law19_CuckooSpots_J5 (law19_CuckooSpots_L9 (law19_CuckooSpots_L10 (law19_CuckooSpots_J4 u38.1 u23.1.2 u23.2.1) u38.1 u23.1.2 m3246) v3237 u38.1 u3249.1 xs3780 (i3764 + 1)) v3837 v3767) y.1 y.2.1 y.2.2 = some r) ⟨rfl, rfl, rfl, rfl, rfl, rfl, rfl, rfl, rfl, rfl, rfl, trivial⟩ [] rfl [] rfl ?_ ?_
                      · intro y hI
                        obtain ⟨v3906, v3907, v3908⟩ := y
                        have r3910 := hI; clear hI
                        try dsimp only at r3910
                        refine Cov.prune [(15, .bool v3906), (14, _), (8, _), (74, _), (9, _), (3, _), (4, _), (5, _), (7, _), (10, _), (72, _), (73, _)] ⟨rfl, rfl, rfl, rfl, rfl, rfl, rfl, rfl, rfl, rfl, rfl, rfl, trivial⟩ ?_
                        refine Cov.same (bl' := [(b37, .cells #[.int .i64 v3907, .slice a31 u23.1.2.length k32] 25 (0, 0)), (b19, .cells #[.slice a34 u23.2.1.length k35, .int .i64 v3908] 64 (0, 0))]) (sl' := []) (Fs' := G3514 :: Fs) rfl rfl rfl ?_
                        unfold law19_CuckooSpots_J5 at r3910
                        try dsimp only at r3910
                        refine Cov.seq ?_
                        refine Cov.seq ?_
                        refine Cov.region rfl ?_
                        refine Cov.q .ro (.move rfl) rfl ?_
                        refine Cov.q .ro (.not rfl) rfl ?_
                        refine Cov.region_end ?_
                        refine Cov.cond rfl (fun c3920 => ?_) (fun c3920 => ?_)
                        · have r3921 := ifT r3910 c3920; clear r3910
                          refine Cov.seq ?_
                          refine Cov.region rfl ?_
                          refine Cov.q .ro (.assign rfl) rfl ?_
                          refine Cov.region_end ?_
                          refine Cov.prune [(2, _)] ⟨rfl, trivial⟩ ?_
                          cases r3921
                          refine Cov.drop 2 0 [] _ rfl rfl ?_
                          refine Cov.retS (c := ⟨8, none⟩) (.inr ⟨_, rfl⟩) [.tmp 2] [_] rfl Try.func8 Try.results8 ⟨RV.tmp rfl, trivial⟩ (fun _ h => List.mem_cons_of_mem _ h) ⟨rfl, rfl, rfl⟩
                        · have r3922 := ifBF r3910 c3920; clear r3910
                          refine Cov.skip ?_
                          refine Cov.seq ?_
                          refine Cov.region rfl ?_
                          refine Cov.q .ro (.move rfl) rfl ?_
                          refine Cov.region_end ?_
                          refine Cov.cond rfl (fun c3923 => ?_) (fun c3923 => ?_)
                          · have r3924 := ifT r3922 c3923; clear r3922
                            refine Cov.region rfl ?_
                            refine Cov.q .ro (.move rfl) rfl ?_
                            refine Cov.q .ro (.addw rfl rfl) rfl ?_
                            refine Cov.q .ro (.assign rfl) rfl ?_
                            refine Cov.region_end ?_
                            refine Cov.inBlock ?_
                            refine Cov.region rfl ?_
                            refine Cov.q .ro (.addw rfl rfl) rfl ?_
                            refine Cov.q .ro (.move rfl) rfl ?_
                            refine Cov.region_end ?_
                            refine Cov.prune _ ?_ (Cov.same rfl rfl rfl (hb3771 ((i3764 + 1), xs3780, (w64 (v3767 + 1)), v3907, v3908) ⟨(drop_succ g3766), r3924⟩ (Nat.lt_succ_self _)))
                            exact ⟨rfl, (congrArg (fun z => some (Value.int .i64 z)) (idx_wrap (OL.len' o3257) g3766)), rfl, rfl, rfl, rfl, rfl, rfl, rfl, rfl, trivial⟩
                          · have r3925 := ifBF r3922 c3923; clear r3922
                            refine Cov.skip ?_
                            refine Cov.inBlock ?_
                            refine Cov.region rfl ?_
                            refine Cov.q .ro (.addw rfl rfl) rfl ?_
                            refine Cov.q .ro (.move rfl) rfl ?_
                            refine Cov.region_end ?_
                            refine Cov.prune _ ?_ (Cov.same rfl rfl rfl (hb3771 ((i3764 + 1), xs3780, v3767, v3907, v3908) ⟨(drop_succ g3766), r3925⟩ (Nat.lt_succ_self _)))
                            exact ⟨rfl, (congrArg (fun z => some (Value.int .i64 z)) (idx_wrap (OL.len' o3257) g3766)), rfl, rfl, rfl, rfl, rfl, rfl, rfl, rfl, trivial⟩
                      · intro hb3926
                        refine Cov.block ?_
                        refine Cov.loop2 (α := Nat × List Int × Bool) (fun y => [(15, .bool y.2.2), (99, .int .i64 (y.1 : Int))]) [(14, _), (8, _), (74, _), (9, _), (3, _), (4, _), (5, _), (7, _), (10, _), (72, _), (73, _), (97, _), (98, _)] (fun y => []) (fun y => []) [_, _] (fun y => []) [] (fun y => List.drop y.1 u3851 = y.2.1 ∧ law19_CuckooSpots_L6 (law19_CuckooSpots_J5 (law19_CuckooSpots_L9 (law19_CuckooSpots_L10 (law19_CuckooSpots_J4 u38.1 u23.1.2 u23.2.1) u38.1 u23.1.2 m3246) v3237 u38.1 u3249.1 xs3780 (i3764 + 1)) v3837 v3767) v3237 v3838 v3839 y.2.1 y.2.2 = some r) (fun y => y.2.1.length) (0, u3851, false) ⟨rfl, r3852⟩ ⟨rfl, rfl, rfl, rfl, rfl, rfl, rfl, rfl, rfl, rfl, rfl, rfl, rfl, rfl, rfl, trivial⟩ rfl rfl rfl (fun y hI hb3950 => ?_)
                        obtain ⟨i3945, w3946, v3948⟩ := y
                        obtain ⟨g3947, r3949⟩ := hI
                        try dsimp only at g3947 r3949
                        refine Cov.prune [(15, .bool v3948), (99, .int .i64 (i3945 : Int)), (14, _), (8, _), (74, _), (9, _), (3, _), (4, _), (5, _), (7, _), (10, _), (72, _), (73, _), (97, _), (98, _)] ⟨rfl, rfl, rfl, rfl, rfl, rfl, rfl, rfl, rfl, rfl, rfl, rfl, rfl, rfl, rfl, trivial⟩ ?_
                        refine Cov.same (bl' := [_, _]) (sl' := []) (Fs' := G3514 :: Fs) rfl rfl rfl ?_
                        cases w3946 with
                        | nil =>
                          rw [law19_CuckooSpots_L6] at r3949; try dsimp only at r3949
                          refine Cov.seq ?_
                          refine Cov.region rfl ?_
                          refine Cov.q .ro (.lss rfl rfl) rfl ?_
                          refine Cov.region_end ?_
                          refine Cov.seq ?_
                          refine Cov.cond_dec rfl (fun c => absurd c (drop_nil g3947)) (fun _ => ?_)
                          refine Cov.exit rfl ?_
                          refine Cov.prune _ ?_ (Cov.same rfl rfl rfl (hb3926 (v3948, v3838, v3839) r3949))
                          exact ⟨rfl, rfl, rfl, rfl, rfl, rfl, rfl, rfl, rfl, rfl, rfl, rfl, trivial⟩
                        | cons x3965 xs3966 =>
                          have r3964 : law19_CuckooSpots_B6 (law19_CuckooSpots_J5 (law19_CuckooSpots_L9 (law19_CuckooSpots_L10 (law19_CuckooSpots_J4 u38.1 u23.1.2 u23.2.1) u38.1 u23.1.2 m3246) v3237 u38.1 u3249.1 xs3780 (i3764 + 1)) v3837 v3767) v3237 v3838 v3839 (law19_CuckooSpots_L6 (law19_CuckooSpots_J5 (law19_CuckooSpots_L9 (law19_CuckooSpots_L10 (law19_CuckooSpots_J4 u38.1 u23.1.2 u23.2.1) u38.1 u23.1.2 m3246) v3237 u38.1 u3249.1 xs3780 (i3764 + 1)) v3837 v3767) v3237 v3838 v3839 xs3966) x3965 v3948 = some r := r3949; clear r3949; unfold law19_CuckooSpots_B6 at r3964; try dsimp only at r3964
                          refine Cov.seq ?_
                          refine Cov.region rfl ?_
                          refine Cov.q .ro (.lss rfl rfl) rfl ?_
                          refine Cov.region_end ?_
                          refine Cov.seq ?_
                          refine Cov.cond_dec rfl (fun _ => ?_) (fun c => absurd (drop_lt g3947) c)
                          refine Cov.skip ?_
                          refine Cov.seq ?_
                          refine Cov.block ?_
                          refine Cov.seq ?_
                          refine Cov.region rfl ?_
                          obtain ⟨c3967, p3968, h3969⟩ := SlR.get s3858 (drop_idx g3947)
                          obtain rfl := h3969
                          refine Cov.q .ro (.idxR s3858 rfl rfl (drop_idx g3947) sl22 ty3.sz) rfl ?_
                          refine Cov.q .ro (.load_rp p3968 List.mem_cons_self rfl ty3 rfl) rfl ?_
                          refine Cov.q .ro (.assign rfl) rfl ?_
                          refine Cov.region_end ?_
                          refine Cov.region rfl ?_
                          refine Cov.q .ro (.move rfl) rfl ?_
                          refine Cov.q .ro (.move rfl) rfl ?_
                          refine Cov.cutR 4 (β := Unit) (fun y => [(108, .bool (decide ((v3948 = true) ∨ (x3965 = v3237))))]) [(15, _), (99, _), (14, _), (8, _), (74, _), (9, _), (3, _), (4, _), (5, _), (7, _), (10, _), (72, _), (73, _), (97, _), (98, _)] (fun y => G3514 :: Fs) (fun y => []) [_, _] (fun y => []) [] (fun y => True) ⟨rfl, rfl, rfl, rfl, rfl, rfl, rfl, rfl, rfl, rfl, rfl, rfl, rfl, rfl, rfl, trivial⟩ [0, 1] rfl [] rfl ?_ ?_
                          · rintro _ _
                            refine Cov.prune [(108, .bool (decide ((v3948 = true) ∨ (x3965 = v3237)))), (15, _), (99, _), (14, _), (8, _), (74, _), (9, _), (3, _), (4, _), (5, _), (7, _), (10, _), (72, _), (73, _), (97, _), (98, _)] ⟨rfl, rfl, rfl, rfl, rfl, rfl, rfl, rfl, rfl, rfl, rfl, rfl, rfl, rfl, rfl, rfl, trivial⟩ ?_
                            refine Cov.same (bl' := [_, _]) (sl' := []) (Fs' := G3514 :: Fs) rfl rfl rfl ?_
                            refine Cov.q .ro (.assign rfl) rfl ?_
                            refine Cov.region_end ?_
                            refine Cov.inBlock ?_
                            refine Cov.region rfl ?_
                            refine Cov.q .ro (.addw rfl rfl) rfl ?_
                            refine Cov.q .ro (.move rfl) rfl ?_
                            refine Cov.region_end ?_
                            refine Cov.prune _ ?_ (Cov.same rfl rfl rfl (hb3950 ((i3945 + 1), xs3966, (decide ((v3948 = true) ∨ (x3965 = v3237)))) ⟨(drop_succ g3947), r3964⟩ (Nat.lt_succ_self _)))
                            exact ⟨rfl, (congrArg (fun z => some (Value.int .i64 z)) (idx_wrap (SlR.len s3858) g3947)), rfl, rfl, rfl, rfl, rfl, rfl, rfl, rfl, rfl, rfl, rfl, rfl, rfl, trivial⟩
                          · intro hb3971
                            refine Cov.split_b 104 rfl (fun c3970 => ?_) (fun c3970 => ?_)
                            · refine Cov.g_off rfl rfl rfl ?_
                              refine Cov.g_off rfl rfl rfl ?_
                              refine Cov.g_off rfl rfl rfl ?_
                              refine Cov.q .ro (.pick_t rfl rfl) rfl ?_
                              refine Cov.prune _ ?_ (Cov.same rfl rfl rfl (hb3971 () trivial))
                              exact ⟨dor_t c3970, rfl, rfl, rfl, rfl, rfl, rfl, rfl, rfl, rfl, rfl, rfl, rfl, rfl, rfl, rfl, trivial⟩
                            · refine Cov.g_on rfl ?_
                              refine Cov.q .ro (.move rfl) rfl ?_
                              refine Cov.g_on rfl ?_
                              refine Cov.q .ro (.move rfl) rfl ?_
                              refine Cov.g_on rfl ?_
                              refine Cov.q .ro (.eql rfl rfl) rfl ?_
                              refine Cov.q .ro (.pick_f rfl rfl) rfl ?_
                              refine Cov.prune _ ?_ (Cov.same rfl rfl rfl (hb3971 () trivial))
                              exact ⟨dor_f (bne_of c3970), rfl, rfl, rfl, rfl, rfl, rfl, rfl, rfl, rfl, rfl, rfl, rfl, rfl, rfl, rfl, trivial⟩
                    · intro hb3974
                      refine Cov.block ?_
                      refine Cov.loop2 (α := Nat × List Int × Bool) (fun y => [(14, .bool y.2.2), (83, .int .i64 (y.1 : Int))]) [(8, _), (74, _), (9, _), (3, _), (4, _), (5, _), (7, _), (10, _), (72, _), (73, _), (13, _), (15, _), (81, _), (82, _)] (fun y => []) (fun y => []) [_, _] (fun y => []) [] (fun y => List.drop y.1 u3784 = y.2.1 ∧ law19_CuckooSpots_L8 (law19_CuckooSpots_J7 (law19_CuckooSpots_L9 (law19_CuckooSpots_L10 (law19_CuckooSpots_J4 u38.1 u23.1.2 u23.2.1) u38.1 u23.1.2 m3246) v3237 u38.1 u3249.1 xs3780 (i3764 + 1)) v3767 v3237 u38.1 x3779) x3779 v3768 v3769 y.2.1 y.2.2 = some r) (fun y => y.2.1.length) (0, u3784, true) ⟨rfl, r3785⟩ ⟨rfl, rfl, rfl, rfl, rfl, rfl, rfl, rfl, rfl, rfl, rfl, rfl, rfl, rfl, rfl, rfl, trivial⟩ rfl rfl rfl (fun y hI hb3998 => ?_)
                      obtain ⟨i3993, w3994, v3996⟩ := y
                      obtain ⟨g3995, r3997⟩ := hI
                      try dsimp only at g3995 r3997
                      refine Cov.prune [(14, .bool v3996), (83, .int .i64 (i3993 : Int)), (8, _), (74, _), (9, _), (3, _), (4, _), (5, _), (7, _), (10, _), (72, _), (73, _), (13, _), (15, _), (81, _), (82, _)] ⟨rfl, rfl, rfl, rfl, rfl, rfl, rfl, rfl, rfl, rfl, rfl, rfl, rfl, rfl, rfl, rfl, trivial⟩ ?_
                      refine Cov.same (bl' := [_, _]) (sl' := []) (Fs' := G3514 :: Fs) rfl rfl rfl ?_
                      cases w3994 with
                      | nil =>
                        rw [law19_CuckooSpots_L8] at r3997; try dsimp only at r3997
                        refine Cov.seq ?_
                        refine Cov.region rfl ?_
                        refine Cov.q .ro (.lss rfl rfl) rfl ?_
                        refine Cov.region_end ?_
                        refine Cov.seq ?_
                        refine Cov.cond_dec rfl (fun c => absurd c (drop_nil g3995)) (fun _ => ?_)
                        refine Cov.exit rfl ?_
                        refine Cov.prune _ ?_ (Cov.same rfl rfl rfl (hb3974 (v3996, v3768, v3769) r3997))
                        exact ⟨rfl, rfl, rfl, rfl, rfl, rfl, rfl, rfl, rfl, rfl, rfl, rfl, rfl, trivial⟩
                      | cons x4013 xs4014 =>
                        have r4012 : law19_CuckooSpots_B8 (law19_CuckooSpots_J7 (law19_CuckooSpots_L9 (law19_CuckooSpots_L10 (law19_CuckooSpots_J4 u38.1 u23.1.2 u23.2.1) u38.1 u23.1.2 m3246) v3237 u38.1 u3249.1 xs3780 (i3764 + 1)) v3767 v3237 u38.1 x3779) x3779 v3768 v3769 (law19_CuckooSpots_L8 (law19_CuckooSpots_J7 (law19_CuckooSpots_L9 (law19_CuckooSpots_L10 (law19_CuckooSpots_J4 u38.1 u23.1.2 u23.2.1) u38.1 u23.1.2 m3246) v3237 u38.1 u3249.1 xs3780 (i3764 + 1)) v3767 v3237 u38.1 x3779) x3779 v3768 v3769 xs4014) x4013 v3996 = some r := r3997; clear r3997; unfold law19_CuckooSpots_B8 at r4012; try dsimp only at r4012
                        refine Cov.seq ?_
                        refine Cov.region rfl ?_
                        refine Cov.q .ro (.lss rfl rfl) rfl ?_
                        refine Cov.region_end ?_
                        refine Cov.seq ?_
                        refine Cov.cond_dec rfl (fun _ => ?_) (fun c => absurd (drop_lt g3995) c)
                        refine Cov.skip ?_
                        refine Cov.seq ?_
                        refine Cov.block ?_
                        refine Cov.seq ?_
                        refine Cov.region rfl ?_
                        obtain ⟨c4015, p4016, h4017⟩ := SlR.get s3789 (drop_idx g3995)
                        obtain rfl := h4017
                        refine Cov.q .ro (.idxR s3789 rfl rfl (drop_idx g3995) sl22 ty3.sz) rfl ?_
                        refine Cov.q .ro (.load_rp p4016 List.mem_cons_self rfl ty3 rfl) rfl ?_
                        refine Cov.q .ro (.assign rfl) rfl ?_
                        refine Cov.region_end ?_
                        refine Cov.region rfl ?_
                        refine Cov.q .ro (.move rfl) rfl ?_
                        refine Cov.q .ro (.move rfl) rfl ?_
                        refine Cov.cutR 4 (β := Unit) (fun y => [(92, .bool (decide ((v3996 = true) ∧ (x4013 ≠ x3779))))]) [(14, _), (83, _), (8, _), (74, _), (9, _), (3, _), (4, _), (5, _), (7, _), (10, _), (72, _), (73, _), (13, _), (15, _), (81, _), (82, _)] (fun y => G3514 :: Fs) (fun y => []) [_, _] (fun y => []) [] (fun y => True) ⟨rfl, rfl, rfl, rfl, rfl, rfl, rfl, rfl, rfl, rfl, rfl, rfl, rfl, rfl, rfl, rfl, trivial⟩ [0, 1] rfl [] rfl ?_ ?_
                        · rintro _ _
                          refine Cov.prune [(92, .bool (decide ((v3996 = true) ∧ (x4013 ≠ x3779)))), (14, _), (83, _), (8, _), (74, _), (9, _), (3, _), (4, _), (5, _), (7, _), (10, _), (72, _), (73, _), (13, _), (15, _), (81, _), (82, _)] ⟨rfl, rfl, rfl, rfl, rfl, rfl, rfl, rfl, rfl, rfl, rfl, rfl, rfl, rfl, rfl, rfl, rfl, trivial⟩ ?_
                          refine Cov.same (bl' := [_, _]) (sl' := []) (Fs' := G3514 :: Fs) rfl rfl rfl ?_
                          refine Cov.q .ro (.assign rfl) rfl ?_
                          refine Cov.region_end ?_
                          refine Cov.inBlock ?_
                          refine Cov.region rfl ?_
                          refine Cov.q .ro (.addw rfl rfl) rfl ?_
                          refine Cov.q .ro (.move rfl) rfl ?_
                          refine Cov.region_end ?_
                          refine Cov.prune _ ?_ (Cov.same rfl rfl rfl (hb3998 ((i3993 + 1), xs4014, (decide ((v3996 = true) ∧ (x4013 ≠ x3779)))) ⟨(drop_succ g3995), r4012⟩ (Nat.lt_succ_self _)))
                          exact ⟨rfl, (congrArg (fun z => some (Value.int .i64 z)) (idx_wrap (SlR.len s3789) g3995)), rfl, rfl, rfl, rfl, rfl, rfl, rfl, rfl, rfl, rfl, rfl, rfl, rfl, rfl, trivial⟩
                        · intro hb4019
                          refine Cov.split_b 88 rfl (fun c4018 => ?_) (fun c4018 => ?_)
                          · refine Cov.g_on rfl ?_
                            refine Cov.q .ro (.move rfl) rfl ?_
                            refine Cov.g_on rfl ?_
                            refine Cov.q .ro (.move rfl) rfl ?_
                            refine Cov.g_on rfl ?_
                            refine Cov.q .ro (.neq rfl rfl) rfl ?_
                            refine Cov.q .ro (.pick_t rfl rfl) rfl ?_
                            refine Cov.prune _ ?_ (Cov.same rfl rfl rfl (hb4019 () trivial))
                            exact ⟨dand_t c4018, rfl, rfl, rfl, rfl, rfl, rfl, rfl, rfl, rfl, rfl, rfl, rfl, rfl, rfl, rfl, rfl, trivial⟩
                          · refine Cov.g_off rfl rfl rfl ?_
                            refine Cov.g_off rfl rfl rfl ?_
                            refine Cov.g_off rfl rfl rfl ?_
                            refine Cov.q .ro (.pick_f rfl rfl) rfl ?_
                            refine Cov.prune _ ?_ (Cov.same rfl rfl rfl (hb4019 () trivial))
                            exact ⟨dand_f (bne_of c4018), rfl, rfl, rfl, rfl, rfl, rfl, rfl, rfl, rfl, rfl, rfl, rfl, rfl, rfl, rfl, rfl, trivial⟩
              · intro hb3259
                refine Cov.split 64 rfl (fun c3258 => ?_) (fun c3258 => ?_)
                · refine Cov.g_off rfl rfl rfl ?_
                  refine Cov.g_off rfl rfl rfl ?_
                  refine Cov.g_off rfl rfl rfl ?_
                  refine Cov.g_off rfl rfl rfl ?_
                  refine Cov.g_off rfl rfl rfl ?_
                  refine Cov.g_off rfl rfl rfl ?_
                  refine Cov.q .ro (.pick_t rfl rfl) rfl ?_
                  refine Cov.prune _ ?_ (Cov.same rfl rfl rfl (hb3259 () trivial))
                  exact ⟨dor_t c3258, rfl, rfl, rfl, rfl, rfl, rfl, rfl, trivial⟩
                · refine Cov.g_on rfl ?_
                  refine Cov.q .ro (.move rfl) rfl ?_
                  refine Cov.g_on rfl ?_
                  refine Cov.q .ro (.len_sl rfl rfl sl22) rfl ?_
                  refine Cov.g_on rfl ?_
                  refine Cov.q .ro (.fieldAddr 1 rfl fl25_1 ty23.sz rfl) rfl ?_
                  refine Cov.g_on rfl ?_
                  refine Cov.q .ro (.load_own 0 rfl rfl ty23 rfl) rfl ?_
                  refine Cov.g_on rfl ?_
                  refine Cov.q .ro (.len_sl rfl rfl sl23) rfl ?_
                  refine Cov.g_on rfl ?_
                  refine Cov.q .ro (.neq rfl rfl) rfl ?_
                  refine Cov.q .ro (.pick_f rfl rfl) rfl ?_
                  refine Cov.prune _ ?_ (Cov.same rfl rfl rfl (hb3259 () trivial))
                  exact ⟨dor_f c3258, rfl, rfl, rfl, rfl, rfl, rfl, rfl, trivial⟩
            · have r4022 := ifF r3245 c3247; clear r3245
              refine Cov.exit rfl ?_
              refine Cov.prune _ ?_ (Cov.same rfl rfl rfl (hb2448 (G3232, v3236, v3238, v3239) ⟨e3233, B3234, r4022⟩))
              exact ⟨rfl, rfl, rfl, rfl, rfl, trivial⟩
      · intro hb50
        refine Cov.split 45 rfl (fun c49 => ?_) (fun c49 => ?_)
        · refine Cov.g_off rfl rfl rfl ?_
          refine Cov.g_off rfl rfl rfl ?_
          refine Cov.g_off rfl rfl rfl ?_
          refine Cov.g_off rfl rfl rfl ?_
          refine Cov.g_off rfl rfl rfl ?_
          refine Cov.q .ro (.pick_t rfl rfl) rfl ?_
          refine Cov.prune _ ?_ (Cov.same rfl rfl rfl (hb50 () trivial))
          exact ⟨dor_t c49, rfl, rfl, rfl, trivial⟩
        · refine Cov.g_on rfl ?_
          refine Cov.q .ro (.move rfl) rfl ?_
          refine Cov.g_on rfl ?_
          refine Cov.q .ro (.len_sl rfl rfl sl54) rfl ?_
          refine Cov.g_on rfl ?_
          refine Cov.q .ro (.fieldAddr 0 rfl fl25_0 ty3.sz rfl) rfl ?_
          refine Cov.g_on rfl ?_
          refine Cov.q .ro (.load_own 0 rfl rfl ty3 rfl) rfl ?_
          refine Cov.g_on rfl ?_
          refine Cov.q .ro (.neq rfl rfl) rfl ?_
          refine Cov.q .ro (.pick_f rfl rfl) rfl ?_
          refine Cov.prune _ ?_ (Cov.same rfl rfl rfl (hb50 () trivial))
          exact ⟨dor_f c49, rfl, rfl, rfl, trivial⟩

end Go.Proofs.Ytbhmhindommaeaa
