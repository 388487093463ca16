/- The walks. Printed by wip/lift/drive.py. -/
import Derived.Test.YthgmcgldmahgeaaW3
namespace Go.Proofs.Ythgmcgldmahgeaa
open Go.RowKit
set_option linter.unusedSimpArgs false
set_option linter.unusedVariables false
set_option synthInstance.maxSize 2000
set_option synthInstance.maxHeartbeats 400000

set_option maxHeartbeats 4000000 in
set_option maxRecDepth 100000 in
theorem law13_LayoutDoes_c {Fs : List Hp} {G : Hp} {a0 : Option Addr} {k0 : Nat} {x0 : List Int} {x1_0 : Int} {x2 : Int} {x3 : Int} {a4 : Option Addr} {k4 : Nat} {x4 : List ByteArray} {a5 : Option Addr} {k5 : Nat} {x5 : List (List Int)} {r : Bool} (hG : G ∈ Fs) (s0 : SlR (Rep.int .i64) G a0 k0 x0) (s4 : SlR Rep.str G a4 k4 x4) (s5 : SlR (Rep.sl (Rep.int .i64)) G a5 k5 x5) (h : law13_LayoutDoes x0 x1_0 x2 x3 x4 x5 = some r) : RetS Try.prog 3 #[.slice a0 x0.length k0, .agg #[.int .i64 x1_0], .int .i64 x2, .int .i64 x3, .slice a4 x4.length k4, .slice a5 x5.length k5] Fs [] [] (fun v bo so => v = .bool r ∧ bo = [] ∧ so = []) := by
  unfold law13_LayoutDoes at h
  try dsimp only at h
  refine RetS.of (vs := [_, _, _, _, _, _]) Try.func3 rfl Try.ntmps3 [(0, _), (1, _), (2, _), (3, _), (4, _), (5, _)] ⟨rfl, rfl, rfl, rfl, rfl, rfl, trivial⟩ rfl hG fun w0 S0 hS0 B0 => ?_
  refine Cov.seq ?_
  refine Cov.region rfl ?_
  refine Cov.box [_] .ro rfl rfl rfl (fun b1 hb1 => ?_)
  refine Cov.q .ro (.assign rfl) rfl ?_
  refine Cov.region_end ?_
  refine Cov.seq ?_
  refine Cov.seq ?_
  refine Cov.region rfl ?_
  obtain ⟨u2, hu2, r3⟩ := bind_some h; clear h
  refine Cov.callS (b1 := []) (b2 := [_]) (s1 := []) [] [] .ro rfl rfl Try.call10 rfl rfl (law13_sane_c (G := G) List.mem_cons_self  hu2) rfl (fun v5 bo so h4 => ?_)
  obtain ⟨rfl, rfl, rfl⟩ := h4
  refine Cov.same (bl' := [_]) (sl' := []) rfl rfl rfl ?_
  refine Cov.q .ro (.not rfl) rfl ?_
  refine Cov.region_end ?_
  refine Cov.cond rfl (fun c6 => ?_) (fun c6 => ?_)
  · have r7 := ifT r3 c6; clear r3
    refine Cov.seq ?_
    refine Cov.region rfl ?_
    refine Cov.q .ro (.assign rfl) rfl ?_
    refine Cov.region_end ?_
    cases r7
    refine Cov.drop 1 0 [] _ rfl rfl ?_
    refine Cov.retS (c := ⟨3, none⟩) (.inr ⟨_, rfl⟩) [.tmp 12] [_] rfl Try.func3 Try.results3 ⟨RV.tmp rfl, trivial⟩ (fun _ h => List.mem_cons_of_mem _ h) ⟨rfl, rfl, rfl⟩
  · have r8 := ifBF r3 c6; clear r3
    refine Cov.skip ?_
    refine Cov.seq ?_
    refine Cov.region rfl ?_
    refine Cov.q .ro (.assign rfl) rfl ?_
    refine Cov.region_end ?_
    refine Cov.seq ?_
    refine Cov.seq ?_
    refine Cov.region rfl ?_
    refine Cov.q .ro (.move rfl) rfl ?_
    refine Cov.q .ro (.len_sl rfl rfl sl25) rfl ?_
    refine Cov.q .ro (.move rfl) rfl ?_
    refine Cov.region_end ?_
    refine Cov.cutB (β := Int × Int) (fun y => [(13, .int .i64 y.1)]) [(0, _), (2, _), (3, _), (4, _), (5, _), (7, _)] (fun y => G :: Fs) (fun y => [(b1, .cells #[.int .i64 y.2] 24 (0, 0))]) [] (fun y => []) [] (fun y => (law13_LayoutDoes_J9 x0 x2 x3 x4 x5) y.1 y.2 = some r) ⟨rfl, rfl, rfl, rfl, rfl, rfl, trivial⟩ [] rfl [] rfl ?_ ?_
    · intro y hI
      obtain ⟨v41, v42⟩ := y
      have r44 := hI; clear hI
      try dsimp only at r44
      refine Cov.prune [(13, .int .i64 v41), (0, _), (2, _), (3, _), (4, _), (5, _), (7, _)] ⟨rfl, rfl, rfl, rfl, rfl, rfl, rfl, trivial⟩ ?_
      refine Cov.same (bl' := [(b1, .cells #[.int .i64 v42] 24 (0, 0))]) (sl' := []) (Fs' := G :: Fs) rfl rfl rfl ?_
      unfold law13_LayoutDoes_J9 at r44
      try dsimp only at r44
      refine Cov.seq ?_
      refine Cov.seq ?_
      refine Cov.region rfl ?_
      refine Cov.q .ro (.move rfl) rfl ?_
      obtain ⟨u50, hu50, r51⟩ := bind_some r44; clear r44
      refine Cov.callS (b1 := []) (b2 := [_]) (s1 := []) [_] [] .ro rfl rfl Try.call11 rfl rfl (make_Few_c (G := G) List.mem_cons_self s0 hu50) rfl (fun v53 bo so h52 => ?_)
      obtain ⟨rfl, rfl, rfl⟩ := h52
      refine Cov.same (bl' := [_]) (sl' := []) rfl rfl rfl ?_
      refine Cov.q .ro (.not rfl) rfl ?_
      refine Cov.q .ro (.move rfl) rfl ?_
      refine Cov.cutR 3 (β := Unit) (fun y => [(68, .bool (decide (((!u50) = true) ∨ (1500 < v41))))]) [(0, _), (2, _), (3, _), (4, _), (5, _), (7, _)] (fun y => G :: Fs) (fun y => []) [_] (fun y => []) [] (fun y => True) ⟨rfl, rfl, rfl, rfl, rfl, rfl, trivial⟩ [0] rfl [] rfl ?_ ?_
      · rintro _ _
        refine Cov.prune [(68, .bool (decide (((!u50) = true) ∨ (1500 < v41)))), (0, _), (2, _), (3, _), (4, _), (5, _), (7, _)] ⟨rfl, rfl, rfl, rfl, rfl, rfl, rfl, trivial⟩ ?_
        refine Cov.same (bl' := [_]) (sl' := []) (Fs' := G :: Fs) rfl rfl rfl ?_
        refine Cov.q .ro (.move rfl) rfl ?_
        obtain ⟨u64, h65, r66⟩ := bind_some r51; clear r51
        refine Cov.cutR 4 (β := Unit) (fun y => [(73, .bool u64)]) [(0, _), (2, _), (3, _), (4, _), (5, _), (7, _)] (fun y => G :: Fs) (fun y => []) [_] (fun y => []) [] (fun y => True) ⟨rfl, rfl, rfl, rfl, rfl, rfl, trivial⟩ [0] rfl [] rfl ?_ ?_
        · rintro _ _
          refine Cov.prune [(73, .bool u64), (0, _), (2, _), (3, _), (4, _), (5, _), (7, _)] ⟨rfl, rfl, rfl, rfl, rfl, rfl, rfl, trivial⟩ ?_
          refine Cov.same (bl' := [_]) (sl' := []) (Fs' := G :: Fs) rfl rfl rfl ?_
          refine Cov.region_end ?_
          refine Cov.cond rfl (fun c69 => ?_) (fun c69 => ?_)
          · have r70 := ifT r66 c69; clear r66
            refine Cov.seq ?_
            refine Cov.region rfl ?_
            refine Cov.q .ro (.assign rfl) rfl ?_
            refine Cov.region_end ?_
            cases r70
            refine Cov.drop 1 0 [] _ rfl rfl ?_
            refine Cov.retS (c := ⟨3, none⟩) (.inr ⟨_, rfl⟩) [.tmp 12] [_] rfl Try.func3 Try.results3 ⟨RV.tmp rfl, trivial⟩ (fun _ h => List.mem_cons_of_mem _ h) ⟨rfl, rfl, rfl⟩
          · have r71 := ifBF r66 c69; clear r66
            refine Cov.skip ?_
            refine Cov.seq ?_
            refine Cov.region rfl ?_
            refine Cov.q .ro (.move rfl) rfl ?_
            obtain ⟨u72, hu72, r73⟩ := bind_some r71; clear r71
            refine Cov.callS (b1 := []) (b2 := [_]) (s1 := []) [_] [] .ro rfl rfl Try.call13 rfl rfl (make_New_c (G := G) List.mem_cons_self s0 hu72) rfl (fun v75 bo so h74 => ?_)
            obtain ⟨a77, k78, b76, rfl, rfl, rfl, s79⟩ := h74
            refine Cov.same (bl' := [_, _]) (sl' := []) rfl rfl rfl ?_
            refine Cov.q .ro (.assign rfl) rfl ?_
            refine Cov.region_end ?_
            refine Cov.seq ?_
            refine Cov.region rfl ?_
            refine Cov.q .ro (.move rfl) rfl ?_
            obtain ⟨u80, hu80, r81⟩ := bind_some r73; clear r73
            refine Cov.callW (b1 := [_]) (b2 := [_]) (s1 := []) [_] [] .ro rfl rfl Try.call14 rfl rfl (make_Laid_c (G := G) List.mem_cons_self s79 hu80) rfl B0 (fun v83 bo so G84 e85 B86 h82 => ?_)
            obtain ⟨a88, k89, a91, k92, a94, k95, a97, k98, rfl, rfl, rfl, s90, s93, s96, s99⟩ := h82
            refine Cov.same (bl' := [_, _]) (sl' := []) rfl rfl rfl ?_
            refine Cov.q .ro (.move rfl) rfl ?_
            refine Cov.q .ro (.extract rfl rfl) rfl ?_
            refine Cov.q .ro (.extract rfl rfl) rfl ?_
            refine Cov.q .ro (.extract rfl rfl) rfl ?_
            refine Cov.q .ro (.extract rfl rfl) rfl ?_
            refine Cov.alloc .ro ty24 rfl (fun b100 hb100 => ?_)
            refine Cov.alloc .ro ty34 rfl (fun b101 hb101 => ?_)
            refine Cov.store 1 [_] [_, _, _, _] .ro rfl rfl rfl ty24 rfl rfl rfl rfl ?_
            refine Cov.q .ro (.assign rfl) rfl ?_
            refine Cov.q .ro (.assign rfl) rfl ?_
            refine Cov.store 0 [_, _] [_, _, _, _] .ro rfl rfl rfl ty34 rfl rfl rfl rfl ?_
            refine Cov.region_end ?_
            refine Cov.seq ?_
            refine Cov.region rfl ?_
            refine Cov.q .ro (.move rfl) rfl ?_
            refine Cov.own_nil 22 1 ?_
            obtain ⟨u107, hu107, r108⟩ := bind_some r81; clear r81
            refine Cov.appR (Q := (Rep.sl (Rep.int .i64))) 0 .ro sl26 ty22 rfl rfl rfl rfl rfl (OL.nil (Rp' := (Rep.sl (Rep.int .i64)))) rfl rfl s93 rfl List.mem_cons_self hu107 rfl (fun a103 k104 cs105 o106 => ?_)
            refine Cov.q .ro (.assign rfl) rfl ?_
            refine Cov.region_end ?_
            refine Cov.prune [(2, _), (3, _), (4, _), (5, _), (7, _), (16, _), (17, _), (20, _), (18, _), (19, _), (21, _)] ⟨rfl, rfl, rfl, rfl, rfl, rfl, rfl, rfl, rfl, rfl, rfl, trivial⟩ ?_
            refine Cov.seq ?_
            refine Cov.seq ?_
            refine Cov.region rfl ?_
            refine Cov.q .ro (.move rfl) rfl ?_
            refine Cov.q .ro (.len_sl rfl rfl sl26) rfl ?_
            refine Cov.q .ro (.gtr rfl rfl) rfl ?_
            refine Cov.region_end ?_
            refine Cov.cutI (β := Hp × List (List Int) × Option Addr × Nat × List Value × List Int × Option Addr × Nat × Int) (fun y => [(21, .slice y.2.2.1 y.2.1.length y.2.2.2.1)]) [(2, _), (3, _), (4, _), (5, _), (7, _), (17, _), (20, _), (18, _), (19, _)] (fun y => y.1 :: Fs) (fun y => [(b76, .cells #[.slice y.2.2.2.2.2.2.1 y.2.2.2.2.2.1.length y.2.2.2.2.2.2.2.1, .int .i64 y.2.2.2.2.2.2.2.2] 69 (0, 0))]) [_, _, _] (fun y => [.s (.slice y.2.2.1 y.2.1.length y.2.2.2.1) 22 1 y.2.1.length y.2.2.2.2.1]) [] (fun y => HpLe G84 y.1 ∧ Bd w0 S0 Fs y.1 ∧ OL (Rep.sl (Rep.int .i64)) y.1 y.2.2.2.2.1 y.2.1 ∧ SlR (Rep.int .i64) y.1 y.2.2.2.2.2.2.1 y.2.2.2.2.2.2.2.1 y.2.2.2.2.2.1 ∧ (law13_LayoutDoes_J7 x2 x3 x4 x5 u80.2.1 u80.2.2.1 u80.2.2.2.1.1 u80.1 v42) y.2.1 y.2.2.2.2.2.1 y.2.2.2.2.2.2.2.2 = some r) ⟨rfl, rfl, rfl, rfl, rfl, rfl, rfl, rfl, rfl, trivial⟩ [0, 1, 3] rfl [] rfl ?_ ?_
            · intro y hI
              obtain ⟨G8260, v8264, a8265, k8266, cs8267, v8270, a8271, k8272, v8274⟩ := y
              obtain ⟨e8261, B8262, o8268, s8273, r8276⟩ := hI
              try dsimp only at e8261 B8262 o8268 s8273 r8276
              refine Cov.prune [(21, .slice a8265 v8264.length k8266), (2, _), (3, _), (4, _), (5, _), (7, _), (17, _), (20, _), (18, _), (19, _)] ⟨rfl, rfl, rfl, rfl, rfl, rfl, rfl, rfl, rfl, rfl, trivial⟩ ?_
              refine Cov.same (bl' := [(b76, .cells #[.slice a8271 v8270.length k8272, .int .i64 v8274] 69 (0, 0)), _, _, _]) (sl' := [.s (.slice a8265 v8264.length k8266) 22 1 v8264.length cs8267]) (Fs' := G8260 :: Fs) rfl rfl rfl ?_
              unfold law13_LayoutDoes_J7 at r8276
              try dsimp only at r8276
              refine Cov.seq ?_
              refine Cov.seq ?_
              refine Cov.region rfl ?_
              refine Cov.q .ro (.load_own_a 3 [_] rfl rfl ty24 rfl) rfl ?_
              refine Cov.q .ro (.load_own_a 2 [_] rfl rfl ty24 rfl) rfl ?_
              refine Cov.q .ro (.build [_] [(0, _)] ty24 pl24 rfl rfl) rfl ?_
              refine Cov.lit [_, _, _] [(0, _), (1, _), (2, _)] .ro sl38 ty24 rfl rfl rfl rfl rfl rfl (fun b8287 hb8287 => ?_)
              have o8288 : OL (Rep.int .i64) G8260 [.int .i64 v42, .int .i64 u80.1, .int .i64 257] ([v42, u80.1, 257] : List Int) := ((OL.cons rfl (Rep.intI .i64 v42) (OL.cons rfl (Rep.intI .i64 u80.1) (OL.cons rfl (Rep.intI .i64 257) (OL.nil (Rp' := (Rep.int .i64)))))) :)
              refine Cov.reval 116 (n' := ([v42, u80.1, 257] : List Int).length) rfl rfl ?_
              refine Cov.q .ro (.len_sl rfl rfl sl38) rfl ?_
              refine Cov.q .ro (.move rfl) rfl ?_
              refine Cov.region_end ?_
              refine Cov.block ?_
              refine Cov.freezeR 1 rfl rfl o8268 [_] rfl B8262 (fun G10561 e10562 B10563 s10564 => ?_)
              refine Cov.pull 3 rfl [_, _, _, _] rfl ?_
              refine Cov.pull 3 rfl [_, _, _, _] rfl ?_
              refine Cov.pull 3 rfl [_, _, _, _] rfl ?_
              refine Cov.pull 3 rfl [_, _, _, _] rfl ?_
              refine Cov.loop2 (α := Nat × List Int × Hp × Int × Int × Int × Int) (fun y => [(118, .int .i64 (y.1 : Int))]) [(21, _), (2, _), (3, _), (4, _), (5, _), (20, _), (18, _), (19, _), (116, _), (117, _)] (fun y => [y.2.2.1]) (fun y => [(b76, .cells #[.slice a8271 v8270.length k8272, .int .i64 y.2.2.2.1] 69 (0, 0)), (b101, .cells #[.int .i64 y.2.2.2.2.1, .slice a94 u80.2.2.2.1.2.length k95] 34 (0, 0)), (b100, .cells #[.int .i64 y.2.2.2.2.2.1] 24 (0, 0)), (b1, .cells #[.int .i64 y.2.2.2.2.2.2] 24 (0, 0))]) [] (fun y => []) [_] (fun y => HpLe G10561 y.2.2.1 ∧ Bd w0 S0 Fs y.2.2.1 ∧ List.drop y.1 ([v42, u80.1, 257] : List Int) = y.2.1 ∧ law13_LayoutDoes_L6 v8264 x2 x3 x4 x5 u80.2.1 u80.2.2.1 y.2.1 y.2.2.2.1 y.2.2.2.2.1 y.2.2.2.2.2.1 y.2.2.2.2.2.2 = some r) (fun y => y.2.1.length) (0, ([v42, u80.1, 257] : List Int), G10561, v8274, u80.2.2.2.1.1, u80.1, v42) ⟨(HpLe.refl _), B10563, rfl, r8276⟩ ⟨rfl, rfl, rfl, rfl, rfl, rfl, rfl, rfl, rfl, rfl, rfl, trivial⟩ rfl rfl rfl (fun y hI hb12024 => ?_)
              obtain ⟨i12012, w12013, G12015, v12019, v12020, v12021, v12022⟩ := y
              obtain ⟨e12016, B12017, g12014, r12023⟩ := hI
              try dsimp only at e12016 B12017 g12014 r12023
              refine Cov.prune [(118, .int .i64 (i12012 : Int)), (21, _), (2, _), (3, _), (4, _), (5, _), (20, _), (18, _), (19, _), (116, _), (117, _)] ⟨rfl, rfl, rfl, rfl, rfl, rfl, rfl, rfl, rfl, rfl, rfl, trivial⟩ ?_
              refine Cov.same (bl' := [(b76, .cells #[.slice a8271 v8270.length k8272, .int .i64 v12019] 69 (0, 0)), (b101, .cells #[.int .i64 v12020, .slice a94 u80.2.2.2.1.2.length k95] 34 (0, 0)), (b100, .cells #[.int .i64 v12021] 24 (0, 0)), (b1, .cells #[.int .i64 v12022] 24 (0, 0))]) (sl' := [_]) (Fs' := G12015 :: Fs) rfl rfl rfl ?_
              cases w12013 with
              | nil =>
                rw [law13_LayoutDoes_L6] at r12023; try dsimp only at r12023
                refine Cov.seq ?_
                refine Cov.region rfl ?_
                refine Cov.q .ro (.lss rfl rfl) rfl ?_
                refine Cov.region_end ?_
                refine Cov.seq ?_
                refine Cov.cond_dec rfl (fun c => absurd c (drop_nil g12014)) (fun _ => ?_)
                refine Cov.exit rfl ?_
                refine Cov.seq ?_
                refine Cov.region rfl ?_
                refine Cov.q .ro (.assign rfl) rfl ?_
                refine Cov.region_end ?_
                cases r12023
                refine Cov.drop 4 0 [] _ rfl rfl ?_
                refine Cov.drop 0 1 _ [] rfl rfl ?_
                refine Cov.retS (c := ⟨3, none⟩) (.inr ⟨_, rfl⟩) [.tmp 12] [_] rfl Try.func3 Try.results3 ⟨RV.tmp rfl, trivial⟩ (fun _ h => List.mem_cons_of_mem _ h) ⟨rfl, rfl, rfl⟩
              | cons x12037 xs12038 =>
                have r12036 : law13_LayoutDoes_B6 v8264 x2 x3 x4 x5 u80.2.1 u80.2.2.1 (law13_LayoutDoes_L6 v8264 x2 x3 x4 x5 u80.2.1 u80.2.2.1 xs12038) x12037 v12019 v12020 v12021 v12022 = some r := r12023; clear r12023; unfold law13_LayoutDoes_B6 at r12036; try dsimp only at r12036
                refine Cov.seq ?_
                refine Cov.region rfl ?_
                refine Cov.q .ro (.lss rfl rfl) rfl ?_
                refine Cov.region_end ?_
                refine Cov.seq ?_
                refine Cov.cond_dec rfl (fun _ => ?_) (fun c => absurd (drop_lt g12014) c)
                refine Cov.skip ?_
                refine Cov.seq ?_
                refine Cov.block ?_
                refine Cov.seq ?_
                refine Cov.region rfl ?_
                obtain ⟨c12039, p12040, h12041⟩ := OL.get (OL.mono (HpLe.trans e10562 e12016) o8288) (drop_idx g12014)
                obtain rfl := h12041
                refine Cov.q .ro (.idxO 0 rfl rfl rfl (drop_idx g12014) sl38 ty24.sz) rfl ?_
                refine Cov.q .ro (.loadO_a 0 0 [_] rfl (drop_idx g12014) p12040 rfl (.inl ⟨rfl, rfl⟩) ty24 rfl) rfl ?_
                refine Cov.alloc .ro ty24 rfl (fun b12042 hb12042 => ?_)
                refine Cov.store 0 [_] [_, _, _, _, _] .ro rfl rfl rfl ty24 rfl rfl rfl rfl ?_
                refine Cov.region_end ?_
                refine Cov.seq ?_
                refine Cov.region rfl ?_
                refine Cov.q .ro (.load_own_a 0 [_] rfl rfl ty24 rfl) rfl ?_
                obtain ⟨u12043, hu12043, r12044⟩ := bind_some r12036; clear r12036
                refine Cov.callS (b1 := []) (b2 := [_, _, _, _, _]) (s1 := []) [_] [] .ro rfl rfl Try.call16 rfl rfl (layout_Digits_c (G := G12015) List.mem_cons_self  hu12043) rfl (fun v12046 bo so h12045 => ?_)
                obtain ⟨rfl, rfl, rfl⟩ := h12045
                refine Cov.same (bl' := [_, _, _, _, _]) (sl' := [_]) rfl rfl rfl ?_
                refine Cov.q .ro (.move rfl) rfl ?_
                refine Cov.q .ro (.extract rfl rfl) rfl ?_
                refine Cov.q .ro (.extract rfl rfl) rfl ?_
                refine Cov.q .ro (.assign rfl) rfl ?_
                refine Cov.q .ro (.assign rfl) rfl ?_
                refine Cov.region_end ?_
                refine Cov.seq ?_
                refine Cov.region rfl ?_
                refine Cov.q .ro (.load_own_a 0 [_] rfl rfl ty24 rfl) rfl ?_
                obtain ⟨u12047, hu12047, r12048⟩ := bind_some r12044; clear r12044
                refine Cov.callS (b1 := []) (b2 := [_, _, _, _, _]) (s1 := []) [_] [] .ro rfl rfl Try.call17 rfl rfl (ref13_Digits_c (G := G12015) List.mem_cons_self  hu12047) rfl (fun v12050 bo so h12049 => ?_)
                obtain ⟨rfl, rfl, rfl⟩ := h12049
                refine Cov.same (bl' := [_, _, _, _, _]) (sl' := [_]) rfl rfl rfl ?_
                refine Cov.q .ro (.move rfl) rfl ?_
                refine Cov.q .ro (.extract rfl rfl) rfl ?_
                refine Cov.q .ro (.extract rfl rfl) rfl ?_
                refine Cov.q .ro (.assign rfl) rfl ?_
                refine Cov.q .ro (.assign rfl) rfl ?_
                refine Cov.region_end ?_
                refine Cov.prune [(118, _), (21, _), (2, _), (3, _), (4, _), (5, _), (20, _), (18, _), (19, _), (116, _), (117, _), (25, _), (26, _), (27, _), (28, _), (29, _)] ⟨rfl, rfl, rfl, rfl, rfl, rfl, rfl, rfl, rfl, rfl, rfl, rfl, rfl, rfl, rfl, rfl, trivial⟩ ?_
                refine Cov.seq ?_
                refine Cov.seq ?_
                refine Cov.region rfl ?_
                refine Cov.q .ro (.move rfl) rfl ?_
                refine Cov.q .ro (.move rfl) rfl ?_
                refine Cov.q .ro (.neq rfl rfl) rfl ?_
                refine Cov.q .ro (.move rfl) rfl ?_
                refine Cov.cutR 4 (β := Unit) (fun y => [(139, .bool (decide ((u12043.1 ≠ u12047.1) ∨ (u12043.2 ≠ u12047.2))))]) [(118, _), (21, _), (2, _), (3, _), (4, _), (5, _), (20, _), (18, _), (19, _), (116, _), (117, _), (25, _)] (fun y => G12015 :: Fs) (fun y => []) [_, _, _, _, _] (fun y => []) [_] (fun y => True) ⟨rfl, rfl, rfl, rfl, rfl, rfl, rfl, rfl, rfl, rfl, rfl, rfl, trivial⟩ [0, 1, 2, 3, 4] rfl [0] rfl ?_ ?_
                · rintro _ _
                  refine Cov.prune [(139, .bool (decide ((u12043.1 ≠ u12047.1) ∨ (u12043.2 ≠ u12047.2)))), (118, _), (21, _), (2, _), (3, _), (4, _), (5, _), (20, _), (18, _), (19, _), (116, _), (117, _), (25, _)] ⟨rfl, rfl, rfl, rfl, rfl, rfl, rfl, rfl, rfl, rfl, rfl, rfl, rfl, trivial⟩ ?_
                  refine Cov.same (bl' := [_, _, _, _, _]) (sl' := [_]) (Fs' := G12015 :: Fs) rfl rfl rfl ?_
                  refine Cov.region_end ?_
                  refine Cov.cond_dec rfl (fun c12055 => ?_) (fun c12055 => ?_)
                  · have r12056 := ifT r12048 c12055; clear r12048
                    refine Cov.seq ?_
                    refine Cov.region rfl ?_
                    refine Cov.q .ro (.assign rfl) rfl ?_
                    refine Cov.region_end ?_
                    refine Cov.prune [(12, _)] ⟨rfl, trivial⟩ ?_
                    cases r12056
                    refine Cov.drop 5 0 [] _ rfl rfl ?_
                    refine Cov.drop 0 1 _ [] rfl rfl ?_
                    refine Cov.retS (c := ⟨3, none⟩) (.inr ⟨_, rfl⟩) [.tmp 12] [_] rfl Try.func3 Try.results3 ⟨RV.tmp rfl, trivial⟩ (fun _ h => List.mem_cons_of_mem _ h) ⟨rfl, rfl, rfl⟩
                  · have r12057 := ifF r12048 c12055; clear r12048
                    refine Cov.skip ?_
                    refine Cov.seq ?_
                    refine Cov.drawL (.q 0 (.q 1 (.q 4 (.q 5 (.q 8 (.e 2 1 (.q 3 (.e 6 1 (.q 7 .nil))))))))) [_, _, _, _, _] (by kernel_rfl) (by kernel_rfl) (pick_mem [0, 1, 2, 3, 4] rfl) ?_
                    refine Cov.dq (.move rfl) rfl ?_
                    refine Cov.dq (.move rfl) rfl ?_
                    refine Cov.dq (.fieldAddr 0 rfl fl34_0 ty3.sz rfl) rfl ?_
                    refine Cov.dq (.load_own 2 rfl rfl ty3 rfl) rfl ?_
                    refine Cov.dq (.move rfl) rfl ?_
                    obtain ⟨u12058, hu12058, r12059⟩ := bind_some r12057; clear r12057
                    refine Cov.callS (b1 := []) (b2 := [_, _, _, _, _]) (s1 := []) [_, _] [] .d1 rfl rfl Try.call18 rfl rfl (make_Mod_c (G := G12015) List.mem_cons_self  hu12058) rfl (fun v12061 bo so h12060 => ?_)
                    obtain ⟨rfl, rfl, rfl⟩ := h12060
                    refine Cov.same (bl' := [_, _, _, _, _]) (sl' := [_]) rfl rfl rfl ?_
                    refine Cov.clsL (HpLe.refl _) (pick_mem [0, 1, 2, 3, 4] rfl) ?_
                    refine Cov.dq (.addw rfl rfl) rfl ?_
                    refine Cov.lit [_, _, _] [(0, _), (1, _), (2, _)] .d1 sl22 ty3 rfl rfl rfl rfl rfl rfl (fun b12062 hb12062 => ?_)
                    have o12063 : OL (Rep.int .i64) G12015 [.int .i64 x2, .int .i64 (w64 (1 + u12058)), .int .i64 v12020] ([x2, (w64 (1 + u12058)), v12020] : List Int) := ((OL.cons rfl (Rep.intI .i64 x2) (OL.cons rfl (Rep.intI .i64 (w64 (1 + u12058))) (OL.cons rfl (Rep.intI .i64 v12020) (OL.nil (Rp' := (Rep.int .i64)))))) :)
                    refine Cov.reval 146 (n' := ([x2, (w64 (1 + u12058)), v12020] : List Int).length) rfl rfl ?_
                    refine Cov.clsL (HpLe.refl _) (pick_mem [0, 1, 2, 3, 4] rfl) ?_
                    refine Cov.dq (.len_sl rfl rfl sl22) rfl ?_
                    refine Cov.draw_end ?_
                    refine Cov.block ?_
                    refine Cov.pull 4 rfl [_, _, _, _, _] rfl ?_
                    refine Cov.pull 4 rfl [_, _, _, _, _] rfl ?_
                    refine Cov.pull 4 rfl [_, _, _, _, _] rfl ?_
                    refine Cov.pull 4 rfl [_, _, _, _, _] rfl ?_
                    refine Cov.pull 4 rfl [_, _, _, _, _] rfl ?_
                    refine Cov.loop2 (α := Nat × List Int × Hp × Int × Int × Int × Int × Int) (fun y => [(148, .int .i64 (y.1 : Int))]) [(118, _), (21, _), (2, _), (3, _), (4, _), (5, _), (20, _), (18, _), (19, _), (116, _), (117, _), (25, _), (146, _), (147, _)] (fun y => [y.2.2.1]) (fun y => [(b12042, .cells #[.int .i64 y.2.2.2.1] 24 (0, 0)), (b76, .cells #[.slice a8271 v8270.length k8272, .int .i64 y.2.2.2.2.1] 69 (0, 0)), (b101, .cells #[.int .i64 y.2.2.2.2.2.1, .slice a94 u80.2.2.2.1.2.length k95] 34 (0, 0)), (b100, .cells #[.int .i64 y.2.2.2.2.2.2.1] 24 (0, 0)), (b1, .cells #[.int .i64 y.2.2.2.2.2.2.2] 24 (0, 0))]) [] (fun y => []) [_, _] (fun y => HpLe G12015 y.2.2.1 ∧ Bd w0 S0 Fs y.2.2.1 ∧ List.drop y.1 ([x2, (w64 (1 + u12058)), v12020] : List Int) = y.2.1 ∧ law13_LayoutDoes_L5 (law13_LayoutDoes_L6 v8264 x2 x3 x4 x5 u80.2.1 u80.2.2.1 xs12038) v8264 x3 x4 x5 u80.2.1 u80.2.2.1 y.2.1 y.2.2.2.1 y.2.2.2.2.1 y.2.2.2.2.2.1 y.2.2.2.2.2.2.1 y.2.2.2.2.2.2.2 = some r) (fun y => y.2.1.length) (0, ([x2, (w64 (1 + u12058)), v12020] : List Int), G12015, x12037, v12019, v12020, v12021, v12022) ⟨(HpLe.refl _), B12017, rfl, r12059⟩ ⟨rfl, rfl, rfl, rfl, rfl, rfl, rfl, rfl, rfl, rfl, rfl, rfl, rfl, rfl, rfl, trivial⟩ rfl rfl rfl (fun y hI hb12777 => ?_)
                    obtain ⟨i12764, w12765, G12767, v12771, v12772, v12773, v12774, v12775⟩ := y
                    obtain ⟨e12768, B12769, g12766, r12776⟩ := hI
                    try dsimp only at e12768 B12769 g12766 r12776
                    refine Cov.prune [(148, .int .i64 (i12764 : Int)), (118, _), (21, _), (2, _), (3, _), (4, _), (5, _), (20, _), (18, _), (19, _), (116, _), (117, _), (25, _), (146, _), (147, _)] ⟨rfl, rfl, rfl, rfl, rfl, rfl, rfl, rfl, rfl, rfl, rfl, rfl, rfl, rfl, rfl, trivial⟩ ?_
                    refine Cov.same (bl' := [(b12042, .cells #[.int .i64 v12771] 24 (0, 0)), (b76, .cells #[.slice a8271 v8270.length k8272, .int .i64 v12772] 69 (0, 0)), (b101, .cells #[.int .i64 v12773, .slice a94 u80.2.2.2.1.2.length k95] 34 (0, 0)), (b100, .cells #[.int .i64 v12774] 24 (0, 0)), (b1, .cells #[.int .i64 v12775] 24 (0, 0))]) (sl' := [_, _]) (Fs' := G12767 :: Fs) rfl rfl rfl ?_
                    cases w12765 with
                    | nil =>
                      rw [law13_LayoutDoes_L5] at r12776; try dsimp only at r12776
                      refine Cov.seq ?_
                      refine Cov.region rfl ?_
                      refine Cov.q .ro (.lss rfl rfl) rfl ?_
                      refine Cov.region_end ?_
                      refine Cov.seq ?_
                      refine Cov.cond_dec rfl (fun c => absurd c (drop_nil g12766)) (fun _ => ?_)
                      refine Cov.exit rfl ?_
                      refine Cov.inBlock ?_
                      refine Cov.region rfl ?_
                      refine Cov.q .ro (.addw rfl rfl) rfl ?_
                      refine Cov.q .ro (.move rfl) rfl ?_
                      refine Cov.region_end ?_
                      refine Cov.drop 1 0 [_, _, _, _] _ rfl rfl ?_
                      refine Cov.drop 0 1 _ [_] rfl rfl ?_
                      refine Cov.prune _ ?_ (Cov.same rfl rfl rfl (hb12024 ((i12012 + 1), xs12038, G12767, v12772, v12773, v12774, v12775) ⟨(HpLe.trans e12016 e12768), B12769, (drop_succ g12014), r12776⟩ (Nat.lt_succ_self _)))
                      exact ⟨(congrArg (fun z => some (Value.int .i64 z)) (idx_wrap (OL.len' o8288) g12014)), rfl, rfl, rfl, rfl, rfl, rfl, rfl, rfl, rfl, rfl, trivial⟩
                    | cons x12793 xs12794 =>
                      have r12792 : law13_LayoutDoes_B5 (law13_LayoutDoes_L6 v8264 x2 x3 x4 x5 u80.2.1 u80.2.2.1 xs12038) v8264 x3 x4 x5 u80.2.1 u80.2.2.1 (law13_LayoutDoes_L5 (law13_LayoutDoes_L6 v8264 x2 x3 x4 x5 u80.2.1 u80.2.2.1 xs12038) v8264 x3 x4 x5 u80.2.1 u80.2.2.1 xs12794) x12793 v12771 v12772 v12773 v12774 v12775 = some r := r12776; clear r12776; unfold law13_LayoutDoes_B5 at r12792; try dsimp only at r12792
                      refine Cov.seq ?_
                      refine Cov.region rfl ?_
                      refine Cov.q .ro (.lss rfl rfl) rfl ?_
                      refine Cov.region_end ?_
                      refine Cov.seq ?_
                      refine Cov.cond_dec rfl (fun _ => ?_) (fun c => absurd (drop_lt g12766) c)
                      refine Cov.skip ?_
                      refine Cov.seq ?_
                      refine Cov.block ?_
                      refine Cov.seq ?_
                      refine Cov.region rfl ?_
                      obtain ⟨c12795, p12796, h12797⟩ := OL.get (OL.mono e12768 o12063) (drop_idx g12766)
                      obtain rfl := h12797
                      refine Cov.q .ro (.idxO 0 rfl rfl rfl (drop_idx g12766) sl22 ty3.sz) rfl ?_
                      refine Cov.q .ro (.loadO 0 0 rfl (drop_idx g12766) p12796 rfl (.inl ⟨rfl, rfl⟩) ty3 rfl) rfl ?_
                      refine Cov.q .ro (.assign rfl) rfl ?_
                      refine Cov.region_end ?_
                      refine Cov.seq ?_
                      refine Cov.seq ?_
                      refine Cov.region rfl ?_
                      refine Cov.q .ro (.move rfl) rfl ?_
                      refine Cov.q .ro (.move rfl) rfl ?_
                      refine Cov.lit [_, _] [(0, _), (1, _)] .ro sl43 ty25 rfl rfl rfl rfl rfl rfl (fun b12798 hb12798 => ?_)
                      have o12799 : OL (Rep.sl Rep.str) G12767 [.slice a4 x4.length k4, .slice a88 u80.2.1.length k89] ([x4, u80.2.1] : List (List ByteArray)) := ((OL.cons rfl (Rep.slI (SlR.mono (HpLe.trans (HpLe.trans (HpLe.trans (HpLe.trans e85 e8261) e10562) e12016) e12768) s4)) (OL.cons rfl (Rep.slI (SlR.mono (HpLe.trans (HpLe.trans (HpLe.trans e8261 e10562) e12016) e12768) s90)) (OL.nil (Rp' := (Rep.sl Rep.str))))) :)
                      refine Cov.reval 154 (n' := ([x4, u80.2.1] : List (List ByteArray)).length) rfl rfl ?_
                      refine Cov.q .ro (.len_sl rfl rfl sl43) rfl ?_
                      refine Cov.q .ro (.move rfl) rfl ?_
                      refine Cov.region_end ?_
                      refine Cov.cutB (β := Hp × Int × Int × Int × Int × Int) (fun y => []) [(148, _), (118, _), (21, _), (2, _), (3, _), (4, _), (5, _), (20, _), (18, _), (19, _), (116, _), (117, _), (25, _), (146, _), (147, _), (31, _)] (fun y => y.1 :: Fs) (fun y => [(b12042, .cells #[.int .i64 y.2.1] 24 (0, 0)), (b76, .cells #[.slice a8271 v8270.length k8272, .int .i64 y.2.2.1] 69 (0, 0)), (b101, .cells #[.int .i64 y.2.2.2.1, .slice a94 u80.2.2.2.1.2.length k95] 34 (0, 0)), (b100, .cells #[.int .i64 y.2.2.2.2.1] 24 (0, 0)), (b1, .cells #[.int .i64 y.2.2.2.2.2] 24 (0, 0))]) [] (fun y => []) [_, _, _] (fun y => HpLe G12767 y.1 ∧ Bd w0 S0 Fs y.1 ∧ (law13_LayoutDoes_J3 (law13_LayoutDoes_L5 (law13_LayoutDoes_L6 v8264 x2 x3 x4 x5 u80.2.1 u80.2.2.1 xs12038) v8264 x3 x4 x5 u80.2.1 u80.2.2.1 xs12794) v8264 x3 x5 u80.2.2.1 x12793) y.2.1 y.2.2.1 y.2.2.2.1 y.2.2.2.2.1 y.2.2.2.2.2 = some r) ⟨rfl, rfl, rfl, rfl, rfl, rfl, rfl, rfl, rfl, rfl, rfl, rfl, rfl, rfl, rfl, rfl, trivial⟩ [] rfl [0, 1, 2] rfl ?_ ?_
                      · intro y hI
                        obtain ⟨G12995, v12999, v13000, v13001, v13002, v13003⟩ := y
                        obtain ⟨e12996, B12997, r13005⟩ := hI
                        try dsimp only at e12996 B12997 r13005
                        refine Cov.prune [(148, _), (118, _), (21, _), (2, _), (3, _), (4, _), (5, _), (20, _), (18, _), (19, _), (116, _), (117, _), (25, _), (146, _), (147, _), (31, _)] ⟨rfl, rfl, rfl, rfl, rfl, rfl, rfl, rfl, rfl, rfl, rfl, rfl, rfl, rfl, rfl, rfl, trivial⟩ ?_
                        refine Cov.same (bl' := [(b12042, .cells #[.int .i64 v12999] 24 (0, 0)), (b76, .cells #[.slice a8271 v8270.length k8272, .int .i64 v13000] 69 (0, 0)), (b101, .cells #[.int .i64 v13001, .slice a94 u80.2.2.2.1.2.length k95] 34 (0, 0)), (b100, .cells #[.int .i64 v13002] 24 (0, 0)), (b1, .cells #[.int .i64 v13003] 24 (0, 0))]) (sl' := [_, _, _]) (Fs' := G12995 :: Fs) rfl rfl rfl ?_
                        unfold law13_LayoutDoes_J3 at r13005
                        try dsimp only at r13005
                        refine Cov.seq ?_
                        refine Cov.region rfl ?_
                        refine Cov.q .ro (.move rfl) rfl ?_
                        refine Cov.q .ro (.move rfl) rfl ?_
                        obtain ⟨u13023, hu13023, r13024⟩ := bind_some r13005; clear r13005
                        refine Cov.callS (b1 := []) (b2 := [_, _, _, _, _]) (s1 := []) [_, _] [] .ro rfl rfl Try.call18 rfl rfl (make_Mod_c (G := G12995) List.mem_cons_self  hu13023) rfl (fun v13026 bo so h13025 => ?_)
                        obtain ⟨rfl, rfl, rfl⟩ := h13025
                        refine Cov.same (bl' := [_, _, _, _, _]) (sl' := [_, _, _]) rfl rfl rfl ?_
                        refine Cov.lit [_, _] [(0, _), (1, _)] .ro sl22 ty3 rfl rfl rfl rfl rfl rfl (fun b13027 hb13027 => ?_)
                        have o13028 : OL (Rep.int .i64) G12995 [.int .i64 x3, .int .i64 u13023] ([x3, u13023] : List Int) := ((OL.cons rfl (Rep.intI .i64 x3) (OL.cons rfl (Rep.intI .i64 u13023) (OL.nil (Rp' := (Rep.int .i64))))) :)
                        refine Cov.reval 195 (n' := ([x3, u13023] : List Int).length) rfl rfl ?_
                        refine Cov.q .ro (.len_sl rfl rfl sl22) rfl ?_
                        refine Cov.q .ro (.move rfl) rfl ?_
                        refine Cov.region_end ?_
                        refine Cov.block ?_
                        refine Cov.pull 4 rfl [_, _, _, _, _] rfl ?_
                        refine Cov.pull 4 rfl [_, _, _, _, _] rfl ?_
                        refine Cov.pull 4 rfl [_, _, _, _, _] rfl ?_
                        refine Cov.pull 4 rfl [_, _, _, _, _] rfl ?_
                        refine Cov.pull 4 rfl [_, _, _, _, _] rfl ?_
                        refine Cov.loop2 (α := Nat × List Int × Int × Int × Int × Int × Int) (fun y => [(197, .int .i64 (y.1 : Int))]) [(148, _), (118, _), (21, _), (2, _), (3, _), (4, _), (5, _), (20, _), (18, _), (19, _), (116, _), (117, _), (25, _), (146, _), (147, _), (31, _), (195, _), (196, _)] (fun y => []) (fun y => [(b12042, .cells #[.int .i64 y.2.2.1] 24 (0, 0)), (b76, .cells #[.slice a8271 v8270.length k8272, .int .i64 y.2.2.2.1] 69 (0, 0)), (b101, .cells #[.int .i64 y.2.2.2.2.1, .slice a94 u80.2.2.2.1.2.length k95] 34 (0, 0)), (b100, .cells #[.int .i64 y.2.2.2.2.2.1] 24 (0, 0)), (b1, .cells #[.int .i64 y.2.2.2.2.2.2] 24 (0, 0))]) [] (fun y => []) [_, _, _, _] (fun y => List.drop y.1 ([x3, u13023] : List Int) = y.2.1 ∧ law13_LayoutDoes_L2 (law13_LayoutDoes_L5 (law13_LayoutDoes_L6 v8264 x2 x3 x4 x5 u80.2.1 u80.2.2.1 xs12038) v8264 x3 x4 x5 u80.2.1 u80.2.2.1 xs12794) v8264 x5 u80.2.2.1 x12793 y.2.1 y.2.2.1 y.2.2.2.1 y.2.2.2.2.1 y.2.2.2.2.2.1 y.2.2.2.2.2.2 = some r) (fun y => y.2.1.length) (0, ([x3, u13023] : List Int), v12999, v13000, v13001, v13002, v13003) ⟨rfl, r13024⟩ ⟨rfl, rfl, rfl, rfl, rfl, rfl, rfl, rfl, rfl, rfl, rfl, rfl, rfl, rfl, rfl, rfl, rfl, rfl, rfl, trivial⟩ rfl rfl rfl (fun y hI hb13160 => ?_)
                        obtain ⟨i13151, w13152, v13154, v13155, v13156, v13157, v13158⟩ := y
                        obtain ⟨g13153, r13159⟩ := hI
                        try dsimp only at g13153 r13159
                        refine Cov.prune [(197, .int .i64 (i13151 : Int)), (148, _), (118, _), (21, _), (2, _), (3, _), (4, _), (5, _), (20, _), (18, _), (19, _), (116, _), (117, _), (25, _), (146, _), (147, _), (31, _), (195, _), (196, _)] ⟨rfl, rfl, rfl, rfl, rfl, rfl, rfl, rfl, rfl, rfl, rfl, rfl, rfl, rfl, rfl, rfl, rfl, rfl, rfl, trivial⟩ ?_
                        refine Cov.same (bl' := [(b12042, .cells #[.int .i64 v13154] 24 (0, 0)), (b76, .cells #[.slice a8271 v8270.length k8272, .int .i64 v13155] 69 (0, 0)), (b101, .cells #[.int .i64 v13156, .slice a94 u80.2.2.2.1.2.length k95] 34 (0, 0)), (b100, .cells #[.int .i64 v13157] 24 (0, 0)), (b1, .cells #[.int .i64 v13158] 24 (0, 0))]) (sl' := [_, _, _, _]) (Fs' := G12995 :: Fs) rfl rfl rfl ?_
                        cases w13152 with
                        | nil =>
                          rw [law13_LayoutDoes_L2] at r13159; try dsimp only at r13159
                          refine Cov.seq ?_
                          refine Cov.region rfl ?_
                          refine Cov.q .ro (.lss rfl rfl) rfl ?_
                          refine Cov.region_end ?_
                          refine Cov.seq ?_
                          refine Cov.cond_dec rfl (fun c => absurd c (drop_nil g13153)) (fun _ => ?_)
                          refine Cov.exit rfl ?_
                          refine Cov.inBlock ?_
                          refine Cov.region rfl ?_
                          refine Cov.q .ro (.addw rfl rfl) rfl ?_
                          refine Cov.q .ro (.move rfl) rfl ?_
                          refine Cov.region_end ?_
                          refine Cov.drop 0 2 _ [_, _] rfl rfl ?_
                          refine Cov.prune _ ?_ (Cov.same rfl rfl rfl (hb12777 ((i12764 + 1), xs12794, G12995, v13154, v13155, v13156, v13157, v13158) ⟨(HpLe.trans e12768 e12996), B12997, (drop_succ g12766), r13159⟩ (Nat.lt_succ_self _)))
                          exact ⟨(congrArg (fun z => some (Value.int .i64 z)) (idx_wrap (OL.len' o12063) g12766)), rfl, rfl, rfl, rfl, rfl, rfl, rfl, rfl, rfl, rfl, rfl, rfl, rfl, rfl, trivial⟩
                        | cons x13181 xs13182 =>
                          have r13180 : law13_LayoutDoes_B2 (law13_LayoutDoes_L5 (law13_LayoutDoes_L6 v8264 x2 x3 x4 x5 u80.2.1 u80.2.2.1 xs12038) v8264 x3 x4 x5 u80.2.1 u80.2.2.1 xs12794) v8264 x5 u80.2.2.1 x12793 (law13_LayoutDoes_L2 (law13_LayoutDoes_L5 (law13_LayoutDoes_L6 v8264 x2 x3 x4 x5 u80.2.1 u80.2.2.1 xs12038) v8264 x3 x4 x5 u80.2.1 u80.2.2.1 xs12794) v8264 x5 u80.2.2.1 x12793 xs13182) x13181 v13154 v13155 v13156 v13157 v13158 = some r := r13159; clear r13159; unfold law13_LayoutDoes_B2 at r13180; try dsimp only at r13180
                          refine Cov.seq ?_
                          refine Cov.region rfl ?_
                          refine Cov.q .ro (.lss rfl rfl) rfl ?_
                          refine Cov.region_end ?_
                          refine Cov.seq ?_
                          refine Cov.cond_dec rfl (fun _ => ?_) (fun c => absurd (drop_lt g13153) c)
                          refine Cov.skip ?_
                          refine Cov.seq ?_
                          refine Cov.block ?_
                          refine Cov.seq ?_
                          refine Cov.region rfl ?_
                          obtain ⟨c13183, p13184, h13185⟩ := OL.get o13028 (drop_idx g13153)
                          obtain rfl := h13185
                          refine Cov.q .ro (.idxO 0 rfl rfl rfl (drop_idx g13153) sl22 ty3.sz) rfl ?_
                          refine Cov.q .ro (.loadO 0 0 rfl (drop_idx g13153) p13184 rfl (.inl ⟨rfl, rfl⟩) ty3 rfl) rfl ?_
                          refine Cov.q .ro (.assign rfl) rfl ?_
                          refine Cov.region_end ?_
                          refine Cov.seq ?_
                          refine Cov.drawL (.q 0 (.q 1 (.q 2 (.q 3 (.q 4 (.q 5 (.q 6 (.q 7 (.q 8 (.q 9 (.q 10 (.q 11 (.q 12 (.q 15 (.e 13 1 (.q 14 .nil)))))))))))))))) [_, _, _, _, _] (by kernel_rfl) (by kernel_rfl) (pick_mem [0, 1, 2, 3, 4] rfl) ?_
                          refine Cov.dq (.move rfl) rfl ?_
                          refine Cov.dq (.move rfl) rfl ?_
                          refine Cov.dq (.move rfl) rfl ?_
                          refine Cov.dq (.move rfl) rfl ?_
                          refine Cov.dq (.move rfl) rfl ?_
                          refine Cov.dq (.len_sl rfl rfl sl26) rfl ?_
                          refine Cov.dq (.min2 rfl rfl) rfl ?_
                          obtain ⟨u13186, hu13186, r13187⟩ := bind_some r13180; clear r13180
                          obtain ⟨a13188, k13189, h13190, s13191⟩ := SlR.sub (SlR.mono (HpLe.trans (HpLe.trans (HpLe.trans (HpLe.trans e8261 e10562) e12016) e12768) e12996) s93) hu13186
                          refine Cov.dq (.sliceR (SlR.mono (HpLe.trans (HpLe.trans (HpLe.trans (HpLe.trans e8261 e10562) e12016) e12768) e12996) s93) rfl hu13186 sl26 ty22.sz (fun _ => .no) (fun h => .yes' rfl h) h13190) rfl ?_
                          refine Cov.dq (.move rfl) rfl ?_
                          refine Cov.dq (.move rfl) rfl ?_
                          refine Cov.dq (.len_sl rfl rfl sl26) rfl ?_
                          refine Cov.dq (.min2 rfl rfl) rfl ?_
                          obtain ⟨u13192, hu13192, r13193⟩ := bind_some r13187; clear r13187
                          obtain ⟨a13194, k13195, h13196, s13197⟩ := SlR.sub (SlR.mono (HpLe.trans (HpLe.trans e12016 e12768) e12996) s10564) hu13192
                          refine Cov.dq (.sliceR (SlR.mono (HpLe.trans (HpLe.trans e12016 e12768) e12996) s10564) rfl hu13192 sl26 ty22.sz (fun _ => .no) (fun h => .yes' rfl h) h13196) rfl ?_
                          refine Cov.dq (.move rfl) rfl ?_
                          refine Cov.lit [_, _, _, _, _] [(0, _), (1, _), (2, _), (3, _), (4, _)] .d1 sl48 ty26 rfl rfl rfl rfl rfl rfl (fun b13198 hb13198 => ?_)
                          have o13199 : OL (Rep.sl (Rep.sl (Rep.int .i64))) G12995 [.slice a5 x5.length k5, .slice a91 u80.2.2.1.length k92, .slice a8265 v8264.length k8266, .slice a13188 u13186.length k13189, .slice a13194 u13192.length k13195] ([x5, u80.2.2.1, v8264, u13186, u13192] : List (List (List Int))) := ((OL.cons rfl (Rep.slI (SlR.mono (HpLe.trans (HpLe.trans (HpLe.trans (HpLe.trans (HpLe.trans e85 e8261) e10562) e12016) e12768) e12996) s5)) (OL.cons rfl (Rep.slI (SlR.mono (HpLe.trans (HpLe.trans (HpLe.trans (HpLe.trans e8261 e10562) e12016) e12768) e12996) s93)) (OL.cons rfl (Rep.slI (SlR.mono (HpLe.trans (HpLe.trans e12016 e12768) e12996) s10564)) (OL.cons rfl (Rep.slI s13191) (OL.cons rfl (Rep.slI s13197) (OL.nil (Rp' := (Rep.sl (Rep.sl (Rep.int .i64)))))))))) :)
                          refine Cov.reval 214 (n' := ([x5, u80.2.2.1, v8264, u13186, u13192] : List (List (List Int))).length) rfl rfl ?_
                          refine Cov.clsL (HpLe.refl _) (pick_mem [0, 1, 2, 3, 4] rfl) ?_
                          refine Cov.dq (.len_sl rfl rfl sl48) rfl ?_
                          refine Cov.draw_end ?_
                          refine Cov.prune [(197, _), (148, _), (118, _), (21, _), (2, _), (3, _), (4, _), (5, _), (20, _), (18, _), (19, _), (116, _), (117, _), (25, _), (146, _), (147, _), (31, _), (195, _), (196, _), (41, _), (216, _), (214, _), (215, _)] ⟨rfl, rfl, rfl, rfl, rfl, rfl, rfl, rfl, rfl, rfl, rfl, rfl, rfl, rfl, rfl, rfl, rfl, rfl, rfl, rfl, rfl, rfl, rfl, trivial⟩ ?_
                          refine Cov.block ?_
                          refine Cov.loop2 (α := Nat × List (List (List Int))) (fun y => [(216, .int .i64 (y.1 : Int))]) [(197, _), (148, _), (118, _), (21, _), (2, _), (3, _), (4, _), (5, _), (20, _), (18, _), (19, _), (116, _), (117, _), (25, _), (146, _), (147, _), (31, _), (195, _), (196, _), (41, _), (214, _), (215, _)] (fun y => []) (fun y => []) [_, _, _, _, _] (fun y => []) [_, _, _, _, _] (fun y => List.drop y.1 ([x5, u80.2.2.1, v8264, u13186, u13192] : List (List (List Int))) = y.2 ∧ law13_LayoutDoes_L1 (law13_LayoutDoes_L2 (law13_LayoutDoes_L5 (law13_LayoutDoes_L6 v8264 x2 x3 x4 x5 u80.2.1 u80.2.2.1 xs12038) v8264 x3 x4 x5 u80.2.1 u80.2.2.1 xs12794) v8264 x5 u80.2.2.1 x12793 xs13182) x12793 x13181 v13154 v13155 v13156 v13157 v13158 y.2  = some r) (fun y => y.2.length) (0, ([x5, u80.2.2.1, v8264, u13186, u13192] : List (List (List Int)))) ⟨rfl, r13193⟩ ⟨rfl, rfl, rfl, rfl, rfl, rfl, rfl, rfl, rfl, rfl, rfl, rfl, rfl, rfl, rfl, rfl, rfl, rfl, rfl, rfl, rfl, rfl, rfl, trivial⟩ rfl rfl rfl (fun y hI hb13239 => ?_)
                          obtain ⟨i13235, w13236⟩ := y
                          obtain ⟨g13237, r13238⟩ := hI
                          try dsimp only at g13237 r13238
                          refine Cov.prune [(216, .int .i64 (i13235 : Int)), (197, _), (148, _), (118, _), (21, _), (2, _), (3, _), (4, _), (5, _), (20, _), (18, _), (19, _), (116, _), (117, _), (25, _), (146, _), (147, _), (31, _), (195, _), (196, _), (41, _), (214, _), (215, _)] ⟨rfl, rfl, rfl, rfl, rfl, rfl, rfl, rfl, rfl, rfl, rfl, rfl, rfl, rfl, rfl, rfl, rfl, rfl, rfl, rfl, rfl, rfl, rfl, trivial⟩ ?_
                          refine Cov.same (bl' := [_, _, _, _, _]) (sl' := [_, _, _, _, _]) (Fs' := G12995 :: Fs) rfl rfl rfl ?_
                          cases w13236 with
                          | nil =>
                            rw [law13_LayoutDoes_L1] at r13238; try dsimp only at r13238
                            refine Cov.seq ?_
                            refine Cov.region rfl ?_
                            refine Cov.q .ro (.lss rfl rfl) rfl ?_
                            refine Cov.region_end ?_
                            refine Cov.seq ?_
                            refine Cov.cond_dec rfl (fun c => absurd c (drop_nil g13237)) (fun _ => ?_)
                            refine Cov.exit rfl ?_
                            refine Cov.inBlock ?_
                            refine Cov.region rfl ?_
                            refine Cov.q .ro (.addw rfl rfl) rfl ?_
                            refine Cov.q .ro (.move rfl) rfl ?_
                            refine Cov.region_end ?_
                            refine Cov.drop 0 1 _ [_, _, _, _] rfl rfl ?_
                            refine Cov.prune _ ?_ (Cov.same rfl rfl rfl (hb13160 ((i13151 + 1), xs13182, v13154, v13155, v13156, v13157, v13158) ⟨(drop_succ g13153), r13238⟩ (Nat.lt_succ_self _)))
                            exact ⟨(congrArg (fun z => some (Value.int .i64 z)) (idx_wrap (OL.len' o13028) g13153)), rfl, rfl, rfl, rfl, rfl, rfl, rfl, rfl, rfl, rfl, rfl, rfl, rfl, rfl, rfl, rfl, rfl, rfl, trivial⟩
                          | cons x13269 xs13270 =>
                            have r13268 : law13_LayoutDoes_B1 (law13_LayoutDoes_L2 (law13_LayoutDoes_L5 (law13_LayoutDoes_L6 v8264 x2 x3 x4 x5 u80.2.1 u80.2.2.1 xs12038) v8264 x3 x4 x5 u80.2.1 u80.2.2.1 xs12794) v8264 x5 u80.2.2.1 x12793 xs13182) x12793 x13181 v13154 v13155 v13156 v13157 v13158 (law13_LayoutDoes_L1 (law13_LayoutDoes_L2 (law13_LayoutDoes_L5 (law13_LayoutDoes_L6 v8264 x2 x3 x4 x5 u80.2.1 u80.2.2.1 xs12038) v8264 x3 x4 x5 u80.2.1 u80.2.2.1 xs12794) v8264 x5 u80.2.2.1 x12793 xs13182) x12793 x13181 v13154 v13155 v13156 v13157 v13158 xs13270) x13269  = some r := r13238; clear r13238; unfold law13_LayoutDoes_B1 at r13268; try dsimp only at r13268
                            refine Cov.seq ?_
                            refine Cov.region rfl ?_
                            refine Cov.q .ro (.lss rfl rfl) rfl ?_
                            refine Cov.region_end ?_
                            refine Cov.seq ?_
                            refine Cov.cond_dec rfl (fun _ => ?_) (fun c => absurd (drop_lt g13237) c)
                            refine Cov.skip ?_
                            refine Cov.seq ?_
                            refine Cov.block ?_
                            refine Cov.seq ?_
                            refine Cov.region rfl ?_
                            obtain ⟨c13271, p13272, h13273⟩ := OL.get o13199 (drop_idx g13237)
                            obtain ⟨a13274, k13275, rfl, s13276⟩ := h13273
                            refine Cov.q .ro (.idxO 0 rfl rfl rfl (drop_idx g13237) sl48 ty26.sz) rfl ?_
                            refine Cov.q .ro (.loadO 0 0 rfl (drop_idx g13237) p13272 rfl (.inl ⟨rfl, rfl⟩) ty26 rfl) rfl ?_
                            refine Cov.q .ro (.assign rfl) rfl ?_
                            refine Cov.region_end ?_
                            refine Cov.seq ?_
                            refine Cov.region rfl ?_
                            refine Cov.q .ro (.load_own_a 0 [_] rfl rfl ty24 rfl) rfl ?_
                            refine Cov.q .ro (.move rfl) rfl ?_
                            refine Cov.q .ro (.move rfl) rfl ?_
                            refine Cov.q .ro (.move rfl) rfl ?_
                            obtain ⟨u13277, hu13277, r13278⟩ := bind_some r13268; clear r13268
                            refine Cov.callS (b1 := []) (b2 := [_, _, _, _, _]) (s1 := []) [_, _, _, _] [] .ro rfl rfl Try.call23 rfl rfl (layout_Decode_c (G := G12995) List.mem_cons_self s13276 hu13277) rfl (fun v13280 bo so h13279 => ?_)
                            obtain ⟨rfl, rfl, rfl⟩ := h13279
                            refine Cov.same (bl' := [_, _, _, _, _]) (sl' := [_, _, _, _, _]) rfl rfl rfl ?_
                            refine Cov.q .ro (.move rfl) rfl ?_
                            refine Cov.q .ro (.extract rfl rfl) rfl ?_
                            refine Cov.q .ro (.extract rfl rfl) rfl ?_
                            refine Cov.q .ro (.assign rfl) rfl ?_
                            refine Cov.q .ro (.assign rfl) rfl ?_
                            refine Cov.region_end ?_
                            refine Cov.seq ?_
                            refine Cov.region rfl ?_
                            refine Cov.q .ro (.load_own_a 0 [_] rfl rfl ty24 rfl) rfl ?_
                            refine Cov.q .ro (.move rfl) rfl ?_
                            refine Cov.q .ro (.move rfl) rfl ?_
                            refine Cov.q .ro (.move rfl) rfl ?_
                            obtain ⟨u13281, hu13281, r13282⟩ := bind_some r13278; clear r13278
                            refine Cov.callS (b1 := []) (b2 := [_, _, _, _, _]) (s1 := []) [_, _, _, _] [] .ro rfl rfl Try.call24 rfl rfl (ref13_Decode_c (G := G12995) List.mem_cons_self s13276 hu13281) rfl (fun v13284 bo so h13283 => ?_)
                            obtain ⟨rfl, rfl, rfl⟩ := h13283
                            refine Cov.same (bl' := [_, _, _, _, _]) (sl' := [_, _, _, _, _]) rfl rfl rfl ?_
                            refine Cov.q .ro (.move rfl) rfl ?_
                            refine Cov.q .ro (.extract rfl rfl) rfl ?_
                            refine Cov.q .ro (.extract rfl rfl) rfl ?_
                            refine Cov.q .ro (.assign rfl) rfl ?_
                            refine Cov.q .ro (.assign rfl) rfl ?_
                            refine Cov.region_end ?_
                            refine Cov.prune [(216, _), (197, _), (148, _), (118, _), (21, _), (2, _), (3, _), (4, _), (5, _), (20, _), (18, _), (19, _), (116, _), (117, _), (25, _), (146, _), (147, _), (31, _), (195, _), (196, _), (41, _), (214, _), (215, _), (44, _), (45, _), (46, _), (47, _)] ⟨rfl, rfl, rfl, rfl, rfl, rfl, rfl, rfl, rfl, rfl, rfl, rfl, rfl, rfl, rfl, rfl, rfl, rfl, rfl, rfl, rfl, rfl, rfl, rfl, rfl, rfl, rfl, trivial⟩ ?_
                            refine Cov.seq ?_
                            refine Cov.region rfl ?_
                            refine Cov.q .ro (.move rfl) rfl ?_
                            refine Cov.q .ro (.move rfl) rfl ?_
                            refine Cov.q .ro (.neq_s rfl rfl) rfl ?_
                            refine Cov.q .ro (.move rfl) rfl ?_
                            refine Cov.cutR 4 (β := Unit) (fun y => [(243, .bool (decide ((u13277.1 ≠ u13281.1) ∨ (u13277.2 ≠ u13281.2))))]) [(216, _), (197, _), (148, _), (118, _), (21, _), (2, _), (3, _), (4, _), (5, _), (20, _), (18, _), (19, _), (116, _), (117, _), (25, _), (146, _), (147, _), (31, _), (195, _), (196, _), (41, _), (214, _), (215, _)] (fun y => G12995 :: Fs) (fun y => []) [_, _, _, _, _] (fun y => []) [_, _, _, _, _] (fun y => True) ⟨rfl, rfl, rfl, rfl, rfl, rfl, rfl, rfl, rfl, rfl, rfl, rfl, rfl, rfl, rfl, rfl, rfl, rfl, rfl, rfl, rfl, rfl, rfl, trivial⟩ [0, 1, 2, 3, 4] rfl [0, 1, 2, 3, 4] rfl ?_ ?_
                            · rintro _ _
                              refine Cov.prune [(243, .bool (decide ((u13277.1 ≠ u13281.1) ∨ (u13277.2 ≠ u13281.2)))), (216, _), (197, _), (148, _), (118, _), (21, _), (2, _), (3, _), (4, _), (5, _), (20, _), (18, _), (19, _), (116, _), (117, _), (25, _), (146, _), (147, _), (31, _), (195, _), (196, _), (41, _), (214, _), (215, _)] ⟨rfl, rfl, rfl, rfl, rfl, rfl, rfl, rfl, rfl, rfl, rfl, rfl, rfl, rfl, rfl, rfl, rfl, rfl, rfl, rfl, rfl, rfl, rfl, rfl, trivial⟩ ?_
                              refine Cov.same (bl' := [_, _, _, _, _]) (sl' := [_, _, _, _, _]) (Fs' := G12995 :: Fs) rfl rfl rfl ?_
                              refine Cov.region_end ?_
                              refine Cov.cond_dec rfl (fun c13289 => ?_) (fun c13289 => ?_)
                              · have r13290 := ifT r13282 c13289; clear r13282
                                refine Cov.seq ?_
                                refine Cov.region rfl ?_
                                refine Cov.q .ro (.assign rfl) rfl ?_
                                refine Cov.region_end ?_
                                refine Cov.prune [(12, _)] ⟨rfl, trivial⟩ ?_
                                cases r13290
                                refine Cov.drop 5 0 [] _ rfl rfl ?_
                                refine Cov.drop 0 5 _ [] rfl rfl ?_
                                refine Cov.retS (c := ⟨3, none⟩) (.inr ⟨_, rfl⟩) [.tmp 12] [_] rfl Try.func3 Try.results3 ⟨RV.tmp rfl, trivial⟩ (fun _ h => List.mem_cons_of_mem _ h) ⟨rfl, rfl, rfl⟩
                              · have r13291 := ifF r13282 c13289; clear r13282
                                refine Cov.skip ?_
                                refine Cov.inBlock ?_
                                refine Cov.region rfl ?_
                                refine Cov.q .ro (.addw rfl rfl) rfl ?_
                                refine Cov.q .ro (.move rfl) rfl ?_
                                refine Cov.region_end ?_
                                refine Cov.prune _ ?_ (Cov.same rfl rfl rfl (hb13239 ((i13235 + 1), xs13270) ⟨(drop_succ g13237), r13291⟩ (Nat.lt_succ_self _)))
                                exact ⟨(congrArg (fun z => some (Value.int .i64 z)) (idx_wrap (OL.len' o13199) g13237)), rfl, rfl, rfl, rfl, rfl, rfl, rfl, rfl, rfl, rfl, rfl, rfl, rfl, rfl, rfl, rfl, rfl, rfl, rfl, rfl, rfl, rfl, trivial⟩
                            · intro hb13286
                              refine Cov.split 239 rfl (fun c13285 => ?_) (fun c13285 => ?_)
                              · refine Cov.g_off rfl rfl rfl ?_
                                refine Cov.g_off rfl rfl rfl ?_
                                refine Cov.g_off rfl rfl rfl ?_
                                refine Cov.q .ro (.pick_t rfl rfl) rfl ?_
                                refine Cov.prune _ ?_ (Cov.same rfl rfl rfl (hb13286 () trivial))
                                exact ⟨dor_t c13285, rfl, rfl, rfl, rfl, rfl, rfl, rfl, rfl, rfl, rfl, rfl, rfl, rfl, rfl, rfl, rfl, rfl, rfl, rfl, rfl, rfl, rfl, rfl, trivial⟩
                              · refine Cov.g_on rfl ?_
                                refine Cov.q .ro (.move rfl) rfl ?_
                                refine Cov.g_on rfl ?_
                                refine Cov.q .ro (.move rfl) rfl ?_
                                refine Cov.g_on rfl ?_
                                refine Cov.q .ro (.neq rfl rfl) rfl ?_
                                refine Cov.q .ro (.pick_f rfl rfl) rfl ?_
                                refine Cov.prune _ ?_ (Cov.same rfl rfl rfl (hb13286 () trivial))
                                exact ⟨dor_f c13285, rfl, rfl, rfl, rfl, rfl, rfl, rfl, rfl, rfl, rfl, rfl, rfl, rfl, rfl, rfl, rfl, rfl, rfl, rfl, rfl, rfl, rfl, rfl, trivial⟩
                      · intro hb13292
                        refine Cov.block ?_
                        refine Cov.loop2 (α := Nat × List (List ByteArray) × Hp) (fun y => [(156, .int .i64 (y.1 : Int))]) [(148, _), (118, _), (21, _), (2, _), (3, _), (4, _), (5, _), (20, _), (18, _), (19, _), (116, _), (117, _), (25, _), (146, _), (147, _), (31, _), (154, _), (155, _)] (fun y => [y.2.2]) (fun y => []) [_, _, _, _, _] (fun y => []) [_, _, _] (fun y => HpLe G12767 y.2.2 ∧ Bd w0 S0 Fs y.2.2 ∧ List.drop y.1 ([x4, u80.2.1] : List (List ByteArray)) = y.2.1 ∧ law13_LayoutDoes_L4 (law13_LayoutDoes_J3 (law13_LayoutDoes_L5 (law13_LayoutDoes_L6 v8264 x2 x3 x4 x5 u80.2.1 u80.2.2.1 xs12038) v8264 x3 x4 x5 u80.2.1 u80.2.2.1 xs12794) v8264 x3 x5 u80.2.2.1 x12793) x12793 v12771 v12772 v12773 v12774 v12775 y.2.1  = some r) (fun y => y.2.1.length) (0, ([x4, u80.2.1] : List (List ByteArray)), G12767) ⟨(HpLe.refl _), B12769, rfl, r12792⟩ ⟨rfl, rfl, rfl, rfl, rfl, rfl, rfl, rfl, rfl, rfl, rfl, rfl, rfl, rfl, rfl, rfl, rfl, rfl, rfl, trivial⟩ rfl rfl rfl (fun y hI hb13387 => ?_)
                        obtain ⟨i13379, w13380, G13382⟩ := y
                        obtain ⟨e13383, B13384, g13381, r13386⟩ := hI
                        try dsimp only at e13383 B13384 g13381 r13386
                        refine Cov.prune [(156, .int .i64 (i13379 : Int)), (148, _), (118, _), (21, _), (2, _), (3, _), (4, _), (5, _), (20, _), (18, _), (19, _), (116, _), (117, _), (25, _), (146, _), (147, _), (31, _), (154, _), (155, _)] ⟨rfl, rfl, rfl, rfl, rfl, rfl, rfl, rfl, rfl, rfl, rfl, rfl, rfl, rfl, rfl, rfl, rfl, rfl, rfl, trivial⟩ ?_
                        refine Cov.same (bl' := [_, _, _, _, _]) (sl' := [_, _, _]) (Fs' := G13382 :: Fs) rfl rfl rfl ?_
                        cases w13380 with
                        | nil =>
                          rw [law13_LayoutDoes_L4] at r13386; try dsimp only at r13386
                          refine Cov.seq ?_
                          refine Cov.region rfl ?_
                          refine Cov.q .ro (.lss rfl rfl) rfl ?_
                          refine Cov.region_end ?_
                          refine Cov.seq ?_
                          refine Cov.cond_dec rfl (fun c => absurd c (drop_nil g13381)) (fun _ => ?_)
                          refine Cov.exit rfl ?_
                          refine Cov.prune _ ?_ (Cov.same rfl rfl rfl (hb13292 (G13382, v12771, v12772, v12773, v12774, v12775) ⟨e13383, B13384, r13386⟩))
                          exact ⟨rfl, rfl, rfl, rfl, rfl, rfl, rfl, rfl, rfl, rfl, rfl, rfl, rfl, rfl, rfl, rfl, trivial⟩
                        | cons x13412 xs13413 =>
                          have r13411 : law13_LayoutDoes_B4 (law13_LayoutDoes_J3 (law13_LayoutDoes_L5 (law13_LayoutDoes_L6 v8264 x2 x3 x4 x5 u80.2.1 u80.2.2.1 xs12038) v8264 x3 x4 x5 u80.2.1 u80.2.2.1 xs12794) v8264 x3 x5 u80.2.2.1 x12793) x12793 v12771 v12772 v12773 v12774 v12775 (law13_LayoutDoes_L4 (law13_LayoutDoes_J3 (law13_LayoutDoes_L5 (law13_LayoutDoes_L6 v8264 x2 x3 x4 x5 u80.2.1 u80.2.2.1 xs12038) v8264 x3 x4 x5 u80.2.1 u80.2.2.1 xs12794) v8264 x3 x5 u80.2.2.1 x12793) x12793 v12771 v12772 v12773 v12774 v12775 xs13413) x13412  = some r := r13386; clear r13386; unfold law13_LayoutDoes_B4 at r13411; try dsimp only at r13411
                          refine Cov.seq ?_
                          refine Cov.region rfl ?_
                          refine Cov.q .ro (.lss rfl rfl) rfl ?_
                          refine Cov.region_end ?_
                          refine Cov.seq ?_
                          refine Cov.cond_dec rfl (fun _ => ?_) (fun c => absurd (drop_lt g13381) c)
                          refine Cov.skip ?_
                          refine Cov.seq ?_
                          refine Cov.block ?_
                          refine Cov.seq ?_
                          refine Cov.region rfl ?_
                          obtain ⟨c13414, p13415, h13416⟩ := OL.get (OL.mono e13383 o12799) (drop_idx g13381)
                          obtain ⟨a13417, k13418, rfl, s13419⟩ := h13416
                          refine Cov.q .ro (.idxO 0 rfl rfl rfl (drop_idx g13381) sl43 ty25.sz) rfl ?_
                          refine Cov.q .ro (.loadO 0 0 rfl (drop_idx g13381) p13415 rfl (.inl ⟨rfl, rfl⟩) ty25 rfl) rfl ?_
                          refine Cov.q .ro (.assign rfl) rfl ?_
                          refine Cov.region_end ?_
                          refine Cov.seq ?_
                          refine Cov.region rfl ?_
                          refine Cov.q .ro (.load_own_a 0 [_] rfl rfl ty24 rfl) rfl ?_
                          refine Cov.q .ro (.move rfl) rfl ?_
                          refine Cov.q .ro (.move rfl) rfl ?_
                          obtain ⟨u13420, hu13420, r13421⟩ := bind_some r13411; clear r13411
                          refine Cov.callW (b1 := []) (b2 := [_, _, _, _, _]) (s1 := []) [_, _, _] [] .ro rfl rfl Try.call19 rfl rfl (layout_Encode_c (G := G13382) List.mem_cons_self s13419 hu13420) rfl B13384 (fun v13423 bo so G13424 e13425 B13426 h13422 => ?_)
                          obtain ⟨a13428, k13429, a13431, k13432, rfl, rfl, rfl, s13430, s13433⟩ := h13422
                          refine Cov.same (bl' := [_, _, _, _, _]) (sl' := [_, _, _]) rfl rfl rfl ?_
                          refine Cov.q .ro (.move rfl) rfl ?_
                          refine Cov.q .ro (.extract rfl rfl) rfl ?_
                          refine Cov.q .ro (.extract rfl rfl) rfl ?_
                          refine Cov.q .ro (.extract rfl rfl) rfl ?_
                          refine Cov.alloc .ro ty34 rfl (fun b13434 hb13434 => ?_)
                          refine Cov.q .ro (.assign rfl) rfl ?_
                          refine Cov.store 0 [_, _] [_, _, _, _, _, _] .ro rfl rfl rfl ty34 rfl rfl rfl rfl ?_
                          refine Cov.q .ro (.assign rfl) rfl ?_
                          refine Cov.region_end ?_
                          refine Cov.seq ?_
                          refine Cov.region rfl ?_
                          refine Cov.q .ro (.load_own_a 1 [_] rfl rfl ty24 rfl) rfl ?_
                          refine Cov.q .ro (.move rfl) rfl ?_
                          refine Cov.q .ro (.move rfl) rfl ?_
                          obtain ⟨u13435, hu13435, r13436⟩ := bind_some r13421; clear r13421
                          refine Cov.callW (b1 := []) (b2 := [_, _, _, _, _, _]) (s1 := []) [_, _, _] [] .ro rfl rfl Try.call20 rfl rfl (ref13_Encode_c (G := G13424) List.mem_cons_self (SlR.mono e13425 s13419) hu13435) rfl B13426 (fun v13438 bo so G13439 e13440 B13441 h13437 => ?_)
                          obtain ⟨a13443, k13444, a13446, k13447, rfl, rfl, rfl, s13445, s13448⟩ := h13437
                          refine Cov.same (bl' := [_, _, _, _, _, _]) (sl' := [_, _, _]) rfl rfl rfl ?_
                          refine Cov.q .ro (.move rfl) rfl ?_
                          refine Cov.q .ro (.extract rfl rfl) rfl ?_
                          refine Cov.q .ro (.extract rfl rfl) rfl ?_
                          refine Cov.q .ro (.extract rfl rfl) rfl ?_
                          refine Cov.alloc .ro ty34 rfl (fun b13449 hb13449 => ?_)
                          refine Cov.q .ro (.assign rfl) rfl ?_
                          refine Cov.store 0 [_, _] [_, _, _, _, _, _, _] .ro rfl rfl rfl ty34 rfl rfl rfl rfl ?_
                          refine Cov.q .ro (.assign rfl) rfl ?_
                          refine Cov.region_end ?_
                          refine Cov.prune [(156, _), (148, _), (118, _), (21, _), (2, _), (3, _), (4, _), (5, _), (20, _), (18, _), (19, _), (116, _), (117, _), (25, _), (146, _), (147, _), (31, _), (154, _), (155, _), (35, _), (34, _), (36, _), (38, _), (37, _), (39, _)] ⟨rfl, rfl, rfl, rfl, rfl, rfl, rfl, rfl, rfl, rfl, rfl, rfl, rfl, rfl, rfl, rfl, rfl, rfl, rfl, rfl, rfl, rfl, rfl, rfl, rfl, trivial⟩ ?_
                          refine Cov.seq ?_
                          refine Cov.region rfl ?_
                          refine Cov.q .ro (.move rfl) rfl ?_
                          refine Cov.q .ro (.move rfl) rfl ?_
                          refine Cov.q .ro (.neq rfl rfl) rfl ?_
                          refine Cov.q .ro (.move rfl) rfl ?_
                          obtain ⟨u13456, h13457, r13458⟩ := bind_some r13436; clear r13436
                          refine Cov.cutR 5 (β := Unit) (fun y => [(184, .bool u13456)]) [(156, _), (148, _), (118, _), (21, _), (2, _), (3, _), (4, _), (5, _), (20, _), (18, _), (19, _), (116, _), (117, _), (25, _), (146, _), (147, _), (31, _), (154, _), (155, _), (35, _), (38, _)] (fun y => G13439 :: Fs) (fun y => []) [_, _, _, _, _, _, _] (fun y => []) [_, _, _] (fun y => True) ⟨rfl, rfl, rfl, rfl, rfl, rfl, rfl, rfl, rfl, rfl, rfl, rfl, rfl, rfl, rfl, rfl, rfl, rfl, rfl, rfl, rfl, trivial⟩ [0, 1, 2, 3, 4, 5, 6] rfl [0, 1, 2] rfl ?_ ?_
                          · rintro _ _
                            refine Cov.prune [(184, .bool u13456), (156, _), (148, _), (118, _), (21, _), (2, _), (3, _), (4, _), (5, _), (20, _), (18, _), (19, _), (116, _), (117, _), (25, _), (146, _), (147, _), (31, _), (154, _), (155, _), (35, _), (38, _)] ⟨rfl, rfl, rfl, rfl, rfl, rfl, rfl, rfl, rfl, rfl, rfl, rfl, rfl, rfl, rfl, rfl, rfl, rfl, rfl, rfl, rfl, rfl, trivial⟩ ?_
                            refine Cov.same (bl' := [_, _, _, _, _, _, _]) (sl' := [_, _, _]) (Fs' := G13439 :: Fs) rfl rfl rfl ?_
                            refine Cov.q .ro (.move rfl) rfl ?_
                            obtain ⟨u13467, h13468, r13469⟩ := bind_some r13458; clear r13458
                            refine Cov.cutR 5 (β := Unit) (fun y => [(190, .bool u13467)]) [(156, _), (148, _), (118, _), (21, _), (2, _), (3, _), (4, _), (5, _), (20, _), (18, _), (19, _), (116, _), (117, _), (25, _), (146, _), (147, _), (31, _), (154, _), (155, _)] (fun y => G13439 :: Fs) (fun y => []) [_, _, _, _, _, _, _] (fun y => []) [_, _, _] (fun y => True) ⟨rfl, rfl, rfl, rfl, rfl, rfl, rfl, rfl, rfl, rfl, rfl, rfl, rfl, rfl, rfl, rfl, rfl, rfl, rfl, trivial⟩ [0, 1, 2, 3, 4, 5, 6] rfl [0, 1, 2] rfl ?_ ?_
                            · rintro _ _
                              refine Cov.prune [(190, .bool u13467), (156, _), (148, _), (118, _), (21, _), (2, _), (3, _), (4, _), (5, _), (20, _), (18, _), (19, _), (116, _), (117, _), (25, _), (146, _), (147, _), (31, _), (154, _), (155, _)] ⟨rfl, rfl, rfl, rfl, rfl, rfl, rfl, rfl, rfl, rfl, rfl, rfl, rfl, rfl, rfl, rfl, rfl, rfl, rfl, rfl, trivial⟩ ?_
                              refine Cov.same (bl' := [_, _, _, _, _, _, _]) (sl' := [_, _, _]) (Fs' := G13439 :: Fs) rfl rfl rfl ?_
                              refine Cov.region_end ?_
                              refine Cov.cond rfl (fun c13472 => ?_) (fun c13472 => ?_)
                              · have r13473 := ifT r13469 c13472; clear r13469
                                refine Cov.seq ?_
                                refine Cov.region rfl ?_
                                refine Cov.q .ro (.assign rfl) rfl ?_
                                refine Cov.region_end ?_
                                refine Cov.prune [(12, _)] ⟨rfl, trivial⟩ ?_
                                cases r13473
                                refine Cov.drop 7 0 [] _ rfl rfl ?_
                                refine Cov.drop 0 3 _ [] rfl rfl ?_
                                refine Cov.retS (c := ⟨3, none⟩) (.inr ⟨_, rfl⟩) [.tmp 12] [_] rfl Try.func3 Try.results3 ⟨RV.tmp rfl, trivial⟩ (fun _ h => List.mem_cons_of_mem _ h) ⟨rfl, rfl, rfl⟩
                              · have r13474 := ifBF r13469 c13472; clear r13469
                                refine Cov.skip ?_
                                refine Cov.inBlock ?_
                                refine Cov.region rfl ?_
                                refine Cov.q .ro (.addw rfl rfl) rfl ?_
                                refine Cov.q .ro (.move rfl) rfl ?_
                                refine Cov.region_end ?_
                                refine Cov.drop 2 0 [_, _, _, _, _] _ rfl rfl ?_
                                refine Cov.prune _ ?_ (Cov.same rfl rfl rfl (hb13387 ((i13379 + 1), xs13413, G13439) ⟨(HpLe.trans (HpLe.trans e13383 e13425) e13440), B13441, (drop_succ g13381), r13474⟩ (Nat.lt_succ_self _)))
                                exact ⟨(congrArg (fun z => some (Value.int .i64 z)) (idx_wrap (OL.len' o12799) g13381)), rfl, rfl, rfl, rfl, rfl, rfl, rfl, rfl, rfl, rfl, rfl, rfl, rfl, rfl, rfl, rfl, rfl, rfl, trivial⟩
                            · intro hb13466
                              refine Cov.split_b 185 rfl (fun c13465 => ?_) (fun c13465 => ?_)
                              · have r13475 := ifT h13468 c13465
                                refine Cov.g_off rfl rfl rfl ?_
                                refine Cov.g_off rfl rfl rfl ?_
                                refine Cov.g_off rfl rfl rfl ?_
                                refine Cov.g_off rfl rfl rfl ?_
                                refine Cov.q .ro (.pick_t rfl rfl) rfl ?_
                                refine Cov.prune _ ?_ (Cov.same rfl rfl rfl (hb13466 () trivial))
                                exact ⟨sval r13475, rfl, rfl, rfl, rfl, rfl, rfl, rfl, rfl, rfl, rfl, rfl, rfl, rfl, rfl, rfl, rfl, rfl, rfl, rfl, trivial⟩
                              · have r13476 := ifBF h13468 c13465
                                refine Cov.g_on rfl ?_
                                refine Cov.q .ro (.load_own_a 1 [_, _] rfl rfl ty34 rfl) rfl ?_
                                refine Cov.g_on rfl ?_
                                refine Cov.q .ro (.load_own_a 0 [_, _] rfl rfl ty34 rfl) rfl ?_
                                refine Cov.g_on rfl ?_
                                obtain ⟨u13477, hu13477, r13478⟩ := bind_some r13476; clear r13476
                                refine Cov.callS (b1 := []) (b2 := [_, _, _, _, _, _, _]) (s1 := []) [_, _] [] .ro rfl rfl Try.call22 rfl rfl (ref13_Same_c (G := G13439) List.mem_cons_self (SlR.mono e13440 s13433) s13448 hu13477) rfl (fun v13480 bo so h13479 => ?_)
                                obtain ⟨rfl, rfl, rfl⟩ := h13479
                                refine Cov.same (bl' := [_, _, _, _, _, _, _]) (sl' := [_, _, _]) rfl rfl rfl ?_
                                refine Cov.g_on rfl ?_
                                refine Cov.q .ro (.not rfl) rfl ?_
                                refine Cov.q .ro (.pick_f rfl rfl) rfl ?_
                                refine Cov.prune _ ?_ (Cov.same rfl rfl rfl (hb13466 () trivial))
                                exact ⟨sval r13478, rfl, rfl, rfl, rfl, rfl, rfl, rfl, rfl, rfl, rfl, rfl, rfl, rfl, rfl, rfl, rfl, rfl, rfl, rfl, trivial⟩
                          · intro hb13455
                            refine Cov.split 179 rfl (fun c13454 => ?_) (fun c13454 => ?_)
                            · have r13481 := ifT h13457 c13454
                              refine Cov.g_off rfl rfl rfl ?_
                              refine Cov.g_off rfl rfl rfl ?_
                              refine Cov.g_off rfl rfl rfl ?_
                              refine Cov.g_off rfl rfl rfl ?_
                              refine Cov.q .ro (.pick_t rfl rfl) rfl ?_
                              refine Cov.prune _ ?_ (Cov.same rfl rfl rfl (hb13455 () trivial))
                              exact ⟨sval r13481, rfl, rfl, rfl, rfl, rfl, rfl, rfl, rfl, rfl, rfl, rfl, rfl, rfl, rfl, rfl, rfl, rfl, rfl, rfl, rfl, rfl, trivial⟩
                            · have r13482 := ifF h13457 c13454
                              refine Cov.g_on rfl ?_
                              refine Cov.q .ro (.move rfl) rfl ?_
                              refine Cov.g_on rfl ?_
                              refine Cov.q .ro (.move rfl) rfl ?_
                              refine Cov.g_on rfl ?_
                              obtain ⟨u13483, hu13483, r13484⟩ := bind_some r13482; clear r13482
                              refine Cov.callS (b1 := []) (b2 := [_, _, _, _, _, _, _]) (s1 := []) [_, _] [] .ro rfl rfl Try.call21 rfl rfl (ref04_SameRows_c (G := G13439) List.mem_cons_self (SlR.mono e13440 s13430) s13445 hu13483) rfl (fun v13486 bo so h13485 => ?_)
                              obtain ⟨rfl, rfl, rfl⟩ := h13485
                              refine Cov.same (bl' := [_, _, _, _, _, _, _]) (sl' := [_, _, _]) rfl rfl rfl ?_
                              refine Cov.g_on rfl ?_
                              refine Cov.q .ro (.not rfl) rfl ?_
                              refine Cov.q .ro (.pick_f rfl rfl) rfl ?_
                              refine Cov.prune _ ?_ (Cov.same rfl rfl rfl (hb13455 () trivial))
                              exact ⟨sval r13484, rfl, rfl, rfl, rfl, rfl, rfl, rfl, rfl, rfl, rfl, rfl, rfl, rfl, rfl, rfl, rfl, rfl, rfl, rfl, rfl, rfl, trivial⟩
                · intro hb12052
                  refine Cov.split 135 rfl (fun c12051 => ?_) (fun c12051 => ?_)
                  · refine Cov.g_off rfl rfl rfl ?_
                    refine Cov.g_off rfl rfl rfl ?_
                    refine Cov.g_off rfl rfl rfl ?_
                    refine Cov.q .ro (.pick_t rfl rfl) rfl ?_
                    refine Cov.prune _ ?_ (Cov.same rfl rfl rfl (hb12052 () trivial))
                    exact ⟨dor_t c12051, rfl, rfl, rfl, rfl, rfl, rfl, rfl, rfl, rfl, rfl, rfl, rfl, trivial⟩
                  · refine Cov.g_on rfl ?_
                    refine Cov.q .ro (.move rfl) rfl ?_
                    refine Cov.g_on rfl ?_
                    refine Cov.q .ro (.move rfl) rfl ?_
                    refine Cov.g_on rfl ?_
                    refine Cov.q .ro (.neq rfl rfl) rfl ?_
                    refine Cov.q .ro (.pick_f rfl rfl) rfl ?_
                    refine Cov.prune _ ?_ (Cov.same rfl rfl rfl (hb12052 () trivial))
                    exact ⟨dor_f c12051, rfl, rfl, rfl, rfl, rfl, rfl, rfl, rfl, rfl, rfl, rfl, rfl, trivial⟩
            · intro hb13487
              refine Cov.cond_dec rfl (fun c13488 => ?_) (fun c13488 => ?_)
              · have r13489 := ifT r108 c13488; clear r108
                refine Cov.seq ?_
                refine Cov.region rfl ?_
                refine Cov.q .ro (.move rfl) rfl ?_
                refine Cov.q .ro (.move rfl) rfl ?_
                refine Cov.q .ro (.len_sl rfl rfl sl26) rfl ?_
                obtain ⟨u13490, hu13490, r13491⟩ := bind_some r13489; clear r13489
                refine Cov.pull 2 rfl [_, _, _, _] rfl ?_
                refine Cov.callS (b1 := [_]) (b2 := [_, _, _]) (s1 := []) [_, _] [] .ro rfl rfl Try.call15 rfl rfl (make_Deck_Next_c (G := G84) List.mem_cons_self s99 hu13490) rfl (fun v13493 bo so h13492 => ?_)
                obtain ⟨a13494, k13495, rfl, rfl, rfl, s13496⟩ := h13492
                refine Cov.same (bl' := [_, _, _, _]) (sl' := [_]) rfl rfl rfl ?_
                refine Cov.q .ro (.assign rfl) rfl ?_
                refine Cov.region_end ?_
                refine Cov.seq ?_
                refine Cov.region rfl ?_
                refine Cov.q .ro (.move rfl) rfl ?_
                refine Cov.q .ro (.move rfl) rfl ?_
                obtain ⟨u13497, hu13497, r13498⟩ := bind_some r13491; clear r13491
                obtain ⟨c13499, p13500, h13501⟩ := OL.get o106 hu13497
                obtain ⟨a13502, k13503, rfl, s13504⟩ := h13501
                refine Cov.q .ro (.idxO 0 rfl rfl rfl hu13497 sl26 ty22.sz) rfl ?_
                refine Cov.q .ro (.loadO 0 0 rfl hu13497 p13500 rfl (.inl ⟨rfl, rfl⟩) ty22 rfl) rfl ?_
                refine Cov.own_nil 3 1 ?_
                obtain ⟨u13510, hu13510, r13511⟩ := bind_some r13498; clear r13498
                refine Cov.appR (Q := (Rep.int .i64)) 0 .ro sl22 ty3 rfl rfl rfl rfl rfl (OL.nil (Rp' := (Rep.int .i64))) rfl rfl s13504 rfl List.mem_cons_self hu13510 rfl (fun a13506 k13507 cs13508 o13509 => ?_)
                refine Cov.q .ro (.assign rfl) rfl ?_
                refine Cov.region_end ?_
                refine Cov.seq ?_
                refine Cov.cutG (β := List Int × Option Addr × Nat × List Value × List Int × Option Addr × Nat × Int) (fun y => [(23, .slice y.2.1 y.1.length y.2.2.1)]) [(2, _), (3, _), (4, _), (5, _), (7, _), (17, _), (20, _), (18, _), (19, _), (21, _), (22, _)] (fun y => G84 :: Fs) (fun y => [(b76, .cells #[.slice y.2.2.2.2.2.1 y.2.2.2.2.1.length y.2.2.2.2.2.2.1, .int .i64 y.2.2.2.2.2.2.2] 69 (0, 0))]) [_, _, _] (fun y => [.s (.slice y.2.1 y.1.length y.2.2.1) 3 1 y.1.length y.2.2.2.1]) [_] (fun y => OL (Rep.int .i64) G84 y.2.2.2.1 y.1 ∧ SlR (Rep.int .i64) G84 y.2.2.2.2.2.1 y.2.2.2.2.2.2.1 y.2.2.2.2.1 ∧ (law13_LayoutDoes_J8 (law13_LayoutDoes_J7 x2 x3 x4 x5 u80.2.1 u80.2.2.1 u80.2.2.2.1.1 u80.1 v42) u13490.1 u107) y.1 y.2.2.2.2.1 y.2.2.2.2.2.2.2 = some r) ⟨rfl, rfl, rfl, rfl, rfl, rfl, rfl, rfl, rfl, rfl, rfl, trivial⟩ [1, 2, 3] rfl [1] rfl ?_ ?_
                · intro y hI
                  obtain ⟨v17553, a17554, k17555, cs17556, v17559, a17560, k17561, v17563⟩ := y
                  obtain ⟨o17557, s17562, r17565⟩ := hI
                  try dsimp only at o17557 s17562 r17565
                  refine Cov.prune [(23, .slice a17554 v17553.length k17555), (2, _), (3, _), (4, _), (5, _), (7, _), (17, _), (20, _), (18, _), (19, _), (21, _), (22, _)] ⟨rfl, rfl, rfl, rfl, rfl, rfl, rfl, rfl, rfl, rfl, rfl, rfl, trivial⟩ ?_
                  refine Cov.same (bl' := [(b76, .cells #[.slice a17560 v17559.length k17561, .int .i64 v17563] 69 (0, 0)), _, _, _]) (sl' := [.s (.slice a17554 v17553.length k17555) 3 1 v17553.length cs17556, _]) (Fs' := G84 :: Fs) rfl rfl rfl ?_
                  unfold law13_LayoutDoes_J8 at r17565
                  try dsimp only at r17565
                  refine Cov.region rfl ?_
                  refine Cov.q .ro (.move rfl) rfl ?_
                  refine Cov.q .ro (.move rfl) rfl ?_
                  refine Cov.q .ro (.move rfl) rfl ?_
                  obtain ⟨u17578, hu17578, r17579⟩ := bind_some r17565; clear r17565
                  obtain ⟨c17580, p17581, h17582⟩ := OL.get o106 hu17578
                  obtain ⟨a17583, k17584, rfl, s17585⟩ := h17582
                  refine Cov.q .ro (.idxO 1 rfl rfl rfl hu17578 sl26 ty22.sz) rfl ?_
                  refine Cov.freezeR 0 rfl rfl o17557 [_] rfl B86 (fun G17586 e17587 B17588 s17589 => ?_)
                  obtain ⟨u17591, hu17591, r17592⟩ := bind_some r17579; clear r17579
                  refine Cov.storeR 0 0 (Q := (Rep.sl (Rep.int .i64))) .ro rfl rfl (OL.mono e17587 o106) hu17591 rfl (.inl ⟨rfl, rfl⟩) rfl ty22 p17581 ((Rep.slI s17589) :) rfl rfl (fun cs17593 hlcs17593 o17594 => ?_)
                  refine Cov.reval 21 hlcs17593 rfl ?_
                  refine Cov.reval 109 hlcs17593 rfl ?_
                  refine Cov.region_end ?_
                  refine Cov.prune _ ?_ (Cov.same rfl rfl rfl (hb13487 (G17586, u17591, a103, k104, cs17593, v17559, a17560, k17561, v17563) ⟨e17587, B17588, o17594, (SlR.mono e17587 s17562), r17592⟩))
                  exact ⟨rfl, rfl, rfl, rfl, rfl, rfl, rfl, rfl, rfl, rfl, trivial⟩
                · intro hb17596
                  refine Cov.drawL (.q 0 (.q 1 (.q 2 (.q 3 (.q 7 (.e 4 1 (.alt (.e 5 1 (.alt (.e 6 1 (.e 8 1 (.q 9 (.q 10 (.e 11 2 (.e 12 2 .nil)))))) (.e 8 1 (.q 9 (.e 6 1 (.q 10 (.e 11 2 (.e 12 2 .nil)))))))) (.e 8 1 (.q 9 (.e 5 1 (.e 6 1 (.q 10 (.e 11 2 (.e 12 2 .nil)))))))))))))) [_, _, _] (by kernel_rfl) (by kernel_rfl) (pick_mem [1, 2, 3] rfl) ?_
                  obtain ⟨u17597, hu17597, r17621⟩ := bind_some r13511; clear r13511
                  obtain ⟨u17603, hu17603, r17622⟩ := bind_some r17621; clear r17621
                  obtain ⟨u17607, hu17607, r17623⟩ := bind_some r17622; clear r17622
                  obtain ⟨u17613, hu17613, r17624⟩ := bind_some r17623; clear r17623
                  obtain ⟨u17617, hu17617, r17625⟩ := bind_some r17624; clear r17624
                  refine Cov.dq (.move rfl) rfl ?_
                  refine Cov.dq (.move rfl) rfl ?_
                  refine Cov.dq (.move rfl) rfl ?_
                  refine Cov.dq (.len_sl rfl rfl sl22) rfl ?_
                  refine Cov.dq (.move rfl) rfl ?_
                  refine Cov.callS (b1 := [_]) (b2 := [_, _, _]) (s1 := []) [_, _] [] .d1 rfl rfl Try.call15 rfl rfl (make_Deck_Next_c (G := G84) List.mem_cons_self s13496 hu17597) rfl (fun v17627 bo so h17626 => ?_)
                  obtain ⟨a17628, k17629, rfl, rfl, rfl, s17630⟩ := h17626
                  refine Cov.same (bl' := [_, _, _, _]) (sl' := [_, _]) rfl rfl rfl ?_
                  refine Cov.clsL (HpLe.refl _) (pick_mem [1, 2, 3] rfl) ?_
                  refine Cov.alt ?_ ?_
                  · obtain ⟨c17631, p17632, h17633⟩ := OL.get o13509 hu17603
                    obtain rfl := h17633
                    refine Cov.q .d1 (.idxO 0 rfl rfl rfl hu17603 sl22 ty3.sz) rfl ?_
                    refine Cov.clsL (HpLe.refl _) (pick_mem [1, 2, 3] rfl) ?_
                    refine Cov.alt ?_ ?_
                    · refine Cov.q .d1 (.loadO 0 0 rfl hu17603 p17632 rfl (.inl ⟨rfl, rfl⟩) ty3 rfl) rfl ?_
                      refine Cov.clsL (HpLe.refl _) (pick_mem [1, 2, 3] rfl) ?_
                      refine Cov.callS (b1 := [_]) (b2 := [_, _, _]) (s1 := []) [_, _] [] .d1 rfl rfl Try.call15 rfl rfl (make_Deck_Next_c (G := G84) List.mem_cons_self s17630 hu17607) rfl (fun v17635 bo so h17634 => ?_)
                      obtain ⟨a17636, k17637, rfl, rfl, rfl, s17638⟩ := h17634
                      refine Cov.same (bl' := [_, _, _, _]) (sl' := [_, _]) rfl rfl rfl ?_
                      refine Cov.clsL (HpLe.refl _) (pick_mem [1, 2, 3] rfl) ?_
                      refine Cov.dq (.subw rfl rfl) rfl ?_
                      refine Cov.dq (.addw rfl rfl) rfl ?_
                      obtain ⟨c17639, p17640, h17641⟩ := OL.get o13509 hu17613
                      obtain rfl := h17641
                      refine Cov.q .d2 (.idxO 0 rfl rfl rfl hu17613 sl22 ty3.sz) rfl ?_
                      refine Cov.storeR 0 0 (Q := (Rep.int .i64)) .d2 rfl rfl o13509 hu17617 rfl (.inl ⟨rfl, rfl⟩) rfl ty3 p17640 ((Rep.intI .i64 (w64 (u17603 + (w64 (u17607.1 - 1))))) :) rfl rfl (fun cs17642 hlcs17642 o17643 => ?_)
                      refine Cov.reval 96 hlcs17642 rfl ?_
                      refine Cov.reval 23 hlcs17642 rfl ?_
                      refine Cov.reval 97 hlcs17642 rfl ?_
                      refine Cov.reval 99 hlcs17642 rfl ?_
                      refine Cov.draw_end ?_
                      refine Cov.prune [(2, _), (3, _), (4, _), (5, _), (7, _), (17, _), (20, _), (18, _), (19, _), (21, _), (22, _), (23, _)] ⟨rfl, rfl, rfl, rfl, rfl, rfl, rfl, rfl, rfl, rfl, rfl, rfl, trivial⟩ ?_
                      refine Cov.prune _ ?_ (Cov.same rfl rfl rfl (hb17596 (u17617, a13506, k13507, cs17642, u17607.2.1, a17636, k17637, u17607.2.2) ⟨o17643, s17638, r17625⟩))
                      exact ⟨rfl, rfl, rfl, rfl, rfl, rfl, rfl, rfl, rfl, rfl, rfl, rfl, trivial⟩
                    · refine Cov.callS (b1 := [_]) (b2 := [_, _, _]) (s1 := []) [_, _] [] .d1 rfl rfl Try.call15 rfl rfl (make_Deck_Next_c (G := G84) List.mem_cons_self s17630 hu17607) rfl (fun v17646 bo so h17645 => ?_)
                      obtain ⟨a17647, k17648, rfl, rfl, rfl, s17649⟩ := h17645
                      refine Cov.same (bl' := [_, _, _, _]) (sl' := [_, _]) rfl rfl rfl ?_
                      refine Cov.clsL (HpLe.refl _) (pick_mem [1, 2, 3] rfl) ?_
                      refine Cov.dq (.subw rfl rfl) rfl ?_
                      refine Cov.q .d1 (.loadO 0 0 rfl hu17603 p17632 rfl (.inl ⟨rfl, rfl⟩) ty3 rfl) rfl ?_
                      refine Cov.clsL (HpLe.refl _) (pick_mem [1, 2, 3] rfl) ?_
                      refine Cov.dq (.addw rfl rfl) rfl ?_
                      obtain ⟨c17650, p17651, h17652⟩ := OL.get o13509 hu17613
                      obtain rfl := h17652
                      refine Cov.q .d2 (.idxO 0 rfl rfl rfl hu17613 sl22 ty3.sz) rfl ?_
                      refine Cov.storeR 0 0 (Q := (Rep.int .i64)) .d2 rfl rfl o13509 hu17617 rfl (.inl ⟨rfl, rfl⟩) rfl ty3 p17651 ((Rep.intI .i64 (w64 (u17603 + (w64 (u17607.1 - 1))))) :) rfl rfl (fun cs17653 hlcs17653 o17654 => ?_)
                      refine Cov.reval 96 hlcs17653 rfl ?_
                      refine Cov.reval 23 hlcs17653 rfl ?_
                      refine Cov.reval 97 hlcs17653 rfl ?_
                      refine Cov.reval 99 hlcs17653 rfl ?_
                      refine Cov.draw_end ?_
                      refine Cov.prune [(2, _), (3, _), (4, _), (5, _), (7, _), (17, _), (20, _), (18, _), (19, _), (21, _), (22, _), (23, _)] ⟨rfl, rfl, rfl, rfl, rfl, rfl, rfl, rfl, rfl, rfl, rfl, rfl, trivial⟩ ?_
                      refine Cov.prune _ ?_ (Cov.same rfl rfl rfl (hb17596 (u17617, a13506, k13507, cs17653, u17607.2.1, a17647, k17648, u17607.2.2) ⟨o17654, s17649, r17625⟩))
                      exact ⟨rfl, rfl, rfl, rfl, rfl, rfl, rfl, rfl, rfl, rfl, rfl, rfl, trivial⟩
                  · refine Cov.callS (b1 := [_]) (b2 := [_, _, _]) (s1 := []) [_, _] [] .d1 rfl rfl Try.call15 rfl rfl (make_Deck_Next_c (G := G84) List.mem_cons_self s17630 hu17607) rfl (fun v17657 bo so h17656 => ?_)
                    obtain ⟨a17658, k17659, rfl, rfl, rfl, s17660⟩ := h17656
                    refine Cov.same (bl' := [_, _, _, _]) (sl' := [_, _]) rfl rfl rfl ?_
                    refine Cov.clsL (HpLe.refl _) (pick_mem [1, 2, 3] rfl) ?_
                    refine Cov.dq (.subw rfl rfl) rfl ?_
                    obtain ⟨c17661, p17662, h17663⟩ := OL.get o13509 hu17603
                    obtain rfl := h17663
                    refine Cov.q .d1 (.idxO 0 rfl rfl rfl hu17603 sl22 ty3.sz) rfl ?_
                    refine Cov.clsL (HpLe.refl _) (pick_mem [1, 2, 3] rfl) ?_
                    refine Cov.q .d1 (.loadO 0 0 rfl hu17603 p17662 rfl (.inl ⟨rfl, rfl⟩) ty3 rfl) rfl ?_
                    refine Cov.clsL (HpLe.refl _) (pick_mem [1, 2, 3] rfl) ?_
                    refine Cov.dq (.addw rfl rfl) rfl ?_
                    obtain ⟨c17664, p17665, h17666⟩ := OL.get o13509 hu17613
                    obtain rfl := h17666
                    refine Cov.q .d2 (.idxO 0 rfl rfl rfl hu17613 sl22 ty3.sz) rfl ?_
                    refine Cov.storeR 0 0 (Q := (Rep.int .i64)) .d2 rfl rfl o13509 hu17617 rfl (.inl ⟨rfl, rfl⟩) rfl ty3 p17665 ((Rep.intI .i64 (w64 (u17603 + (w64 (u17607.1 - 1))))) :) rfl rfl (fun cs17667 hlcs17667 o17668 => ?_)
                    refine Cov.reval 96 hlcs17667 rfl ?_
                    refine Cov.reval 23 hlcs17667 rfl ?_
                    refine Cov.reval 97 hlcs17667 rfl ?_
                    refine Cov.reval 99 hlcs17667 rfl ?_
                    refine Cov.draw_end ?_
                    refine Cov.prune [(2, _), (3, _), (4, _), (5, _), (7, _), (17, _), (20, _), (18, _), (19, _), (21, _), (22, _), (23, _)] ⟨rfl, rfl, rfl, rfl, rfl, rfl, rfl, rfl, rfl, rfl, rfl, rfl, trivial⟩ ?_
                    refine Cov.prune _ ?_ (Cov.same rfl rfl rfl (hb17596 (u17617, a13506, k13507, cs17667, u17607.2.1, a17658, k17659, u17607.2.2) ⟨o17668, s17660, r17625⟩))
                    exact ⟨rfl, rfl, rfl, rfl, rfl, rfl, rfl, rfl, rfl, rfl, rfl, rfl, trivial⟩
              · have r21636 := ifF r108 c13488; clear r108
                refine Cov.skip ?_
                refine Cov.pull 3 rfl [_, _, _, _] rfl ?_
                refine Cov.pull 2 rfl [_, _, _, _] rfl ?_
                refine Cov.pull 2 rfl [_, _, _, _] rfl ?_
                refine Cov.pull 3 rfl [_, _, _, _] rfl ?_
                refine Cov.prune _ ?_ (Cov.same rfl rfl rfl (hb13487 (G84, u107, a103, k104, cs105, u80.2.2.2.2.1, a97, k98, u80.2.2.2.2.2) ⟨(HpLe.refl _), B86, o106, s99, r21636⟩))
                exact ⟨rfl, rfl, rfl, rfl, rfl, rfl, rfl, rfl, rfl, rfl, trivial⟩
        · intro hb63
          refine Cov.split 69 rfl (fun c62 => ?_) (fun c62 => ?_)
          · have r21637 := ifT h65 c62
            refine Cov.g_off rfl rfl rfl ?_
            refine Cov.g_off rfl rfl rfl ?_
            refine Cov.g_off rfl rfl rfl ?_
            refine Cov.q .ro (.pick_t rfl rfl) rfl ?_
            refine Cov.prune _ ?_ (Cov.same rfl rfl rfl (hb63 () trivial))
            exact ⟨sval r21637, rfl, rfl, rfl, rfl, rfl, rfl, trivial⟩
          · have r21638 := ifF h65 c62
            refine Cov.g_on rfl ?_
            refine Cov.q .ro (.move rfl) rfl ?_
            refine Cov.g_on rfl ?_
            obtain ⟨u21639, hu21639, r21640⟩ := bind_some r21638; clear r21638
            refine Cov.callS (b1 := []) (b2 := [_]) (s1 := []) [_] [] .ro rfl rfl Try.call12 rfl rfl (law13_small_c (G := G) List.mem_cons_self s5 hu21639) rfl (fun v21642 bo so h21641 => ?_)
            obtain ⟨rfl, rfl, rfl⟩ := h21641
            refine Cov.same (bl' := [_]) (sl' := []) rfl rfl rfl ?_
            refine Cov.g_on rfl ?_
            refine Cov.q .ro (.not rfl) rfl ?_
            refine Cov.q .ro (.pick_f rfl rfl) rfl ?_
            refine Cov.prune _ ?_ (Cov.same rfl rfl rfl (hb63 () trivial))
            exact ⟨sval r21640, rfl, rfl, rfl, rfl, rfl, rfl, trivial⟩
      · intro hb55
        refine Cov.split_b 65 rfl (fun c54 => ?_) (fun c54 => ?_)
        · refine Cov.g_off rfl rfl rfl ?_
          refine Cov.g_off rfl rfl rfl ?_
          refine Cov.q .ro (.pick_t rfl rfl) rfl ?_
          refine Cov.prune _ ?_ (Cov.same rfl rfl rfl (hb55 () trivial))
          exact ⟨dor_t c54, rfl, rfl, rfl, rfl, rfl, rfl, trivial⟩
        · refine Cov.g_on rfl ?_
          refine Cov.q .ro (.move rfl) rfl ?_
          refine Cov.g_on rfl ?_
          refine Cov.q .ro (.gtr rfl rfl) rfl ?_
          refine Cov.q .ro (.pick_f rfl rfl) rfl ?_
          refine Cov.prune _ ?_ (Cov.same rfl rfl rfl (hb55 () trivial))
          exact ⟨dor_f (bne_of c54), rfl, rfl, rfl, rfl, rfl, rfl, trivial⟩
    · intro hb21643
      refine Cov.block ?_
      refine Cov.loop2 (α := Nat × List ByteArray × Int) (fun y => [(13, .int .i64 y.2.2), (52, .int .i64 (y.1 : Int))]) [(0, _), (2, _), (3, _), (4, _), (5, _), (7, _), (50, _), (51, _)] (fun y => []) (fun y => []) [_] (fun y => []) [] (fun y => List.drop y.1 x4 = y.2.1 ∧ law13_LayoutDoes_L10 (law13_LayoutDoes_J9 x0 x2 x3 x4 x5) x1_0 y.2.1 y.2.2 = some r) (fun y => y.2.1.length) (0, x4, 0) ⟨rfl, r8⟩ ⟨rfl, rfl, rfl, rfl, rfl, rfl, rfl, rfl, rfl, rfl, trivial⟩ rfl rfl rfl (fun y hI hb21662 => ?_)
      obtain ⟨i21657, w21658, v21660⟩ := y
      obtain ⟨g21659, r21661⟩ := hI
      try dsimp only at g21659 r21661
      refine Cov.prune [(13, .int .i64 v21660), (52, .int .i64 (i21657 : Int)), (0, _), (2, _), (3, _), (4, _), (5, _), (7, _), (50, _), (51, _)] ⟨rfl, rfl, rfl, rfl, rfl, rfl, rfl, rfl, rfl, rfl, trivial⟩ ?_
      refine Cov.same (bl' := [_]) (sl' := []) (Fs' := G :: Fs) rfl rfl rfl ?_
      cases w21658 with
      | nil =>
        rw [law13_LayoutDoes_L10] at r21661; try dsimp only at r21661
        refine Cov.seq ?_
        refine Cov.region rfl ?_
        refine Cov.q .ro (.lss rfl rfl) rfl ?_
        refine Cov.region_end ?_
        refine Cov.seq ?_
        refine Cov.cond_dec rfl (fun c => absurd c (drop_nil g21659)) (fun _ => ?_)
        refine Cov.exit rfl ?_
        refine Cov.prune _ ?_ (Cov.same rfl rfl rfl (hb21643 (v21660, x1_0) r21661))
        exact ⟨rfl, rfl, rfl, rfl, rfl, rfl, rfl, trivial⟩
      | cons x21671 xs21672 =>
        have r21670 : law13_LayoutDoes_B10 (law13_LayoutDoes_J9 x0 x2 x3 x4 x5) x1_0 (law13_LayoutDoes_L10 (law13_LayoutDoes_J9 x0 x2 x3 x4 x5) x1_0 xs21672) x21671 v21660 = some r := r21661; clear r21661; unfold law13_LayoutDoes_B10 at r21670; try dsimp only at r21670
        refine Cov.seq ?_
        refine Cov.region rfl ?_
        refine Cov.q .ro (.lss rfl rfl) rfl ?_
        refine Cov.region_end ?_
        refine Cov.seq ?_
        refine Cov.cond_dec rfl (fun _ => ?_) (fun c => absurd (drop_lt g21659) c)
        refine Cov.skip ?_
        refine Cov.seq ?_
        refine Cov.block ?_
        refine Cov.seq ?_
        refine Cov.region rfl ?_
        obtain ⟨c21673, p21674, h21675⟩ := SlR.get s4 (drop_idx g21659)
        obtain rfl := h21675
        refine Cov.q .ro (.idxR s4 rfl rfl (drop_idx g21659) sl25 ty9.sz) rfl ?_
        refine Cov.q .ro (.load_rp p21674 List.mem_cons_self rfl ty9 rfl) rfl ?_
        refine Cov.q .ro (.assign rfl) rfl ?_
        refine Cov.region_end ?_
        refine Cov.region rfl ?_
        refine Cov.q .ro (.move rfl) rfl ?_
        refine Cov.q .ro (.move rfl) rfl ?_
        refine Cov.q .ro (.len_s rfl Try.underlying9) rfl ?_
        refine Cov.q .ro (.addw rfl rfl) rfl ?_
        refine Cov.q .ro (.addw rfl rfl) rfl ?_
        refine Cov.q .ro (.assign rfl) rfl ?_
        refine Cov.region_end ?_
        refine Cov.inBlock ?_
        refine Cov.region rfl ?_
        refine Cov.q .ro (.addw rfl rfl) rfl ?_
        refine Cov.q .ro (.move rfl) rfl ?_
        refine Cov.region_end ?_
        refine Cov.prune _ ?_ (Cov.same rfl rfl rfl (hb21662 ((i21657 + 1), xs21672, (w64 (v21660 + (w64 (1 + (x21671.size : Int)))))) ⟨(drop_succ g21659), r21670⟩ (Nat.lt_succ_self _)))
        exact ⟨rfl, (congrArg (fun z => some (Value.int .i64 z)) (idx_wrap (SlR.len s4) g21659)), rfl, rfl, rfl, rfl, rfl, rfl, rfl, rfl, trivial⟩

end Go.Proofs.Ythgmcgldmahgeaa
